/-
  na.through.
-/
import Derived.Test.YgcoaaGreatNaI
import Derived.Test.YgcoaaGreatDetE
set_option linter.unusedVariables false
set_option linter.unusedSimpArgs false
set_option maxRecDepth 20000
namespace Go.Proofs.YgcoaaGreat.NatW
open Go.RowKit
open Go.Proofs.YgcoaaGreat.Det
open Go.Proofs.YgcoaaGreat.Limbs Go.Proofs.YgcoaaGreat.Bits
attribute [local go_sem] Go.Instr.field Go.asAgg

theorem fmt_eql (G N : Int) (a b : Int) (h : ¬ (G = a ∧ N = b)) (w : World) : (binOp .eql 23 (.agg #[.int .u8 G, .int .u8 N]) (.agg #[.int .u8 a, .int .u8 b])).run Oaag.prog w = .ok (.bool false) w := by
  by_cases hE : G = a
  · have hM : ¬ N = b := fun h' => h ⟨hE, h'⟩
    have hM' : (N == b) = false := beq_eq_false_iff_ne.2 hM
    have hE' : (G == a) = true := beq_iff_eq.2 hE
    simp [go_sem, hE', hM']
  · have hE' : (G == a) = false := beq_eq_false_iff_ne.2 hE
    simp [go_sem, hE']

set_option maxHeartbeats 2000000 in
theorem th_11_no (G N : Int) (md old a : Int) (tb : Nat) (hOk : DFT tb 67 #[.agg #[.int .u8 G, .int .u8 N]] (.bool false))  : DFT tb 154 #[.agg #[.int .u8 11, .int .u8 52], .agg #[.int .u8 G, .int .u8 N], .int .u8 md, .int .u64 old, .int .u64 a] (.int .u64 old) := by
  intro w K ho hK
  have HK := hide hK
  clear hK
  obtain ⟨wb, x0, hwb, r0, r1, hB, hZ⟩ := boxes2 w #[.int .u8 11, .int .u8 52] #[.int .u8 G, .int .u8 N] 23 23
  have c00 : ∀ x : Later wb, _ = some (.int .u8 11 : Value) := Later.cell r0 0 _ rfl
  have c01 : ∀ x : Later wb, _ = some (.int .u8 52 : Value) := Later.cell r0 1 _ rfl
  have c10 : ∀ x : Later wb, _ = some (.int .u8 G : Value) := Later.cell r1 0 _ rfl
  have c11 : ∀ x : Later wb, _ = some (.int .u8 N : Value) := Later.cell r1 1 _ rfl
  have hne : Nonempty (Later wb) := ⟨x0⟩
  have hon : ∀ y : Later wb, On tb y.at_ := fun y => ho.later (hB y)
  have HON := hide hon
  have HhOk := hide hOk
  clear ho hon r0 r1 hOk 
  go_enter Oaag.func154, Oaag.ntmps154
  go_wp2_with (first
    | ((with_reducible refine at_later 67 ?_); (with_reducible refine DFT.run (unhide HhOk) (unhide HON) _ ?_); intro y__)
    | fail)
  all_goals exact unhide HK _ (hB _)

set_option maxHeartbeats 2000000 in
theorem th_11_same (md old a : Int) (tb : Nat) (hOk : DFT tb 67 #[.agg #[.int .u8 11, .int .u8 52]] (.bool true)) (r : Int) (hCl : DFT tb 148 #[.agg #[.int .u8 11, .int .u8 52], .int .u64 a] (.int .u64 r)) : DFT tb 154 #[.agg #[.int .u8 11, .int .u8 52], .agg #[.int .u8 11, .int .u8 52], .int .u8 md, .int .u64 old, .int .u64 a] (.int .u64 r) := by
  intro w K ho hK
  have HK := hide hK
  clear hK
  obtain ⟨wb, x0, hwb, r0, r1, hB, hZ⟩ := boxes2 w #[.int .u8 11, .int .u8 52] #[.int .u8 11, .int .u8 52] 23 23
  have c00 : ∀ x : Later wb, _ = some (.int .u8 11 : Value) := Later.cell r0 0 _ rfl
  have c01 : ∀ x : Later wb, _ = some (.int .u8 52 : Value) := Later.cell r0 1 _ rfl
  have c10 : ∀ x : Later wb, _ = some (.int .u8 11 : Value) := Later.cell r1 0 _ rfl
  have c11 : ∀ x : Later wb, _ = some (.int .u8 52 : Value) := Later.cell r1 1 _ rfl
  have hne : Nonempty (Later wb) := ⟨x0⟩
  have hon : ∀ y : Later wb, On tb y.at_ := fun y => ho.later (hB y)
  have HON := hide hon
  have HhOk := hide hOk
  have HhCl := hide hCl
  clear ho hon r0 r1 hOk hCl
  go_enter Oaag.func154, Oaag.ntmps154
  go_wp2_with (first
    | ((with_reducible refine at_later 67 ?_); (with_reducible refine DFT.run (unhide HhOk) (unhide HON) _ ?_); intro y__)
    | ((with_reducible refine at_later 148 ?_); (with_reducible refine DFT.run (unhide HhCl) (unhide HON) _ ?_); intro y__)
    | fail)
  all_goals exact unhide HK _ (hB _)

set_option maxHeartbeats 2000000 in
theorem th_11_nar (md old a : Int) (tb : Nat) (hOk : DFT tb 67 #[.agg #[.int .u8 8, .int .u8 23]] (.bool true)) (z r : Int) (hNa : DFT tb 290 #[.int .u64 a] (.int .u32 z)) (hWi : DFT tb 289 #[.int .u32 z] (.int .u64 r)) : DFT tb 154 #[.agg #[.int .u8 11, .int .u8 52], .agg #[.int .u8 8, .int .u8 23], .int .u8 md, .int .u64 old, .int .u64 a] (.int .u64 r) := by
  intro w K ho hK
  have HK := hide hK
  clear hK
  obtain ⟨wb, x0, hwb, r0, r1, hB, hZ⟩ := boxes2 w #[.int .u8 11, .int .u8 52] #[.int .u8 8, .int .u8 23] 23 23
  have c00 : ∀ x : Later wb, _ = some (.int .u8 11 : Value) := Later.cell r0 0 _ rfl
  have c01 : ∀ x : Later wb, _ = some (.int .u8 52 : Value) := Later.cell r0 1 _ rfl
  have c10 : ∀ x : Later wb, _ = some (.int .u8 8 : Value) := Later.cell r1 0 _ rfl
  have c11 : ∀ x : Later wb, _ = some (.int .u8 23 : Value) := Later.cell r1 1 _ rfl
  have hne : Nonempty (Later wb) := ⟨x0⟩
  have hon : ∀ y : Later wb, On tb y.at_ := fun y => ho.later (hB y)
  have HON := hide hon
  have HhOk := hide hOk
  have HhNa := hide hNa
  have HhWi := hide hWi
  clear ho hon r0 r1 hOk hNa hWi
  go_enter Oaag.func154, Oaag.ntmps154
  go_wp2_with (first
    | ((with_reducible refine at_later 67 ?_); (with_reducible refine DFT.run (unhide HhOk) (unhide HON) _ ?_); intro y__)
    | ((with_reducible refine at_later 290 ?_); (with_reducible refine DFT.run (unhide HhNa) (unhide HON) _ ?_); intro y__)
    | ((with_reducible refine at_later 289 ?_); (with_reducible refine DFT.run (unhide HhWi) (unhide HON) _ ?_); intro y__)
    | fail)
  refine Go.LaxQ.region_guarded _ 4 3 [] [(1, fun v => v = .agg #[.int .u8 8, .int .u8 23]), (2, fun v => v = .bool true)] [] (fun _ => True) (by kernel_rfl) (by kernel_rfl) (by kernel_rfl) (by kernel_rfl) trivial (fun _ _ _ _ => trivial) (fun _ h => by cases h) (List.forall_mem_cons.2 ⟨⟨_, rfl⟩, List.forall_mem_cons.2 ⟨⟨_, rfl⟩, fun _ h => by cases h⟩⟩) ?_
  (refine Go.LaxQ.walk_det rfl rfl rfl rfl rfl ?_; go_big_quiet_want; go_big_quiet_op; go_big_quiet_on; refine wpQuiet_nil ?_)
  refine Go.LaxQ.q_call rfl rfl rfl rfl (fun _ _ _ _ => trivial) ?_ (fun y K hI hG hK => by
      go_wp2_with fail
      refine fmt73_ret _ _ ?_
      rintro _ w' rfl hb
      have hh := Go.Proofs.YgcoaaGreat.NatW.hide (hK _ w' rfl trivial hb)
      clear hK
      go_wp2_with fail
      exact Eq.mp (by kernel_rfl) (Go.Proofs.YgcoaaGreat.NatW.unhide hh))
  rintro v9 rfl
  ((try dsimp only); go_big_quiet_want; go_big_quiet_op; go_big_quiet_on; refine wpQuiet_nil ?_)
  refine Go.LaxQ.q_call rfl rfl rfl rfl (fun _ _ _ _ => trivial) ?_ (fun y K hI hG hK => by
      have HK := hide hK
      clear hK
      go_wp2_with fail
      exact unhide HK _ _ rfl trivial (Below.refl _ _))
  rintro v9 rfl
  ((try dsimp only); go_big_quiet_want; go_big_quiet_op; go_big_quiet_on; refine wpQuiet_nil ?_)
  (refine Go.LaxQ.walk_det rfl rfl rfl rfl rfl ?_; go_big_quiet_want; go_big_quiet_op; go_big_quiet_on; refine wpQuiet_nil ?_)
  refine Go.LaxQ.q_end ?_
  intro y hI hG
  clear hI hG
  go_wp2_with (first
    | ((with_reducible refine at_later 67 ?_); (with_reducible refine DFT.run (unhide HhOk) (unhide HON) _ ?_); intro y__)
    | ((with_reducible refine at_later 290 ?_); (with_reducible refine DFT.run (unhide HhNa) (unhide HON) _ ?_); intro y__)
    | ((with_reducible refine at_later 289 ?_); (with_reducible refine DFT.run (unhide HhWi) (unhide HON) _ ?_); intro y__)
    | fail)
  all_goals exact unhide HK _ (hB _)

set_option maxHeartbeats 2000000 in
theorem th_11_conv (G N : Int) (md old a : Int) (tb : Nat) (hOk : DFT tb 67 #[.agg #[.int .u8 G, .int .u8 N]] (.bool true)) (h64 : ¬ (G = 11 ∧ N = 52)) (h32 : ¬ (G = 8 ∧ N = 23)) (z r : Int) (hC1 : DFT tb 101 #[.agg #[.int .u8 11, .int .u8 52], .agg #[.int .u8 G, .int .u8 N], .int .u8 md, .int .u64 a] (.int .u64 z)) (hC2 : DFT tb 101 #[.agg #[.int .u8 G, .int .u8 N], .agg #[.int .u8 11, .int .u8 52], .int .u8 md, .int .u64 z] (.int .u64 r)) : DFT tb 154 #[.agg #[.int .u8 11, .int .u8 52], .agg #[.int .u8 G, .int .u8 N], .int .u8 md, .int .u64 old, .int .u64 a] (.int .u64 r) := by
  intro w K ho hK
  have HK := hide hK
  clear hK
  have hn1 := fmt_eql G N 11 52 h64
  have hn2 := fmt_eql G N 8 23 h32
  obtain ⟨wb, x0, hwb, r0, r1, hB, hZ⟩ := boxes2 w #[.int .u8 11, .int .u8 52] #[.int .u8 G, .int .u8 N] 23 23
  have c00 : ∀ x : Later wb, _ = some (.int .u8 11 : Value) := Later.cell r0 0 _ rfl
  have c01 : ∀ x : Later wb, _ = some (.int .u8 52 : Value) := Later.cell r0 1 _ rfl
  have c10 : ∀ x : Later wb, _ = some (.int .u8 G : Value) := Later.cell r1 0 _ rfl
  have c11 : ∀ x : Later wb, _ = some (.int .u8 N : Value) := Later.cell r1 1 _ rfl
  have hne : Nonempty (Later wb) := ⟨x0⟩
  have hon : ∀ y : Later wb, On tb y.at_ := fun y => ho.later (hB y)
  have HON := hide hon
  have HhOk := hide hOk
  have HhC1 := hide hC1
  have HhC2 := hide hC2
  clear ho hon r0 r1 hOk hC1 hC2
  go_enter Oaag.func154, Oaag.ntmps154
  go_wp2_with (first
    | ((with_reducible refine at_later 67 ?_); (with_reducible refine DFT.run (unhide HhOk) (unhide HON) _ ?_); intro y__)
    | ((with_reducible refine at_later 101 ?_); (with_reducible refine DFT.run (unhide HhC1) (unhide HON) _ ?_); intro y__)
    | ((with_reducible refine at_later 101 ?_); (with_reducible refine DFT.run (unhide HhC2) (unhide HON) _ ?_); intro y__)
    | fail)
  refine Go.LaxQ.region_guarded _ 4 3 [] [(1, fun v => v = .agg #[.int .u8 8, .int .u8 23]), (2, fun v => v = .bool false)] [] (fun _ => True) (by kernel_rfl) (by kernel_rfl) (by kernel_rfl) (by kernel_rfl) trivial (fun _ _ _ _ => trivial) (fun _ h => by cases h) (List.forall_mem_cons.2 ⟨⟨_, rfl⟩, List.forall_mem_cons.2 ⟨⟨_, rfl⟩, fun _ h => by cases h⟩⟩) ?_
  (refine Go.LaxQ.walk_det rfl rfl rfl rfl rfl ?_; go_big_quiet_want; go_big_quiet_op; go_big_quiet_on; refine wpQuiet_nil ?_)
  refine Go.LaxQ.q_call rfl rfl rfl rfl (fun _ _ _ _ => trivial) ?_ (fun y K hI hG hK => by
      go_wp2_with fail
      refine fmt73_ret _ _ ?_
      rintro _ w' rfl hb
      have hh := Go.Proofs.YgcoaaGreat.NatW.hide (hK _ w' rfl trivial hb)
      clear hK
      go_wp2_with fail
      exact Eq.mp (by kernel_rfl) (Go.Proofs.YgcoaaGreat.NatW.unhide hh))
  rintro v9 rfl
  ((try dsimp only); go_big_quiet_want; go_big_quiet_op; go_big_quiet_on; refine wpQuiet_nil ?_)
  refine Go.LaxQ.q_call rfl rfl rfl rfl (fun _ _ _ _ => trivial) ?_ (fun y K hI hG hK => by
      have HK := hide hK
      clear hK
      go_wp2_with fail
      exact unhide HK _ _ rfl trivial (Below.refl _ _))
  rintro v9 rfl
  ((try dsimp only); go_big_quiet_want; go_big_quiet_op; go_big_quiet_on; refine wpQuiet_nil ?_)
  (refine Go.LaxQ.walk_det rfl rfl rfl rfl rfl ?_; go_big_quiet_want; go_big_quiet_op; go_big_quiet_on; refine wpQuiet_nil ?_)
  refine Go.LaxQ.q_end ?_
  intro y hI hG
  clear hI hG
  go_wp2_with (first
    | ((with_reducible refine at_later 67 ?_); (with_reducible refine DFT.run (unhide HhOk) (unhide HON) _ ?_); intro y__)
    | ((with_reducible refine at_later 101 ?_); (with_reducible refine DFT.run (unhide HhC1) (unhide HON) _ ?_); intro y__)
    | ((with_reducible refine at_later 101 ?_); (with_reducible refine DFT.run (unhide HhC2) (unhide HON) _ ?_); intro y__)
    | fail)
  refine Go.LaxQ.region_guarded _ 4 3 [] [(1, fun v => v = .agg #[.int .u8 11, .int .u8 52]), (2, fun v => v = .bool false)] [] (fun _ => True) (by kernel_rfl) (by kernel_rfl) (by kernel_rfl) (by kernel_rfl) trivial (fun _ _ _ _ => trivial) (fun _ h => by cases h) (List.forall_mem_cons.2 ⟨⟨_, rfl⟩, List.forall_mem_cons.2 ⟨⟨_, rfl⟩, fun _ h => by cases h⟩⟩) ?_
  (refine Go.LaxQ.walk_det rfl rfl rfl rfl rfl ?_; go_big_quiet_want; go_big_quiet_op; go_big_quiet_on; refine wpQuiet_nil ?_)
  refine Go.LaxQ.q_call rfl rfl rfl rfl (fun _ _ _ _ => trivial) ?_ (fun y K hI hG hK => by
      go_wp2_with fail
      refine fmt74_ret _ _ ?_
      rintro _ w' rfl hb
      have hh := Go.Proofs.YgcoaaGreat.NatW.hide (hK _ w' rfl trivial hb)
      clear hK
      go_wp2_with fail
      exact Eq.mp (by kernel_rfl) (Go.Proofs.YgcoaaGreat.NatW.unhide hh))
  rintro v9 rfl
  ((try dsimp only); go_big_quiet_want; go_big_quiet_op; go_big_quiet_on; refine wpQuiet_nil ?_)
  refine Go.LaxQ.q_call rfl rfl rfl rfl (fun _ _ _ _ => trivial) ?_ (fun y K hI hG hK => by
      have HK := hide hK
      clear hK
      go_wp2_with fail
      exact unhide HK _ _ rfl trivial (Below.refl _ _))
  rintro v9 rfl
  ((try dsimp only); go_big_quiet_want; go_big_quiet_op; go_big_quiet_on; refine wpQuiet_nil ?_)
  (refine Go.LaxQ.walk_det rfl rfl rfl rfl rfl ?_; go_big_quiet_want; go_big_quiet_op; go_big_quiet_on; refine wpQuiet_nil ?_)
  refine Go.LaxQ.q_end ?_
  intro y hI hG
  clear hI hG
  go_wp2_with (first
    | ((with_reducible refine at_later 67 ?_); (with_reducible refine DFT.run (unhide HhOk) (unhide HON) _ ?_); intro y__)
    | ((with_reducible refine at_later 101 ?_); (with_reducible refine DFT.run (unhide HhC1) (unhide HON) _ ?_); intro y__)
    | ((with_reducible refine at_later 101 ?_); (with_reducible refine DFT.run (unhide HhC2) (unhide HON) _ ?_); intro y__)
    | fail)
  refine Go.LaxQ.region_guarded _ 9 4 [] [(7, fun v => v = .int .u64 z), (8, fun v => v = .int .u64 r)] [] (fun _ => True) (by kernel_rfl) (by kernel_rfl) (by kernel_rfl) (by kernel_rfl) trivial (fun _ _ _ _ => trivial) (fun _ h => by cases h) (List.forall_mem_cons.2 ⟨⟨_, rfl⟩, List.forall_mem_cons.2 ⟨⟨_, rfl⟩, fun _ h => by cases h⟩⟩) ?_
  (refine Go.LaxQ.walk_det rfl rfl rfl rfl rfl ?_; go_big_quiet_want; go_big_quiet_op; go_big_quiet_on; refine wpQuiet_nil ?_)
  (refine Go.LaxQ.walk_det rfl rfl rfl rfl rfl ?_; go_big_quiet_want; go_big_quiet_op; go_big_quiet_on; refine wpQuiet_nil ?_)
  (refine Go.LaxQ.walk_det rfl rfl rfl rfl rfl ?_; go_big_quiet_want; go_big_quiet_op; go_big_quiet_on; refine wpQuiet_nil ?_)
  (refine Go.LaxQ.walk_det rfl rfl rfl rfl rfl ?_; go_big_quiet_want; go_big_quiet_op; go_big_quiet_on; refine wpQuiet_nil ?_)
  (refine Go.LaxQ.walk_det rfl rfl rfl rfl rfl ?_; go_big_quiet_want; go_big_quiet_op; go_big_quiet_on; refine wpQuiet_nil ?_)
  (refine Go.LaxQ.walk_det rfl rfl rfl rfl rfl ?_; go_big_quiet_want; go_big_quiet_op; go_big_quiet_on; refine wpQuiet_nil ?_)
  (refine Go.LaxQ.walk_det rfl rfl rfl rfl rfl ?_; go_big_quiet_want; go_big_quiet_op; go_big_quiet_on; refine wpQuiet_nil ?_)
  refine Go.LaxQ.q_call rfl rfl rfl rfl (fun _ _ _ _ => trivial) ?_ (fun y K hI hG hK => by
      go_wp2_with fail
      refine (unhide HhC1) _ _ (unhide HON _) ?_
      intro w' hb
      have hh := Go.Proofs.YgcoaaGreat.NatW.hide (hK _ w' rfl trivial hb)
      clear hK
      go_wp2_with fail
      exact Eq.mp (by kernel_rfl) (Go.Proofs.YgcoaaGreat.NatW.unhide hh))
  rintro v9 rfl
  ((try dsimp only); go_big_quiet_want; go_big_quiet_op; go_big_quiet_on; refine wpQuiet_nil ?_)
  refine Go.LaxQ.q_call rfl rfl rfl rfl (fun _ _ _ _ => trivial) ?_ (fun y K hI hG hK => by
      go_wp2_with fail
      refine (unhide HhC2) _ _ (unhide HON _) ?_
      intro w' hb
      have hh := Go.Proofs.YgcoaaGreat.NatW.hide (hK _ w' rfl trivial hb)
      clear hK
      go_wp2_with fail
      exact Eq.mp (by kernel_rfl) (Go.Proofs.YgcoaaGreat.NatW.unhide hh))
  rintro v9 rfl
  ((try dsimp only); go_big_quiet_want; go_big_quiet_op; go_big_quiet_on; refine wpQuiet_nil ?_)
  refine Go.LaxQ.q_end ?_
  intro y hI hG
  clear hI hG
  go_wp2_with (first
    | ((with_reducible refine at_later 67 ?_); (with_reducible refine DFT.run (unhide HhOk) (unhide HON) _ ?_); intro y__)
    | ((with_reducible refine at_later 101 ?_); (with_reducible refine DFT.run (unhide HhC1) (unhide HON) _ ?_); intro y__)
    | ((with_reducible refine at_later 101 ?_); (with_reducible refine DFT.run (unhide HhC2) (unhide HON) _ ?_); intro y__)
    | fail)
  all_goals exact unhide HK _ (hB _)

set_option maxHeartbeats 2000000 in
theorem th_8_no (G N : Int) (md old a : Int) (tb : Nat) (hOk : DFT tb 67 #[.agg #[.int .u8 G, .int .u8 N]] (.bool false))  : DFT tb 154 #[.agg #[.int .u8 8, .int .u8 23], .agg #[.int .u8 G, .int .u8 N], .int .u8 md, .int .u64 old, .int .u64 a] (.int .u64 old) := by
  intro w K ho hK
  have HK := hide hK
  clear hK
  obtain ⟨wb, x0, hwb, r0, r1, hB, hZ⟩ := boxes2 w #[.int .u8 8, .int .u8 23] #[.int .u8 G, .int .u8 N] 23 23
  have c00 : ∀ x : Later wb, _ = some (.int .u8 8 : Value) := Later.cell r0 0 _ rfl
  have c01 : ∀ x : Later wb, _ = some (.int .u8 23 : Value) := Later.cell r0 1 _ rfl
  have c10 : ∀ x : Later wb, _ = some (.int .u8 G : Value) := Later.cell r1 0 _ rfl
  have c11 : ∀ x : Later wb, _ = some (.int .u8 N : Value) := Later.cell r1 1 _ rfl
  have hne : Nonempty (Later wb) := ⟨x0⟩
  have hon : ∀ y : Later wb, On tb y.at_ := fun y => ho.later (hB y)
  have HON := hide hon
  have HhOk := hide hOk
  clear ho hon r0 r1 hOk 
  go_enter Oaag.func154, Oaag.ntmps154
  go_wp2_with (first
    | ((with_reducible refine at_later 67 ?_); (with_reducible refine DFT.run (unhide HhOk) (unhide HON) _ ?_); intro y__)
    | fail)
  all_goals exact unhide HK _ (hB _)

set_option maxHeartbeats 2000000 in
theorem th_8_same (md old a : Int) (tb : Nat) (hOk : DFT tb 67 #[.agg #[.int .u8 8, .int .u8 23]] (.bool true)) (r : Int) (hCl : DFT tb 148 #[.agg #[.int .u8 8, .int .u8 23], .int .u64 a] (.int .u64 r)) : DFT tb 154 #[.agg #[.int .u8 8, .int .u8 23], .agg #[.int .u8 8, .int .u8 23], .int .u8 md, .int .u64 old, .int .u64 a] (.int .u64 r) := by
  intro w K ho hK
  have HK := hide hK
  clear hK
  obtain ⟨wb, x0, hwb, r0, r1, hB, hZ⟩ := boxes2 w #[.int .u8 8, .int .u8 23] #[.int .u8 8, .int .u8 23] 23 23
  have c00 : ∀ x : Later wb, _ = some (.int .u8 8 : Value) := Later.cell r0 0 _ rfl
  have c01 : ∀ x : Later wb, _ = some (.int .u8 23 : Value) := Later.cell r0 1 _ rfl
  have c10 : ∀ x : Later wb, _ = some (.int .u8 8 : Value) := Later.cell r1 0 _ rfl
  have c11 : ∀ x : Later wb, _ = some (.int .u8 23 : Value) := Later.cell r1 1 _ rfl
  have hne : Nonempty (Later wb) := ⟨x0⟩
  have hon : ∀ y : Later wb, On tb y.at_ := fun y => ho.later (hB y)
  have HON := hide hon
  have HhOk := hide hOk
  have HhCl := hide hCl
  clear ho hon r0 r1 hOk hCl
  go_enter Oaag.func154, Oaag.ntmps154
  go_wp2_with (first
    | ((with_reducible refine at_later 67 ?_); (with_reducible refine DFT.run (unhide HhOk) (unhide HON) _ ?_); intro y__)
    | ((with_reducible refine at_later 148 ?_); (with_reducible refine DFT.run (unhide HhCl) (unhide HON) _ ?_); intro y__)
    | fail)
  all_goals exact unhide HK _ (hB _)

set_option maxHeartbeats 2000000 in
theorem th_8_wid (md old a : Int) (tb : Nat) (hOk : DFT tb 67 #[.agg #[.int .u8 11, .int .u8 52]] (.bool true)) (z r : Int) (hr0 : 0 ≤ r) (hr1 : r < 4294967296) (hWi : DFT tb 289 #[.int .u32 (a % 4294967296)] (.int .u64 z)) (hNa : DFT tb 290 #[.int .u64 z] (.int .u32 r)) : DFT tb 154 #[.agg #[.int .u8 8, .int .u8 23], .agg #[.int .u8 11, .int .u8 52], .int .u8 md, .int .u64 old, .int .u64 a] (.int .u64 r) := by
  intro w K ho hK
  have HK := hide hK
  clear hK
  obtain ⟨wb, x0, hwb, r0, r1, hB, hZ⟩ := boxes2 w #[.int .u8 8, .int .u8 23] #[.int .u8 11, .int .u8 52] 23 23
  have c00 : ∀ x : Later wb, _ = some (.int .u8 8 : Value) := Later.cell r0 0 _ rfl
  have c01 : ∀ x : Later wb, _ = some (.int .u8 23 : Value) := Later.cell r0 1 _ rfl
  have c10 : ∀ x : Later wb, _ = some (.int .u8 11 : Value) := Later.cell r1 0 _ rfl
  have c11 : ∀ x : Later wb, _ = some (.int .u8 52 : Value) := Later.cell r1 1 _ rfl
  have hne : Nonempty (Later wb) := ⟨x0⟩
  have hon : ∀ y : Later wb, On tb y.at_ := fun y => ho.later (hB y)
  have HON := hide hon
  have HhOk := hide hOk
  have HhWi := hide hWi
  have HhNa := hide hNa
  clear ho hon r0 r1 hOk hWi hNa
  go_enter Oaag.func154, Oaag.ntmps154
  go_wp2_with (first
    | ((with_reducible refine at_later 67 ?_); (with_reducible refine DFT.run (unhide HhOk) (unhide HON) _ ?_); intro y__)
    | ((with_reducible refine at_later 289 ?_); (with_reducible refine DFT.run (unhide HhWi) (unhide HON) _ ?_); intro y__)
    | ((with_reducible refine at_later 290 ?_); (with_reducible refine DFT.run (unhide HhNa) (unhide HON) _ ?_); intro y__)
    | fail)
  refine Go.LaxQ.region_guarded _ 4 3 [] [(1, fun v => v = .agg #[.int .u8 8, .int .u8 23]), (2, fun v => v = .bool false)] [] (fun _ => True) (by kernel_rfl) (by kernel_rfl) (by kernel_rfl) (by kernel_rfl) trivial (fun _ _ _ _ => trivial) (fun _ h => by cases h) (List.forall_mem_cons.2 ⟨⟨_, rfl⟩, List.forall_mem_cons.2 ⟨⟨_, rfl⟩, fun _ h => by cases h⟩⟩) ?_
  (refine Go.LaxQ.walk_det rfl rfl rfl rfl rfl ?_; go_big_quiet_want; go_big_quiet_op; go_big_quiet_on; refine wpQuiet_nil ?_)
  refine Go.LaxQ.q_call rfl rfl rfl rfl (fun _ _ _ _ => trivial) ?_ (fun y K hI hG hK => by
      go_wp2_with fail
      refine fmt73_ret _ _ ?_
      rintro _ w' rfl hb
      have hh := Go.Proofs.YgcoaaGreat.NatW.hide (hK _ w' rfl trivial hb)
      clear hK
      go_wp2_with fail
      exact Eq.mp (by kernel_rfl) (Go.Proofs.YgcoaaGreat.NatW.unhide hh))
  rintro v9 rfl
  ((try dsimp only); go_big_quiet_want; go_big_quiet_op; go_big_quiet_on; refine wpQuiet_nil ?_)
  refine Go.LaxQ.q_call rfl rfl rfl rfl (fun _ _ _ _ => trivial) ?_ (fun y K hI hG hK => by
      have HK := hide hK
      clear hK
      go_wp2_with fail
      exact unhide HK _ _ rfl trivial (Below.refl _ _))
  rintro v9 rfl
  ((try dsimp only); go_big_quiet_want; go_big_quiet_op; go_big_quiet_on; refine wpQuiet_nil ?_)
  (refine Go.LaxQ.walk_det rfl rfl rfl rfl rfl ?_; go_big_quiet_want; go_big_quiet_op; go_big_quiet_on; refine wpQuiet_nil ?_)
  refine Go.LaxQ.q_end ?_
  intro y hI hG
  clear hI hG
  go_wp2_with (first
    | ((with_reducible refine at_later 67 ?_); (with_reducible refine DFT.run (unhide HhOk) (unhide HON) _ ?_); intro y__)
    | ((with_reducible refine at_later 289 ?_); (with_reducible refine DFT.run (unhide HhWi) (unhide HON) _ ?_); intro y__)
    | ((with_reducible refine at_later 290 ?_); (with_reducible refine DFT.run (unhide HhNa) (unhide HON) _ ?_); intro y__)
    | fail)
  refine Go.LaxQ.region_guarded _ 4 3 [] [(1, fun v => v = .agg #[.int .u8 11, .int .u8 52]), (2, fun v => v = .bool true)] [] (fun _ => True) (by kernel_rfl) (by kernel_rfl) (by kernel_rfl) (by kernel_rfl) trivial (fun _ _ _ _ => trivial) (fun _ h => by cases h) (List.forall_mem_cons.2 ⟨⟨_, rfl⟩, List.forall_mem_cons.2 ⟨⟨_, rfl⟩, fun _ h => by cases h⟩⟩) ?_
  (refine Go.LaxQ.walk_det rfl rfl rfl rfl rfl ?_; go_big_quiet_want; go_big_quiet_op; go_big_quiet_on; refine wpQuiet_nil ?_)
  refine Go.LaxQ.q_call rfl rfl rfl rfl (fun _ _ _ _ => trivial) ?_ (fun y K hI hG hK => by
      go_wp2_with fail
      refine fmt74_ret _ _ ?_
      rintro _ w' rfl hb
      have hh := Go.Proofs.YgcoaaGreat.NatW.hide (hK _ w' rfl trivial hb)
      clear hK
      go_wp2_with fail
      exact Eq.mp (by kernel_rfl) (Go.Proofs.YgcoaaGreat.NatW.unhide hh))
  rintro v9 rfl
  ((try dsimp only); go_big_quiet_want; go_big_quiet_op; go_big_quiet_on; refine wpQuiet_nil ?_)
  refine Go.LaxQ.q_call rfl rfl rfl rfl (fun _ _ _ _ => trivial) ?_ (fun y K hI hG hK => by
      have HK := hide hK
      clear hK
      go_wp2_with fail
      exact unhide HK _ _ rfl trivial (Below.refl _ _))
  rintro v9 rfl
  ((try dsimp only); go_big_quiet_want; go_big_quiet_op; go_big_quiet_on; refine wpQuiet_nil ?_)
  (refine Go.LaxQ.walk_det rfl rfl rfl rfl rfl ?_; go_big_quiet_want; go_big_quiet_op; go_big_quiet_on; refine wpQuiet_nil ?_)
  refine Go.LaxQ.q_end ?_
  intro y hI hG
  clear hI hG
  go_wp2_with (first
    | ((with_reducible refine at_later 67 ?_); (with_reducible refine DFT.run (unhide HhOk) (unhide HON) _ ?_); intro y__)
    | ((with_reducible refine at_later 289 ?_); (with_reducible refine DFT.run (unhide HhWi) (unhide HON) _ ?_); intro y__)
    | ((with_reducible refine at_later 290 ?_); (with_reducible refine DFT.run (unhide HhNa) (unhide HON) _ ?_); intro y__)
    | fail)
  all_goals exact unhide HK _ (hB _)

set_option maxHeartbeats 2000000 in
theorem th_8_conv (G N : Int) (md old a : Int) (tb : Nat) (hOk : DFT tb 67 #[.agg #[.int .u8 G, .int .u8 N]] (.bool true)) (h64 : ¬ (G = 11 ∧ N = 52)) (h32 : ¬ (G = 8 ∧ N = 23)) (z r : Int) (hC1 : DFT tb 101 #[.agg #[.int .u8 8, .int .u8 23], .agg #[.int .u8 G, .int .u8 N], .int .u8 md, .int .u64 a] (.int .u64 z)) (hC2 : DFT tb 101 #[.agg #[.int .u8 G, .int .u8 N], .agg #[.int .u8 8, .int .u8 23], .int .u8 md, .int .u64 z] (.int .u64 r)) : DFT tb 154 #[.agg #[.int .u8 8, .int .u8 23], .agg #[.int .u8 G, .int .u8 N], .int .u8 md, .int .u64 old, .int .u64 a] (.int .u64 r) := by
  intro w K ho hK
  have HK := hide hK
  clear hK
  have hn1 := fmt_eql G N 11 52 h64
  have hn2 := fmt_eql G N 8 23 h32
  obtain ⟨wb, x0, hwb, r0, r1, hB, hZ⟩ := boxes2 w #[.int .u8 8, .int .u8 23] #[.int .u8 G, .int .u8 N] 23 23
  have c00 : ∀ x : Later wb, _ = some (.int .u8 8 : Value) := Later.cell r0 0 _ rfl
  have c01 : ∀ x : Later wb, _ = some (.int .u8 23 : Value) := Later.cell r0 1 _ rfl
  have c10 : ∀ x : Later wb, _ = some (.int .u8 G : Value) := Later.cell r1 0 _ rfl
  have c11 : ∀ x : Later wb, _ = some (.int .u8 N : Value) := Later.cell r1 1 _ rfl
  have hne : Nonempty (Later wb) := ⟨x0⟩
  have hon : ∀ y : Later wb, On tb y.at_ := fun y => ho.later (hB y)
  have HON := hide hon
  have HhOk := hide hOk
  have HhC1 := hide hC1
  have HhC2 := hide hC2
  clear ho hon r0 r1 hOk hC1 hC2
  go_enter Oaag.func154, Oaag.ntmps154
  go_wp2_with (first
    | ((with_reducible refine at_later 67 ?_); (with_reducible refine DFT.run (unhide HhOk) (unhide HON) _ ?_); intro y__)
    | ((with_reducible refine at_later 101 ?_); (with_reducible refine DFT.run (unhide HhC1) (unhide HON) _ ?_); intro y__)
    | ((with_reducible refine at_later 101 ?_); (with_reducible refine DFT.run (unhide HhC2) (unhide HON) _ ?_); intro y__)
    | fail)
  refine Go.LaxQ.region_guarded _ 4 3 [] [(1, fun v => v = .agg #[.int .u8 8, .int .u8 23]), (2, fun v => v = .bool false)] [] (fun _ => True) (by kernel_rfl) (by kernel_rfl) (by kernel_rfl) (by kernel_rfl) trivial (fun _ _ _ _ => trivial) (fun _ h => by cases h) (List.forall_mem_cons.2 ⟨⟨_, rfl⟩, List.forall_mem_cons.2 ⟨⟨_, rfl⟩, fun _ h => by cases h⟩⟩) ?_
  (refine Go.LaxQ.walk_det rfl rfl rfl rfl rfl ?_; go_big_quiet_want; go_big_quiet_op; go_big_quiet_on; refine wpQuiet_nil ?_)
  refine Go.LaxQ.q_call rfl rfl rfl rfl (fun _ _ _ _ => trivial) ?_ (fun y K hI hG hK => by
      go_wp2_with fail
      refine fmt73_ret _ _ ?_
      rintro _ w' rfl hb
      have hh := Go.Proofs.YgcoaaGreat.NatW.hide (hK _ w' rfl trivial hb)
      clear hK
      go_wp2_with fail
      exact Eq.mp (by kernel_rfl) (Go.Proofs.YgcoaaGreat.NatW.unhide hh))
  rintro v9 rfl
  ((try dsimp only); go_big_quiet_want; go_big_quiet_op; go_big_quiet_on; refine wpQuiet_nil ?_)
  refine Go.LaxQ.q_call rfl rfl rfl rfl (fun _ _ _ _ => trivial) ?_ (fun y K hI hG hK => by
      have HK := hide hK
      clear hK
      go_wp2_with fail
      exact unhide HK _ _ rfl trivial (Below.refl _ _))
  rintro v9 rfl
  ((try dsimp only); go_big_quiet_want; go_big_quiet_op; go_big_quiet_on; refine wpQuiet_nil ?_)
  (refine Go.LaxQ.walk_det rfl rfl rfl rfl rfl ?_; go_big_quiet_want; go_big_quiet_op; go_big_quiet_on; refine wpQuiet_nil ?_)
  refine Go.LaxQ.q_end ?_
  intro y hI hG
  clear hI hG
  go_wp2_with (first
    | ((with_reducible refine at_later 67 ?_); (with_reducible refine DFT.run (unhide HhOk) (unhide HON) _ ?_); intro y__)
    | ((with_reducible refine at_later 101 ?_); (with_reducible refine DFT.run (unhide HhC1) (unhide HON) _ ?_); intro y__)
    | ((with_reducible refine at_later 101 ?_); (with_reducible refine DFT.run (unhide HhC2) (unhide HON) _ ?_); intro y__)
    | fail)
  refine Go.LaxQ.region_guarded _ 4 3 [] [(1, fun v => v = .agg #[.int .u8 11, .int .u8 52]), (2, fun v => v = .bool false)] [] (fun _ => True) (by kernel_rfl) (by kernel_rfl) (by kernel_rfl) (by kernel_rfl) trivial (fun _ _ _ _ => trivial) (fun _ h => by cases h) (List.forall_mem_cons.2 ⟨⟨_, rfl⟩, List.forall_mem_cons.2 ⟨⟨_, rfl⟩, fun _ h => by cases h⟩⟩) ?_
  (refine Go.LaxQ.walk_det rfl rfl rfl rfl rfl ?_; go_big_quiet_want; go_big_quiet_op; go_big_quiet_on; refine wpQuiet_nil ?_)
  refine Go.LaxQ.q_call rfl rfl rfl rfl (fun _ _ _ _ => trivial) ?_ (fun y K hI hG hK => by
      go_wp2_with fail
      refine fmt74_ret _ _ ?_
      rintro _ w' rfl hb
      have hh := Go.Proofs.YgcoaaGreat.NatW.hide (hK _ w' rfl trivial hb)
      clear hK
      go_wp2_with fail
      exact Eq.mp (by kernel_rfl) (Go.Proofs.YgcoaaGreat.NatW.unhide hh))
  rintro v9 rfl
  ((try dsimp only); go_big_quiet_want; go_big_quiet_op; go_big_quiet_on; refine wpQuiet_nil ?_)
  refine Go.LaxQ.q_call rfl rfl rfl rfl (fun _ _ _ _ => trivial) ?_ (fun y K hI hG hK => by
      have HK := hide hK
      clear hK
      go_wp2_with fail
      exact unhide HK _ _ rfl trivial (Below.refl _ _))
  rintro v9 rfl
  ((try dsimp only); go_big_quiet_want; go_big_quiet_op; go_big_quiet_on; refine wpQuiet_nil ?_)
  (refine Go.LaxQ.walk_det rfl rfl rfl rfl rfl ?_; go_big_quiet_want; go_big_quiet_op; go_big_quiet_on; refine wpQuiet_nil ?_)
  refine Go.LaxQ.q_end ?_
  intro y hI hG
  clear hI hG
  go_wp2_with (first
    | ((with_reducible refine at_later 67 ?_); (with_reducible refine DFT.run (unhide HhOk) (unhide HON) _ ?_); intro y__)
    | ((with_reducible refine at_later 101 ?_); (with_reducible refine DFT.run (unhide HhC1) (unhide HON) _ ?_); intro y__)
    | ((with_reducible refine at_later 101 ?_); (with_reducible refine DFT.run (unhide HhC2) (unhide HON) _ ?_); intro y__)
    | fail)
  refine Go.LaxQ.region_guarded _ 9 4 [] [(7, fun v => v = .int .u64 z), (8, fun v => v = .int .u64 r)] [] (fun _ => True) (by kernel_rfl) (by kernel_rfl) (by kernel_rfl) (by kernel_rfl) trivial (fun _ _ _ _ => trivial) (fun _ h => by cases h) (List.forall_mem_cons.2 ⟨⟨_, rfl⟩, List.forall_mem_cons.2 ⟨⟨_, rfl⟩, fun _ h => by cases h⟩⟩) ?_
  (refine Go.LaxQ.walk_det rfl rfl rfl rfl rfl ?_; go_big_quiet_want; go_big_quiet_op; go_big_quiet_on; refine wpQuiet_nil ?_)
  (refine Go.LaxQ.walk_det rfl rfl rfl rfl rfl ?_; go_big_quiet_want; go_big_quiet_op; go_big_quiet_on; refine wpQuiet_nil ?_)
  (refine Go.LaxQ.walk_det rfl rfl rfl rfl rfl ?_; go_big_quiet_want; go_big_quiet_op; go_big_quiet_on; refine wpQuiet_nil ?_)
  (refine Go.LaxQ.walk_det rfl rfl rfl rfl rfl ?_; go_big_quiet_want; go_big_quiet_op; go_big_quiet_on; refine wpQuiet_nil ?_)
  (refine Go.LaxQ.walk_det rfl rfl rfl rfl rfl ?_; go_big_quiet_want; go_big_quiet_op; go_big_quiet_on; refine wpQuiet_nil ?_)
  (refine Go.LaxQ.walk_det rfl rfl rfl rfl rfl ?_; go_big_quiet_want; go_big_quiet_op; go_big_quiet_on; refine wpQuiet_nil ?_)
  (refine Go.LaxQ.walk_det rfl rfl rfl rfl rfl ?_; go_big_quiet_want; go_big_quiet_op; go_big_quiet_on; refine wpQuiet_nil ?_)
  refine Go.LaxQ.q_call rfl rfl rfl rfl (fun _ _ _ _ => trivial) ?_ (fun y K hI hG hK => by
      go_wp2_with fail
      refine (unhide HhC1) _ _ (unhide HON _) ?_
      intro w' hb
      have hh := Go.Proofs.YgcoaaGreat.NatW.hide (hK _ w' rfl trivial hb)
      clear hK
      go_wp2_with fail
      exact Eq.mp (by kernel_rfl) (Go.Proofs.YgcoaaGreat.NatW.unhide hh))
  rintro v9 rfl
  ((try dsimp only); go_big_quiet_want; go_big_quiet_op; go_big_quiet_on; refine wpQuiet_nil ?_)
  refine Go.LaxQ.q_call rfl rfl rfl rfl (fun _ _ _ _ => trivial) ?_ (fun y K hI hG hK => by
      go_wp2_with fail
      refine (unhide HhC2) _ _ (unhide HON _) ?_
      intro w' hb
      have hh := Go.Proofs.YgcoaaGreat.NatW.hide (hK _ w' rfl trivial hb)
      clear hK
      go_wp2_with fail
      exact Eq.mp (by kernel_rfl) (Go.Proofs.YgcoaaGreat.NatW.unhide hh))
  rintro v9 rfl
  ((try dsimp only); go_big_quiet_want; go_big_quiet_op; go_big_quiet_on; refine wpQuiet_nil ?_)
  refine Go.LaxQ.q_end ?_
  intro y hI hG
  clear hI hG
  go_wp2_with (first
    | ((with_reducible refine at_later 67 ?_); (with_reducible refine DFT.run (unhide HhOk) (unhide HON) _ ?_); intro y__)
    | ((with_reducible refine at_later 101 ?_); (with_reducible refine DFT.run (unhide HhC1) (unhide HON) _ ?_); intro y__)
    | ((with_reducible refine at_later 101 ?_); (with_reducible refine DFT.run (unhide HhC2) (unhide HON) _ ?_); intro y__)
    | fail)
  all_goals exact unhide HK _ (hB _)
end Go.Proofs.YgcoaaGreat.NatW
