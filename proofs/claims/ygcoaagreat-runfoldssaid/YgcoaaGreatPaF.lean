/-
  parse: no decimal, zero, and what goes to slow at once.
-/
import Derived.Test.YgcoaaGreatPaA
import Derived.Test.YgcoaaGreatNaI
import Derived.Test.YgcoaaGreatDecE
set_option linter.unusedVariables false
set_option linter.unusedSimpArgs false
set_option maxRecDepth 20000
namespace Go.Proofs.YgcoaaGreat.NatW
open Go.RowKit
open Go.Proofs.YgcoaaGreat.Det
open Go.Proofs.YgcoaaGreat.Limbs Go.Proofs.YgcoaaGreat.Bits
attribute [local go_sem] Go.Instr.field Go.asAgg

theorem fmt_neq (E M : Nat) (a b : Int) (h : ¬ ((E : Int) = a ∧ (M : Int) = b)) (w : World) : (binOp .neq 23 (.agg #[.int .u8 E, .int .u8 M]) (.agg #[.int .u8 a, .int .u8 b])).run Oaag.prog w = .ok (.bool true) w := by
  by_cases hE : (E : Int) = a
  · have hM : ¬ (M : Int) = b := fun h' => h ⟨hE, h'⟩
    have hM' : ((M : Int) == b) = false := beq_eq_false_iff_ne.2 hM
    have hE' : ((E : Int) == a) = true := beq_iff_eq.2 hE
    simp [go_sem, hE', hM']
  · have hE' : ((E : Int) == a) = false := beq_eq_false_iff_ne.2 hE
    simp [go_sem, hE']

set_option maxHeartbeats 4000000 in
theorem pl_54_no (E M : Nat) (hf : fok E M = true) (md : Int) (n : Bool) (d : ByteArray) (e : Int) (h1 : -32768 ≤ e) (h2 : e ≤ 32767) (hd : d.size ≤ 1000000) (hc : ¬ Canon d e) (fast : Bool) (sb : Int) (tb : Nat) (hSB : DFT tb 104 #[.agg #[.int .u8 E, .int .u8 M]] (.int .u64 sb))  : DFT tb 54 #[.pointer (some ⟨tb, 0, none⟩), fmt E M, .int .u8 md, .agg #[.bool n, .string d, .int .i16 e], .bool fast] (.tuple #[.int .u64 0, .int .u8 0]) := by
  intro w K ho hK
  have HK := hide hK
  clear hK
  obtain ⟨wb, x0, hwb, r0, r1, hB, hZ⟩ := boxes2 w #[.int .u8 E, .int .u8 M] #[.bool n, .string d, .int .i16 e] 23 74
  have c00 : ∀ x : Later wb, _ = some (.int .u8 E : Value) := Later.cell r0 0 _ rfl
  have c01 : ∀ x : Later wb, _ = some (.int .u8 M : Value) := Later.cell r0 1 _ rfl
  have c10 : ∀ x : Later wb, _ = some (.bool n : Value) := Later.cell r1 0 _ rfl
  have c11 : ∀ x : Later wb, _ = some (.string d : Value) := Later.cell r1 1 _ rfl
  have c12 : ∀ x : Later wb, _ = some (.int .i16 e : Value) := Later.cell r1 2 _ rfl
  have hne : Nonempty (Later wb) := ⟨x0⟩
  have hon : ∀ y : Later wb, On tb y.at_ := fun y => ho.later (hB y)
  have HON := hide hon
  have HhSB := hide hSB
  clear ho hon r0 r1 hSB
  cases n
  · go_enter Oaag.func54, Oaag.ntmps54
    go_wp2_with (first
      | ((with_reducible refine at_later 67 ?_); refine Ret.run (fmtOk_ret E M hf) _ ?_; rintro _ y__ rfl)
      | ((with_reducible refine at_later 39 ?_); refine Ret.run (decOk_ret _ d e h1 h2 hd) _ ?_; rintro _ y__ ⟨b__, rfl, hb__⟩; obtain rfl : b__ = false := (by cases b__; rfl; exact absurd (hb__.1 rfl) hc); clear hb__)
      | ((with_reducible refine at_later 104 ?_); (with_reducible refine DFT.run (unhide HhSB) (unhide HON) _ ?_); intro y__)
      | fail)
    all_goals exact unhide HK _ (hB _)
  · go_enter Oaag.func54, Oaag.ntmps54
    go_wp2_with (first
      | ((with_reducible refine at_later 67 ?_); refine Ret.run (fmtOk_ret E M hf) _ ?_; rintro _ y__ rfl)
      | ((with_reducible refine at_later 39 ?_); refine Ret.run (decOk_ret _ d e h1 h2 hd) _ ?_; rintro _ y__ ⟨b__, rfl, hb__⟩; obtain rfl : b__ = false := (by cases b__; rfl; exact absurd (hb__.1 rfl) hc); clear hb__)
      | ((with_reducible refine at_later 104 ?_); (with_reducible refine DFT.run (unhide HhSB) (unhide HON) _ ?_); intro y__)
      | fail)
    all_goals exact unhide HK _ (hB _)

set_option maxHeartbeats 4000000 in
theorem pl_54_z (E M : Nat) (hf : fok E M = true) (md : Int) (n : Bool) (d : ByteArray) (e : Int) (h1 : -32768 ≤ e) (h2 : e ≤ 32767) (hd : d.size ≤ 1000000) (hc : Canon d e) (hz : d.size = 0) (fast : Bool) (sb : Int) (tb : Nat) (hSB : DFT tb 104 #[.agg #[.int .u8 E, .int .u8 M]] (.int .u64 sb))  : DFT tb 54 #[.pointer (some ⟨tb, 0, none⟩), fmt E M, .int .u8 md, .agg #[.bool n, .string d, .int .i16 e], .bool fast] (.tuple #[.int .u64 (psg n sb), .int .u8 0]) := by
  intro w K ho hK
  have HK := hide hK
  clear hK
  have hz' : ((d.size : Int) == 0) = true := beq_iff_eq.2 (by omega)
  obtain ⟨wb, x0, hwb, r0, r1, hB, hZ⟩ := boxes2 w #[.int .u8 E, .int .u8 M] #[.bool n, .string d, .int .i16 e] 23 74
  have c00 : ∀ x : Later wb, _ = some (.int .u8 E : Value) := Later.cell r0 0 _ rfl
  have c01 : ∀ x : Later wb, _ = some (.int .u8 M : Value) := Later.cell r0 1 _ rfl
  have c10 : ∀ x : Later wb, _ = some (.bool n : Value) := Later.cell r1 0 _ rfl
  have c11 : ∀ x : Later wb, _ = some (.string d : Value) := Later.cell r1 1 _ rfl
  have c12 : ∀ x : Later wb, _ = some (.int .i16 e : Value) := Later.cell r1 2 _ rfl
  have hne : Nonempty (Later wb) := ⟨x0⟩
  have hon : ∀ y : Later wb, On tb y.at_ := fun y => ho.later (hB y)
  have HON := hide hon
  have HhSB := hide hSB
  clear ho hon r0 r1 hSB
  cases n
  · go_enter Oaag.func54, Oaag.ntmps54
    go_wp2_with (first
      | ((with_reducible refine at_later 67 ?_); refine Ret.run (fmtOk_ret E M hf) _ ?_; rintro _ y__ rfl)
      | ((with_reducible refine at_later 39 ?_); refine Ret.run (decOk_ret _ d e h1 h2 hd) _ ?_; rintro _ y__ ⟨b__, rfl, hb__⟩; obtain rfl : b__ = true := hb__.2 hc; clear hb__)
      | ((with_reducible refine at_later 104 ?_); (with_reducible refine DFT.run (unhide HhSB) (unhide HON) _ ?_); intro y__)
      | fail)
    all_goals exact unhide HK _ (hB _)
  · go_enter Oaag.func54, Oaag.ntmps54
    go_wp2_with (first
      | ((with_reducible refine at_later 67 ?_); refine Ret.run (fmtOk_ret E M hf) _ ?_; rintro _ y__ rfl)
      | ((with_reducible refine at_later 39 ?_); refine Ret.run (decOk_ret _ d e h1 h2 hd) _ ?_; rintro _ y__ ⟨b__, rfl, hb__⟩; obtain rfl : b__ = true := hb__.2 hc; clear hb__)
      | ((with_reducible refine at_later 104 ?_); (with_reducible refine DFT.run (unhide HhSB) (unhide HON) _ ?_); intro y__)
      | fail)
    all_goals exact unhide HK _ (hB _)

set_option maxHeartbeats 4000000 in
theorem pl_54_f (E M : Nat) (hf : fok E M = true) (md : Int) (n : Bool) (d : ByteArray) (e : Int) (h1 : -32768 ≤ e) (h2 : e ≤ 32767) (hd : d.size ≤ 1000000) (hc : Canon d e) (hz : ¬ d.size = 0) (h64 : ¬ (E = 11 ∧ M = 52)) (h32 : ¬ (E = 8 ∧ M = 23)) (fast : Bool) (sb : Int) (tb : Nat) (hSB : DFT tb 104 #[.agg #[.int .u8 E, .int .u8 M]] (.int .u64 sb)) (r : Int) (hSl : DFT tb 59 #[.agg #[.int .u8 E, .int .u8 M], .int .u8 md, .agg #[.bool n, .string d, .int .i16 e]] (.int .u64 r)) : DFT tb 54 #[.pointer (some ⟨tb, 0, none⟩), fmt E M, .int .u8 md, .agg #[.bool n, .string d, .int .i16 e], .bool fast] (.tuple #[.int .u64 r, .int .u8 4]) := by
  intro w K ho hK
  have HK := hide hK
  clear hK
  have hz' : ((d.size : Int) == 0) = false := beq_eq_false_iff_ne.2 (by omega)
  have hn1 := fmt_neq E M 11 52 (fun h => h64 ⟨by omega, by omega⟩)
  have hn2 := fmt_neq E M 8 23 (fun h => h32 ⟨by omega, by omega⟩)
  obtain ⟨wb, x0, hwb, r0, r1, hB, hZ⟩ := boxes2 w #[.int .u8 E, .int .u8 M] #[.bool n, .string d, .int .i16 e] 23 74
  have c00 : ∀ x : Later wb, _ = some (.int .u8 E : Value) := Later.cell r0 0 _ rfl
  have c01 : ∀ x : Later wb, _ = some (.int .u8 M : Value) := Later.cell r0 1 _ rfl
  have c10 : ∀ x : Later wb, _ = some (.bool n : Value) := Later.cell r1 0 _ rfl
  have c11 : ∀ x : Later wb, _ = some (.string d : Value) := Later.cell r1 1 _ rfl
  have c12 : ∀ x : Later wb, _ = some (.int .i16 e : Value) := Later.cell r1 2 _ rfl
  have hne : Nonempty (Later wb) := ⟨x0⟩
  have hon : ∀ y : Later wb, On tb y.at_ := fun y => ho.later (hB y)
  have HON := hide hon
  have HhSB := hide hSB
  have HhSl := hide hSl
  clear ho hon r0 r1 hSB hSl
  cases n
  · go_enter Oaag.func54, Oaag.ntmps54
    go_wp2_with (first
      | ((with_reducible refine at_later 67 ?_); refine Ret.run (fmtOk_ret E M hf) _ ?_; rintro _ y__ rfl)
      | ((with_reducible refine at_later 39 ?_); refine Ret.run (decOk_ret _ d e h1 h2 hd) _ ?_; rintro _ y__ ⟨b__, rfl, hb__⟩; obtain rfl : b__ = true := hb__.2 hc; clear hb__)
      | ((with_reducible refine at_later 104 ?_); (with_reducible refine DFT.run (unhide HhSB) (unhide HON) _ ?_); intro y__)
      | ((with_reducible refine at_later 59 ?_); (with_reducible refine DFT.run (unhide HhSl) (unhide HON) _ ?_); intro y__)
      | fail)
    refine Go.LaxQ.region_guarded _ 9 3 [] [(1, fun v => v = .agg #[.int .u8 11, .int .u8 52]), (2, fun v => v = .bool true), (5, fun v => v = .agg #[.int .u8 8, .int .u8 23]), (6, fun v => v = .bool true), (7, fun v => v = .bool true)] [] (fun _ => True) (by kernel_rfl) (by kernel_rfl) (by kernel_rfl) (by kernel_rfl) trivial (fun _ _ _ _ => trivial) (fun _ h => by cases h) (List.forall_mem_cons.2 ⟨⟨_, rfl⟩, List.forall_mem_cons.2 ⟨⟨_, rfl⟩, List.forall_mem_cons.2 ⟨⟨_, rfl⟩, List.forall_mem_cons.2 ⟨⟨_, rfl⟩, List.forall_mem_cons.2 ⟨⟨_, rfl⟩, fun _ h => by cases h⟩⟩⟩⟩⟩) ?_
    (refine Go.LaxQ.walk_det rfl rfl rfl rfl rfl ?_; go_big_quiet_want; go_big_quiet_op; go_big_quiet_on; refine wpQuiet_nil ?_)
    refine Go.LaxQ.q_call rfl rfl rfl rfl (fun _ _ _ _ => trivial) ?_ (fun y K hI hG hK => by
        go_wp2_with fail
        refine fmt74_ret _ _ ?_
        rintro _ w' rfl hb
        have hh := Go.Proofs.YgcoaaGreat.NatW.hide (hK _ w' rfl trivial hb)
        clear hK
        go_wp2_with fail
        exact Eq.mp (by kernel_rfl) (Go.Proofs.YgcoaaGreat.NatW.unhide hh))
    rintro v9 rfl
    ((try dsimp only); go_big_quiet_want; go_big_quiet_op; go_big_quiet_on; refine wpQuiet_nil ?_)
    refine Go.LaxQ.q_call rfl rfl rfl rfl (fun _ _ _ _ => trivial) ?_ (fun y K hI hG hK => by
        have HK := hide hK
        clear hK
        go_wp2_with fail
        exact unhide HK _ _ rfl trivial (Below.refl _ _))
    rintro v9 rfl
    ((try dsimp only); go_big_quiet_want; go_big_quiet_op; go_big_quiet_on; refine wpQuiet_nil ?_)
    (refine Go.LaxQ.walk_det rfl rfl rfl rfl rfl ?_; go_big_quiet_want; go_big_quiet_op; go_big_quiet_on; refine wpQuiet_nil ?_)
    (refine Go.LaxQ.walk_det rfl rfl rfl rfl rfl ?_; go_big_quiet_want; go_big_quiet_op; go_big_quiet_on; refine wpQuiet_nil ?_)
    refine Go.LaxQ.q_call rfl rfl rfl rfl (fun _ _ _ _ => trivial) ?_ (fun y K hI hG hK => by
        go_wp2_with fail
        refine fmt73_ret _ _ ?_
        rintro _ w' rfl hb
        have hh := Go.Proofs.YgcoaaGreat.NatW.hide (hK _ w' rfl trivial hb)
        clear hK
        go_wp2_with fail
        exact Eq.mp (by kernel_rfl) (Go.Proofs.YgcoaaGreat.NatW.unhide hh))
    rintro v9 rfl
    ((try dsimp only); go_big_quiet_want; go_big_quiet_op; go_big_quiet_on; refine wpQuiet_nil ?_)
    refine Go.LaxQ.q_call rfl rfl rfl rfl (fun _ _ _ _ => trivial) ?_ (fun y K hI hG hK => by
        have HK := hide hK
        clear hK
        go_wp2_with fail
        exact unhide HK _ _ rfl trivial (Below.refl _ _))
    rintro v9 rfl
    ((try dsimp only); go_big_quiet_want; go_big_quiet_op; go_big_quiet_on; refine wpQuiet_nil ?_)
    refine Go.LaxQ.q_call rfl rfl rfl rfl (fun _ _ _ _ => trivial) ?_ (fun y K hI hG hK => by
        have HK := hide hK
        clear hK
        go_wp2_with fail
        exact unhide HK _ _ rfl trivial (Below.refl _ _))
    rintro v9 rfl
    ((try dsimp only); go_big_quiet_want; go_big_quiet_op; go_big_quiet_on; refine wpQuiet_nil ?_)
    (refine Go.LaxQ.walk_det rfl rfl rfl rfl rfl ?_; go_big_quiet_want; go_big_quiet_op; go_big_quiet_on; refine wpQuiet_nil ?_)
    refine Go.LaxQ.q_end ?_
    intro y hI hG
    clear hI hG
    go_wp2_with (first
      | ((with_reducible refine at_later 67 ?_); refine Ret.run (fmtOk_ret E M hf) _ ?_; rintro _ y__ rfl)
      | ((with_reducible refine at_later 39 ?_); refine Ret.run (decOk_ret _ d e h1 h2 hd) _ ?_; rintro _ y__ ⟨b__, rfl, hb__⟩; obtain rfl : b__ = true := hb__.2 hc; clear hb__)
      | ((with_reducible refine at_later 104 ?_); (with_reducible refine DFT.run (unhide HhSB) (unhide HON) _ ?_); intro y__)
      | ((with_reducible refine at_later 59 ?_); (with_reducible refine DFT.run (unhide HhSl) (unhide HON) _ ?_); intro y__)
      | fail)
    all_goals exact unhide HK _ (hB _)
  · go_enter Oaag.func54, Oaag.ntmps54
    go_wp2_with (first
      | ((with_reducible refine at_later 67 ?_); refine Ret.run (fmtOk_ret E M hf) _ ?_; rintro _ y__ rfl)
      | ((with_reducible refine at_later 39 ?_); refine Ret.run (decOk_ret _ d e h1 h2 hd) _ ?_; rintro _ y__ ⟨b__, rfl, hb__⟩; obtain rfl : b__ = true := hb__.2 hc; clear hb__)
      | ((with_reducible refine at_later 104 ?_); (with_reducible refine DFT.run (unhide HhSB) (unhide HON) _ ?_); intro y__)
      | ((with_reducible refine at_later 59 ?_); (with_reducible refine DFT.run (unhide HhSl) (unhide HON) _ ?_); intro y__)
      | fail)
    refine Go.LaxQ.region_guarded _ 9 3 [] [(1, fun v => v = .agg #[.int .u8 11, .int .u8 52]), (2, fun v => v = .bool true), (5, fun v => v = .agg #[.int .u8 8, .int .u8 23]), (6, fun v => v = .bool true), (7, fun v => v = .bool true)] [] (fun _ => True) (by kernel_rfl) (by kernel_rfl) (by kernel_rfl) (by kernel_rfl) trivial (fun _ _ _ _ => trivial) (fun _ h => by cases h) (List.forall_mem_cons.2 ⟨⟨_, rfl⟩, List.forall_mem_cons.2 ⟨⟨_, rfl⟩, List.forall_mem_cons.2 ⟨⟨_, rfl⟩, List.forall_mem_cons.2 ⟨⟨_, rfl⟩, List.forall_mem_cons.2 ⟨⟨_, rfl⟩, fun _ h => by cases h⟩⟩⟩⟩⟩) ?_
    (refine Go.LaxQ.walk_det rfl rfl rfl rfl rfl ?_; go_big_quiet_want; go_big_quiet_op; go_big_quiet_on; refine wpQuiet_nil ?_)
    refine Go.LaxQ.q_call rfl rfl rfl rfl (fun _ _ _ _ => trivial) ?_ (fun y K hI hG hK => by
        go_wp2_with fail
        refine fmt74_ret _ _ ?_
        rintro _ w' rfl hb
        have hh := Go.Proofs.YgcoaaGreat.NatW.hide (hK _ w' rfl trivial hb)
        clear hK
        go_wp2_with fail
        exact Eq.mp (by kernel_rfl) (Go.Proofs.YgcoaaGreat.NatW.unhide hh))
    rintro v9 rfl
    ((try dsimp only); go_big_quiet_want; go_big_quiet_op; go_big_quiet_on; refine wpQuiet_nil ?_)
    refine Go.LaxQ.q_call rfl rfl rfl rfl (fun _ _ _ _ => trivial) ?_ (fun y K hI hG hK => by
        have HK := hide hK
        clear hK
        go_wp2_with fail
        exact unhide HK _ _ rfl trivial (Below.refl _ _))
    rintro v9 rfl
    ((try dsimp only); go_big_quiet_want; go_big_quiet_op; go_big_quiet_on; refine wpQuiet_nil ?_)
    (refine Go.LaxQ.walk_det rfl rfl rfl rfl rfl ?_; go_big_quiet_want; go_big_quiet_op; go_big_quiet_on; refine wpQuiet_nil ?_)
    (refine Go.LaxQ.walk_det rfl rfl rfl rfl rfl ?_; go_big_quiet_want; go_big_quiet_op; go_big_quiet_on; refine wpQuiet_nil ?_)
    refine Go.LaxQ.q_call rfl rfl rfl rfl (fun _ _ _ _ => trivial) ?_ (fun y K hI hG hK => by
        go_wp2_with fail
        refine fmt73_ret _ _ ?_
        rintro _ w' rfl hb
        have hh := Go.Proofs.YgcoaaGreat.NatW.hide (hK _ w' rfl trivial hb)
        clear hK
        go_wp2_with fail
        exact Eq.mp (by kernel_rfl) (Go.Proofs.YgcoaaGreat.NatW.unhide hh))
    rintro v9 rfl
    ((try dsimp only); go_big_quiet_want; go_big_quiet_op; go_big_quiet_on; refine wpQuiet_nil ?_)
    refine Go.LaxQ.q_call rfl rfl rfl rfl (fun _ _ _ _ => trivial) ?_ (fun y K hI hG hK => by
        have HK := hide hK
        clear hK
        go_wp2_with fail
        exact unhide HK _ _ rfl trivial (Below.refl _ _))
    rintro v9 rfl
    ((try dsimp only); go_big_quiet_want; go_big_quiet_op; go_big_quiet_on; refine wpQuiet_nil ?_)
    refine Go.LaxQ.q_call rfl rfl rfl rfl (fun _ _ _ _ => trivial) ?_ (fun y K hI hG hK => by
        have HK := hide hK
        clear hK
        go_wp2_with fail
        exact unhide HK _ _ rfl trivial (Below.refl _ _))
    rintro v9 rfl
    ((try dsimp only); go_big_quiet_want; go_big_quiet_op; go_big_quiet_on; refine wpQuiet_nil ?_)
    (refine Go.LaxQ.walk_det rfl rfl rfl rfl rfl ?_; go_big_quiet_want; go_big_quiet_op; go_big_quiet_on; refine wpQuiet_nil ?_)
    refine Go.LaxQ.q_end ?_
    intro y hI hG
    clear hI hG
    go_wp2_with (first
      | ((with_reducible refine at_later 67 ?_); refine Ret.run (fmtOk_ret E M hf) _ ?_; rintro _ y__ rfl)
      | ((with_reducible refine at_later 39 ?_); refine Ret.run (decOk_ret _ d e h1 h2 hd) _ ?_; rintro _ y__ ⟨b__, rfl, hb__⟩; obtain rfl : b__ = true := hb__.2 hc; clear hb__)
      | ((with_reducible refine at_later 104 ?_); (with_reducible refine DFT.run (unhide HhSB) (unhide HON) _ ?_); intro y__)
      | ((with_reducible refine at_later 59 ?_); (with_reducible refine DFT.run (unhide HhSl) (unhide HON) _ ?_); intro y__)
      | fail)
    all_goals exact unhide HK _ (hB _)

set_option maxHeartbeats 4000000 in
theorem pl_54_m11 (md : Int) (n : Bool) (d : ByteArray) (e : Int) (h1 : -32768 ≤ e) (h2 : e ≤ 32767) (hd : d.size ≤ 1000000) (hc : Canon d e) (hz : ¬ d.size = 0) (hm0 : md ≠ 0) (hm4 : md ≤ 4) (fast : Bool) (sb : Int) (tb : Nat) (hSB : DFT tb 104 #[.agg #[.int .u8 11, .int .u8 52]] (.int .u64 sb)) (r : Int) (hSl : DFT tb 59 #[.agg #[.int .u8 11, .int .u8 52], .int .u8 md, .agg #[.bool n, .string d, .int .i16 e]] (.int .u64 r)) : DFT tb 54 #[.pointer (some ⟨tb, 0, none⟩), fmt 11 52, .int .u8 md, .agg #[.bool n, .string d, .int .i16 e], .bool fast] (.tuple #[.int .u64 r, .int .u8 4]) := by
  intro w K ho hK
  have hf : fok 11 52 = true := rfl
  have HK := hide hK
  clear hK
  have hz' : ((d.size : Int) == 0) = false := beq_eq_false_iff_ne.2 (by omega)
  have hb0 : (md != 0) = true := by simp; omega
  have hb4 : decide (md ≤ 4) = true := by simp; omega
  obtain ⟨wb, x0, hwb, r0, r1, hB, hZ⟩ := boxes2 w #[.int .u8 11, .int .u8 52] #[.bool n, .string d, .int .i16 e] 23 74
  have c00 : ∀ x : Later wb, _ = some (.int .u8 11 : Value) := Later.cell r0 0 _ rfl
  have c01 : ∀ x : Later wb, _ = some (.int .u8 52 : Value) := Later.cell r0 1 _ rfl
  have c10 : ∀ x : Later wb, _ = some (.bool n : Value) := Later.cell r1 0 _ rfl
  have c11 : ∀ x : Later wb, _ = some (.string d : Value) := Later.cell r1 1 _ rfl
  have c12 : ∀ x : Later wb, _ = some (.int .i16 e : Value) := Later.cell r1 2 _ rfl
  have hne : Nonempty (Later wb) := ⟨x0⟩
  have hon : ∀ y : Later wb, On tb y.at_ := fun y => ho.later (hB y)
  have HON := hide hon
  have HhSB := hide hSB
  have HhSl := hide hSl
  clear ho hon r0 r1 hSB hSl
  cases n
  · go_enter Oaag.func54, Oaag.ntmps54
    go_wp2_with (first
      | ((with_reducible refine at_later 67 ?_); refine Ret.run (fmtOk_ret 11 52 hf) _ ?_; rintro _ y__ rfl)
      | ((with_reducible refine at_later 39 ?_); refine Ret.run (decOk_ret _ d e h1 h2 hd) _ ?_; rintro _ y__ ⟨b__, rfl, hb__⟩; obtain rfl : b__ = true := hb__.2 hc; clear hb__)
      | ((with_reducible refine at_later 104 ?_); (with_reducible refine DFT.run (unhide HhSB) (unhide HON) _ ?_); intro y__)
      | ((with_reducible refine at_later 59 ?_); (with_reducible refine DFT.run (unhide HhSl) (unhide HON) _ ?_); intro y__)
      | fail)
    refine Go.LaxQ.region_guarded _ 9 3 [4, 5, 6] [(1, fun v => v = .agg #[.int .u8 11, .int .u8 52]), (7, fun v => v = .bool false)] [] (fun _ => True) (by kernel_rfl) (by kernel_rfl) (by kernel_rfl) (by kernel_rfl) trivial (fun _ _ _ _ => trivial) (fun _ h => by cases h) (List.forall_mem_cons.2 ⟨⟨_, rfl⟩, List.forall_mem_cons.2 ⟨⟨_, rfl⟩, fun _ h => by cases h⟩⟩) ?_
    (refine Go.LaxQ.walk_det rfl rfl rfl rfl rfl ?_; go_big_quiet_want; go_big_quiet_op; go_big_quiet_on; refine wpQuiet_nil ?_)
    refine Go.LaxQ.q_call rfl rfl rfl rfl (fun _ _ _ _ => trivial) ?_ (fun y K hI hG hK => by
        go_wp2_with fail
        refine fmt74_ret _ _ ?_
        rintro _ w' rfl hb
        have hh := Go.Proofs.YgcoaaGreat.NatW.hide (hK _ w' rfl trivial hb)
        clear hK
        go_wp2_with fail
        exact Eq.mp (by kernel_rfl) (Go.Proofs.YgcoaaGreat.NatW.unhide hh))
    rintro v9 rfl
    ((try dsimp only); go_big_quiet_want; go_big_quiet_op; go_big_quiet_on; refine wpQuiet_nil ?_)
    (refine Go.LaxQ.walk_det rfl rfl rfl rfl rfl ?_; go_big_quiet_want; go_big_quiet_op; go_big_quiet_on; refine wpQuiet_nil ?_)
    (refine Go.LaxQ.walk_det rfl rfl rfl rfl rfl ?_; go_big_quiet_want; go_big_quiet_op; go_big_quiet_on; refine wpQuiet_nil ?_)
    (refine Go.LaxQ.walk_skip_mv rfl rfl ?_; (try dsimp only); go_big_quiet_want; go_big_quiet_op; go_big_quiet_on; refine wpQuiet_nil ?_)
    (refine Go.LaxQ.walk_skip_mv rfl rfl ?_; (try dsimp only); go_big_quiet_want; go_big_quiet_op; go_big_quiet_on; refine wpQuiet_nil ?_)
    (refine Go.LaxQ.walk_skip_mv rfl rfl ?_; (try dsimp only); go_big_quiet_want; go_big_quiet_op; go_big_quiet_on; refine wpQuiet_nil ?_)
    refine Go.LaxQ.q_call rfl rfl rfl rfl (fun _ _ _ _ => trivial) ?_ (fun y K hI hG hK => by
        have HK := hide hK
        clear hK
        go_wp2_with fail
        exact unhide HK _ _ rfl trivial (Below.refl _ _))
    rintro v9 rfl
    ((try dsimp only); go_big_quiet_want; go_big_quiet_op; go_big_quiet_on; refine wpQuiet_nil ?_)
    (refine Go.LaxQ.walk_det rfl rfl rfl rfl rfl ?_; go_big_quiet_want; go_big_quiet_op; go_big_quiet_on; refine wpQuiet_nil ?_)
    refine Go.LaxQ.q_end ?_
    intro y hI hG
    clear hI hG
    go_wp2_with (first
      | ((with_reducible refine at_later 67 ?_); refine Ret.run (fmtOk_ret 11 52 hf) _ ?_; rintro _ y__ rfl)
      | ((with_reducible refine at_later 39 ?_); refine Ret.run (decOk_ret _ d e h1 h2 hd) _ ?_; rintro _ y__ ⟨b__, rfl, hb__⟩; obtain rfl : b__ = true := hb__.2 hc; clear hb__)
      | ((with_reducible refine at_later 104 ?_); (with_reducible refine DFT.run (unhide HhSB) (unhide HON) _ ?_); intro y__)
      | ((with_reducible refine at_later 59 ?_); (with_reducible refine DFT.run (unhide HhSl) (unhide HON) _ ?_); intro y__)
      | fail)
    all_goals exact unhide HK _ (hB _)
  · go_enter Oaag.func54, Oaag.ntmps54
    go_wp2_with (first
      | ((with_reducible refine at_later 67 ?_); refine Ret.run (fmtOk_ret 11 52 hf) _ ?_; rintro _ y__ rfl)
      | ((with_reducible refine at_later 39 ?_); refine Ret.run (decOk_ret _ d e h1 h2 hd) _ ?_; rintro _ y__ ⟨b__, rfl, hb__⟩; obtain rfl : b__ = true := hb__.2 hc; clear hb__)
      | ((with_reducible refine at_later 104 ?_); (with_reducible refine DFT.run (unhide HhSB) (unhide HON) _ ?_); intro y__)
      | ((with_reducible refine at_later 59 ?_); (with_reducible refine DFT.run (unhide HhSl) (unhide HON) _ ?_); intro y__)
      | fail)
    refine Go.LaxQ.region_guarded _ 9 3 [4, 5, 6] [(1, fun v => v = .agg #[.int .u8 11, .int .u8 52]), (7, fun v => v = .bool false)] [] (fun _ => True) (by kernel_rfl) (by kernel_rfl) (by kernel_rfl) (by kernel_rfl) trivial (fun _ _ _ _ => trivial) (fun _ h => by cases h) (List.forall_mem_cons.2 ⟨⟨_, rfl⟩, List.forall_mem_cons.2 ⟨⟨_, rfl⟩, fun _ h => by cases h⟩⟩) ?_
    (refine Go.LaxQ.walk_det rfl rfl rfl rfl rfl ?_; go_big_quiet_want; go_big_quiet_op; go_big_quiet_on; refine wpQuiet_nil ?_)
    refine Go.LaxQ.q_call rfl rfl rfl rfl (fun _ _ _ _ => trivial) ?_ (fun y K hI hG hK => by
        go_wp2_with fail
        refine fmt74_ret _ _ ?_
        rintro _ w' rfl hb
        have hh := Go.Proofs.YgcoaaGreat.NatW.hide (hK _ w' rfl trivial hb)
        clear hK
        go_wp2_with fail
        exact Eq.mp (by kernel_rfl) (Go.Proofs.YgcoaaGreat.NatW.unhide hh))
    rintro v9 rfl
    ((try dsimp only); go_big_quiet_want; go_big_quiet_op; go_big_quiet_on; refine wpQuiet_nil ?_)
    (refine Go.LaxQ.walk_det rfl rfl rfl rfl rfl ?_; go_big_quiet_want; go_big_quiet_op; go_big_quiet_on; refine wpQuiet_nil ?_)
    (refine Go.LaxQ.walk_det rfl rfl rfl rfl rfl ?_; go_big_quiet_want; go_big_quiet_op; go_big_quiet_on; refine wpQuiet_nil ?_)
    (refine Go.LaxQ.walk_skip_mv rfl rfl ?_; (try dsimp only); go_big_quiet_want; go_big_quiet_op; go_big_quiet_on; refine wpQuiet_nil ?_)
    (refine Go.LaxQ.walk_skip_mv rfl rfl ?_; (try dsimp only); go_big_quiet_want; go_big_quiet_op; go_big_quiet_on; refine wpQuiet_nil ?_)
    (refine Go.LaxQ.walk_skip_mv rfl rfl ?_; (try dsimp only); go_big_quiet_want; go_big_quiet_op; go_big_quiet_on; refine wpQuiet_nil ?_)
    refine Go.LaxQ.q_call rfl rfl rfl rfl (fun _ _ _ _ => trivial) ?_ (fun y K hI hG hK => by
        have HK := hide hK
        clear hK
        go_wp2_with fail
        exact unhide HK _ _ rfl trivial (Below.refl _ _))
    rintro v9 rfl
    ((try dsimp only); go_big_quiet_want; go_big_quiet_op; go_big_quiet_on; refine wpQuiet_nil ?_)
    (refine Go.LaxQ.walk_det rfl rfl rfl rfl rfl ?_; go_big_quiet_want; go_big_quiet_op; go_big_quiet_on; refine wpQuiet_nil ?_)
    refine Go.LaxQ.q_end ?_
    intro y hI hG
    clear hI hG
    go_wp2_with (first
      | ((with_reducible refine at_later 67 ?_); refine Ret.run (fmtOk_ret 11 52 hf) _ ?_; rintro _ y__ rfl)
      | ((with_reducible refine at_later 39 ?_); refine Ret.run (decOk_ret _ d e h1 h2 hd) _ ?_; rintro _ y__ ⟨b__, rfl, hb__⟩; obtain rfl : b__ = true := hb__.2 hc; clear hb__)
      | ((with_reducible refine at_later 104 ?_); (with_reducible refine DFT.run (unhide HhSB) (unhide HON) _ ?_); intro y__)
      | ((with_reducible refine at_later 59 ?_); (with_reducible refine DFT.run (unhide HhSl) (unhide HON) _ ?_); intro y__)
      | fail)
    all_goals exact unhide HK _ (hB _)

set_option maxHeartbeats 4000000 in
theorem pl_54_m8 (md : Int) (n : Bool) (d : ByteArray) (e : Int) (h1 : -32768 ≤ e) (h2 : e ≤ 32767) (hd : d.size ≤ 1000000) (hc : Canon d e) (hz : ¬ d.size = 0) (hm0 : md ≠ 0) (hm4 : md ≤ 4) (fast : Bool) (sb : Int) (tb : Nat) (hSB : DFT tb 104 #[.agg #[.int .u8 8, .int .u8 23]] (.int .u64 sb)) (r : Int) (hSl : DFT tb 59 #[.agg #[.int .u8 8, .int .u8 23], .int .u8 md, .agg #[.bool n, .string d, .int .i16 e]] (.int .u64 r)) : DFT tb 54 #[.pointer (some ⟨tb, 0, none⟩), fmt 8 23, .int .u8 md, .agg #[.bool n, .string d, .int .i16 e], .bool fast] (.tuple #[.int .u64 r, .int .u8 4]) := by
  intro w K ho hK
  have hf : fok 8 23 = true := rfl
  have HK := hide hK
  clear hK
  have hz' : ((d.size : Int) == 0) = false := beq_eq_false_iff_ne.2 (by omega)
  have hb0 : (md != 0) = true := by simp; omega
  have hb4 : decide (md ≤ 4) = true := by simp; omega
  obtain ⟨wb, x0, hwb, r0, r1, hB, hZ⟩ := boxes2 w #[.int .u8 8, .int .u8 23] #[.bool n, .string d, .int .i16 e] 23 74
  have c00 : ∀ x : Later wb, _ = some (.int .u8 8 : Value) := Later.cell r0 0 _ rfl
  have c01 : ∀ x : Later wb, _ = some (.int .u8 23 : Value) := Later.cell r0 1 _ rfl
  have c10 : ∀ x : Later wb, _ = some (.bool n : Value) := Later.cell r1 0 _ rfl
  have c11 : ∀ x : Later wb, _ = some (.string d : Value) := Later.cell r1 1 _ rfl
  have c12 : ∀ x : Later wb, _ = some (.int .i16 e : Value) := Later.cell r1 2 _ rfl
  have hne : Nonempty (Later wb) := ⟨x0⟩
  have hon : ∀ y : Later wb, On tb y.at_ := fun y => ho.later (hB y)
  have HON := hide hon
  have HhSB := hide hSB
  have HhSl := hide hSl
  clear ho hon r0 r1 hSB hSl
  cases n
  · go_enter Oaag.func54, Oaag.ntmps54
    go_wp2_with (first
      | ((with_reducible refine at_later 67 ?_); refine Ret.run (fmtOk_ret 8 23 hf) _ ?_; rintro _ y__ rfl)
      | ((with_reducible refine at_later 39 ?_); refine Ret.run (decOk_ret _ d e h1 h2 hd) _ ?_; rintro _ y__ ⟨b__, rfl, hb__⟩; obtain rfl : b__ = true := hb__.2 hc; clear hb__)
      | ((with_reducible refine at_later 104 ?_); (with_reducible refine DFT.run (unhide HhSB) (unhide HON) _ ?_); intro y__)
      | ((with_reducible refine at_later 59 ?_); (with_reducible refine DFT.run (unhide HhSl) (unhide HON) _ ?_); intro y__)
      | fail)
    refine Go.LaxQ.region_guarded _ 9 3 [] [(1, fun v => v = .agg #[.int .u8 11, .int .u8 52]), (5, fun v => v = .agg #[.int .u8 8, .int .u8 23]), (7, fun v => v = .bool false)] [] (fun _ => True) (by kernel_rfl) (by kernel_rfl) (by kernel_rfl) (by kernel_rfl) trivial (fun _ _ _ _ => trivial) (fun _ h => by cases h) (List.forall_mem_cons.2 ⟨⟨_, rfl⟩, List.forall_mem_cons.2 ⟨⟨_, rfl⟩, List.forall_mem_cons.2 ⟨⟨_, rfl⟩, fun _ h => by cases h⟩⟩⟩) ?_
    (refine Go.LaxQ.walk_det rfl rfl rfl rfl rfl ?_; go_big_quiet_want; go_big_quiet_op; go_big_quiet_on; refine wpQuiet_nil ?_)
    refine Go.LaxQ.q_call rfl rfl rfl rfl (fun _ _ _ _ => trivial) ?_ (fun y K hI hG hK => by
        go_wp2_with fail
        refine fmt74_ret _ _ ?_
        rintro _ w' rfl hb
        have hh := Go.Proofs.YgcoaaGreat.NatW.hide (hK _ w' rfl trivial hb)
        clear hK
        go_wp2_with fail
        exact Eq.mp (by kernel_rfl) (Go.Proofs.YgcoaaGreat.NatW.unhide hh))
    rintro v9 rfl
    ((try dsimp only); go_big_quiet_want; go_big_quiet_op; go_big_quiet_on; refine wpQuiet_nil ?_)
    (refine Go.LaxQ.walk_det rfl rfl rfl rfl rfl ?_; go_big_quiet_want; go_big_quiet_op; go_big_quiet_on; refine wpQuiet_nil ?_)
    (refine Go.LaxQ.walk_det rfl rfl rfl rfl rfl ?_; go_big_quiet_want; go_big_quiet_op; go_big_quiet_on; refine wpQuiet_nil ?_)
    (refine Go.LaxQ.walk_det rfl rfl rfl rfl rfl ?_; go_big_quiet_want; go_big_quiet_op; go_big_quiet_on; refine wpQuiet_nil ?_)
    refine Go.LaxQ.q_call rfl rfl rfl rfl (fun _ _ _ _ => trivial) ?_ (fun y K hI hG hK => by
        go_wp2_with fail
        refine fmt73_ret _ _ ?_
        rintro _ w' rfl hb
        have hh := Go.Proofs.YgcoaaGreat.NatW.hide (hK _ w' rfl trivial hb)
        clear hK
        go_wp2_with fail
        exact Eq.mp (by kernel_rfl) (Go.Proofs.YgcoaaGreat.NatW.unhide hh))
    rintro v9 rfl
    ((try dsimp only); go_big_quiet_want; go_big_quiet_op; go_big_quiet_on; refine wpQuiet_nil ?_)
    (refine Go.LaxQ.walk_det rfl rfl rfl rfl rfl ?_; go_big_quiet_want; go_big_quiet_op; go_big_quiet_on; refine wpQuiet_nil ?_)
    refine Go.LaxQ.q_call rfl rfl rfl rfl (fun _ _ _ _ => trivial) ?_ (fun y K hI hG hK => by
        have HK := hide hK
        clear hK
        go_wp2_with fail
        exact unhide HK _ _ rfl trivial (Below.refl _ _))
    rintro v9 rfl
    ((try dsimp only); go_big_quiet_want; go_big_quiet_op; go_big_quiet_on; refine wpQuiet_nil ?_)
    (refine Go.LaxQ.walk_det rfl rfl rfl rfl rfl ?_; go_big_quiet_want; go_big_quiet_op; go_big_quiet_on; refine wpQuiet_nil ?_)
    refine Go.LaxQ.q_end ?_
    intro y hI hG
    clear hI hG
    go_wp2_with (first
      | ((with_reducible refine at_later 67 ?_); refine Ret.run (fmtOk_ret 8 23 hf) _ ?_; rintro _ y__ rfl)
      | ((with_reducible refine at_later 39 ?_); refine Ret.run (decOk_ret _ d e h1 h2 hd) _ ?_; rintro _ y__ ⟨b__, rfl, hb__⟩; obtain rfl : b__ = true := hb__.2 hc; clear hb__)
      | ((with_reducible refine at_later 104 ?_); (with_reducible refine DFT.run (unhide HhSB) (unhide HON) _ ?_); intro y__)
      | ((with_reducible refine at_later 59 ?_); (with_reducible refine DFT.run (unhide HhSl) (unhide HON) _ ?_); intro y__)
      | fail)
    all_goals exact unhide HK _ (hB _)
  · go_enter Oaag.func54, Oaag.ntmps54
    go_wp2_with (first
      | ((with_reducible refine at_later 67 ?_); refine Ret.run (fmtOk_ret 8 23 hf) _ ?_; rintro _ y__ rfl)
      | ((with_reducible refine at_later 39 ?_); refine Ret.run (decOk_ret _ d e h1 h2 hd) _ ?_; rintro _ y__ ⟨b__, rfl, hb__⟩; obtain rfl : b__ = true := hb__.2 hc; clear hb__)
      | ((with_reducible refine at_later 104 ?_); (with_reducible refine DFT.run (unhide HhSB) (unhide HON) _ ?_); intro y__)
      | ((with_reducible refine at_later 59 ?_); (with_reducible refine DFT.run (unhide HhSl) (unhide HON) _ ?_); intro y__)
      | fail)
    refine Go.LaxQ.region_guarded _ 9 3 [] [(1, fun v => v = .agg #[.int .u8 11, .int .u8 52]), (5, fun v => v = .agg #[.int .u8 8, .int .u8 23]), (7, fun v => v = .bool false)] [] (fun _ => True) (by kernel_rfl) (by kernel_rfl) (by kernel_rfl) (by kernel_rfl) trivial (fun _ _ _ _ => trivial) (fun _ h => by cases h) (List.forall_mem_cons.2 ⟨⟨_, rfl⟩, List.forall_mem_cons.2 ⟨⟨_, rfl⟩, List.forall_mem_cons.2 ⟨⟨_, rfl⟩, fun _ h => by cases h⟩⟩⟩) ?_
    (refine Go.LaxQ.walk_det rfl rfl rfl rfl rfl ?_; go_big_quiet_want; go_big_quiet_op; go_big_quiet_on; refine wpQuiet_nil ?_)
    refine Go.LaxQ.q_call rfl rfl rfl rfl (fun _ _ _ _ => trivial) ?_ (fun y K hI hG hK => by
        go_wp2_with fail
        refine fmt74_ret _ _ ?_
        rintro _ w' rfl hb
        have hh := Go.Proofs.YgcoaaGreat.NatW.hide (hK _ w' rfl trivial hb)
        clear hK
        go_wp2_with fail
        exact Eq.mp (by kernel_rfl) (Go.Proofs.YgcoaaGreat.NatW.unhide hh))
    rintro v9 rfl
    ((try dsimp only); go_big_quiet_want; go_big_quiet_op; go_big_quiet_on; refine wpQuiet_nil ?_)
    (refine Go.LaxQ.walk_det rfl rfl rfl rfl rfl ?_; go_big_quiet_want; go_big_quiet_op; go_big_quiet_on; refine wpQuiet_nil ?_)
    (refine Go.LaxQ.walk_det rfl rfl rfl rfl rfl ?_; go_big_quiet_want; go_big_quiet_op; go_big_quiet_on; refine wpQuiet_nil ?_)
    (refine Go.LaxQ.walk_det rfl rfl rfl rfl rfl ?_; go_big_quiet_want; go_big_quiet_op; go_big_quiet_on; refine wpQuiet_nil ?_)
    refine Go.LaxQ.q_call rfl rfl rfl rfl (fun _ _ _ _ => trivial) ?_ (fun y K hI hG hK => by
        go_wp2_with fail
        refine fmt73_ret _ _ ?_
        rintro _ w' rfl hb
        have hh := Go.Proofs.YgcoaaGreat.NatW.hide (hK _ w' rfl trivial hb)
        clear hK
        go_wp2_with fail
        exact Eq.mp (by kernel_rfl) (Go.Proofs.YgcoaaGreat.NatW.unhide hh))
    rintro v9 rfl
    ((try dsimp only); go_big_quiet_want; go_big_quiet_op; go_big_quiet_on; refine wpQuiet_nil ?_)
    (refine Go.LaxQ.walk_det rfl rfl rfl rfl rfl ?_; go_big_quiet_want; go_big_quiet_op; go_big_quiet_on; refine wpQuiet_nil ?_)
    refine Go.LaxQ.q_call rfl rfl rfl rfl (fun _ _ _ _ => trivial) ?_ (fun y K hI hG hK => by
        have HK := hide hK
        clear hK
        go_wp2_with fail
        exact unhide HK _ _ rfl trivial (Below.refl _ _))
    rintro v9 rfl
    ((try dsimp only); go_big_quiet_want; go_big_quiet_op; go_big_quiet_on; refine wpQuiet_nil ?_)
    (refine Go.LaxQ.walk_det rfl rfl rfl rfl rfl ?_; go_big_quiet_want; go_big_quiet_op; go_big_quiet_on; refine wpQuiet_nil ?_)
    refine Go.LaxQ.q_end ?_
    intro y hI hG
    clear hI hG
    go_wp2_with (first
      | ((with_reducible refine at_later 67 ?_); refine Ret.run (fmtOk_ret 8 23 hf) _ ?_; rintro _ y__ rfl)
      | ((with_reducible refine at_later 39 ?_); refine Ret.run (decOk_ret _ d e h1 h2 hd) _ ?_; rintro _ y__ ⟨b__, rfl, hb__⟩; obtain rfl : b__ = true := hb__.2 hc; clear hb__)
      | ((with_reducible refine at_later 104 ?_); (with_reducible refine DFT.run (unhide HhSB) (unhide HON) _ ?_); intro y__)
      | ((with_reducible refine at_later 59 ?_); (with_reducible refine DFT.run (unhide HhSl) (unhide HON) _ ?_); intro y__)
      | fail)
    all_goals exact unhide HK _ (hB _)

set_option maxHeartbeats 4000000 in
theorem pl_55_no (E M : Nat) (hf : fok E M = true) (md : Int) (n : Bool) (d : ByteArray) (e : Int) (h1 : -32768 ≤ e) (h2 : e ≤ 32767) (hd : d.size ≤ 1000000) (hc : ¬ Canon d e) (fast : Bool) (sb : Int) (tb : Nat) (hSB : DFT tb 104 #[.agg #[.int .u8 E, .int .u8 M]] (.int .u64 sb))  : DFT tb 55 #[.pointer (some ⟨tb, 0, none⟩), fmt E M, .int .u8 md, .agg #[.bool n, .string d, .int .i16 e], .bool fast] (.tuple #[.int .u64 0, .int .u8 0]) := by
  intro w K ho hK
  have HK := hide hK
  clear hK
  obtain ⟨wb, x0, hwb, r0, r1, hB, hZ⟩ := boxes2 w #[.int .u8 E, .int .u8 M] #[.bool n, .string d, .int .i16 e] 23 74
  have c00 : ∀ x : Later wb, _ = some (.int .u8 E : Value) := Later.cell r0 0 _ rfl
  have c01 : ∀ x : Later wb, _ = some (.int .u8 M : Value) := Later.cell r0 1 _ rfl
  have c10 : ∀ x : Later wb, _ = some (.bool n : Value) := Later.cell r1 0 _ rfl
  have c11 : ∀ x : Later wb, _ = some (.string d : Value) := Later.cell r1 1 _ rfl
  have c12 : ∀ x : Later wb, _ = some (.int .i16 e : Value) := Later.cell r1 2 _ rfl
  have hne : Nonempty (Later wb) := ⟨x0⟩
  have hon : ∀ y : Later wb, On tb y.at_ := fun y => ho.later (hB y)
  have HON := hide hon
  have HhSB := hide hSB
  clear ho hon r0 r1 hSB
  cases n
  · go_enter Oaag.func55, Oaag.ntmps55
    go_wp2_with (first
      | ((with_reducible refine at_later 67 ?_); refine Ret.run (fmtOk_ret E M hf) _ ?_; rintro _ y__ rfl)
      | ((with_reducible refine at_later 39 ?_); refine Ret.run (decOk_ret _ d e h1 h2 hd) _ ?_; rintro _ y__ ⟨b__, rfl, hb__⟩; obtain rfl : b__ = false := (by cases b__; rfl; exact absurd (hb__.1 rfl) hc); clear hb__)
      | ((with_reducible refine at_later 104 ?_); (with_reducible refine DFT.run (unhide HhSB) (unhide HON) _ ?_); intro y__)
      | fail)
    all_goals exact unhide HK _ (hB _)
  · go_enter Oaag.func55, Oaag.ntmps55
    go_wp2_with (first
      | ((with_reducible refine at_later 67 ?_); refine Ret.run (fmtOk_ret E M hf) _ ?_; rintro _ y__ rfl)
      | ((with_reducible refine at_later 39 ?_); refine Ret.run (decOk_ret _ d e h1 h2 hd) _ ?_; rintro _ y__ ⟨b__, rfl, hb__⟩; obtain rfl : b__ = false := (by cases b__; rfl; exact absurd (hb__.1 rfl) hc); clear hb__)
      | ((with_reducible refine at_later 104 ?_); (with_reducible refine DFT.run (unhide HhSB) (unhide HON) _ ?_); intro y__)
      | fail)
    all_goals exact unhide HK _ (hB _)

set_option maxHeartbeats 4000000 in
theorem pl_55_z (E M : Nat) (hf : fok E M = true) (md : Int) (n : Bool) (d : ByteArray) (e : Int) (h1 : -32768 ≤ e) (h2 : e ≤ 32767) (hd : d.size ≤ 1000000) (hc : Canon d e) (hz : d.size = 0) (fast : Bool) (sb : Int) (tb : Nat) (hSB : DFT tb 104 #[.agg #[.int .u8 E, .int .u8 M]] (.int .u64 sb))  : DFT tb 55 #[.pointer (some ⟨tb, 0, none⟩), fmt E M, .int .u8 md, .agg #[.bool n, .string d, .int .i16 e], .bool fast] (.tuple #[.int .u64 (psg n sb), .int .u8 0]) := by
  intro w K ho hK
  have HK := hide hK
  clear hK
  have hz' : ((d.size : Int) == 0) = true := beq_iff_eq.2 (by omega)
  obtain ⟨wb, x0, hwb, r0, r1, hB, hZ⟩ := boxes2 w #[.int .u8 E, .int .u8 M] #[.bool n, .string d, .int .i16 e] 23 74
  have c00 : ∀ x : Later wb, _ = some (.int .u8 E : Value) := Later.cell r0 0 _ rfl
  have c01 : ∀ x : Later wb, _ = some (.int .u8 M : Value) := Later.cell r0 1 _ rfl
  have c10 : ∀ x : Later wb, _ = some (.bool n : Value) := Later.cell r1 0 _ rfl
  have c11 : ∀ x : Later wb, _ = some (.string d : Value) := Later.cell r1 1 _ rfl
  have c12 : ∀ x : Later wb, _ = some (.int .i16 e : Value) := Later.cell r1 2 _ rfl
  have hne : Nonempty (Later wb) := ⟨x0⟩
  have hon : ∀ y : Later wb, On tb y.at_ := fun y => ho.later (hB y)
  have HON := hide hon
  have HhSB := hide hSB
  clear ho hon r0 r1 hSB
  cases n
  · go_enter Oaag.func55, Oaag.ntmps55
    go_wp2_with (first
      | ((with_reducible refine at_later 67 ?_); refine Ret.run (fmtOk_ret E M hf) _ ?_; rintro _ y__ rfl)
      | ((with_reducible refine at_later 39 ?_); refine Ret.run (decOk_ret _ d e h1 h2 hd) _ ?_; rintro _ y__ ⟨b__, rfl, hb__⟩; obtain rfl : b__ = true := hb__.2 hc; clear hb__)
      | ((with_reducible refine at_later 104 ?_); (with_reducible refine DFT.run (unhide HhSB) (unhide HON) _ ?_); intro y__)
      | fail)
    all_goals exact unhide HK _ (hB _)
  · go_enter Oaag.func55, Oaag.ntmps55
    go_wp2_with (first
      | ((with_reducible refine at_later 67 ?_); refine Ret.run (fmtOk_ret E M hf) _ ?_; rintro _ y__ rfl)
      | ((with_reducible refine at_later 39 ?_); refine Ret.run (decOk_ret _ d e h1 h2 hd) _ ?_; rintro _ y__ ⟨b__, rfl, hb__⟩; obtain rfl : b__ = true := hb__.2 hc; clear hb__)
      | ((with_reducible refine at_later 104 ?_); (with_reducible refine DFT.run (unhide HhSB) (unhide HON) _ ?_); intro y__)
      | fail)
    all_goals exact unhide HK _ (hB _)

set_option maxHeartbeats 4000000 in
theorem pl_55_f (E M : Nat) (hf : fok E M = true) (md : Int) (n : Bool) (d : ByteArray) (e : Int) (h1 : -32768 ≤ e) (h2 : e ≤ 32767) (hd : d.size ≤ 1000000) (hc : Canon d e) (hz : ¬ d.size = 0) (h64 : ¬ (E = 11 ∧ M = 52)) (h32 : ¬ (E = 8 ∧ M = 23)) (fast : Bool) (sb : Int) (tb : Nat) (hSB : DFT tb 104 #[.agg #[.int .u8 E, .int .u8 M]] (.int .u64 sb)) (r : Int) (hSl : DFT tb 59 #[.agg #[.int .u8 E, .int .u8 M], .int .u8 md, .agg #[.bool n, .string d, .int .i16 e]] (.int .u64 r)) : DFT tb 55 #[.pointer (some ⟨tb, 0, none⟩), fmt E M, .int .u8 md, .agg #[.bool n, .string d, .int .i16 e], .bool fast] (.tuple #[.int .u64 r, .int .u8 4]) := by
  intro w K ho hK
  have HK := hide hK
  clear hK
  have hz' : ((d.size : Int) == 0) = false := beq_eq_false_iff_ne.2 (by omega)
  have hn1 := fmt_neq E M 11 52 (fun h => h64 ⟨by omega, by omega⟩)
  have hn2 := fmt_neq E M 8 23 (fun h => h32 ⟨by omega, by omega⟩)
  obtain ⟨wb, x0, hwb, r0, r1, hB, hZ⟩ := boxes2 w #[.int .u8 E, .int .u8 M] #[.bool n, .string d, .int .i16 e] 23 74
  have c00 : ∀ x : Later wb, _ = some (.int .u8 E : Value) := Later.cell r0 0 _ rfl
  have c01 : ∀ x : Later wb, _ = some (.int .u8 M : Value) := Later.cell r0 1 _ rfl
  have c10 : ∀ x : Later wb, _ = some (.bool n : Value) := Later.cell r1 0 _ rfl
  have c11 : ∀ x : Later wb, _ = some (.string d : Value) := Later.cell r1 1 _ rfl
  have c12 : ∀ x : Later wb, _ = some (.int .i16 e : Value) := Later.cell r1 2 _ rfl
  have hne : Nonempty (Later wb) := ⟨x0⟩
  have hon : ∀ y : Later wb, On tb y.at_ := fun y => ho.later (hB y)
  have HON := hide hon
  have HhSB := hide hSB
  have HhSl := hide hSl
  clear ho hon r0 r1 hSB hSl
  cases n
  · go_enter Oaag.func55, Oaag.ntmps55
    go_wp2_with (first
      | ((with_reducible refine at_later 67 ?_); refine Ret.run (fmtOk_ret E M hf) _ ?_; rintro _ y__ rfl)
      | ((with_reducible refine at_later 39 ?_); refine Ret.run (decOk_ret _ d e h1 h2 hd) _ ?_; rintro _ y__ ⟨b__, rfl, hb__⟩; obtain rfl : b__ = true := hb__.2 hc; clear hb__)
      | ((with_reducible refine at_later 104 ?_); (with_reducible refine DFT.run (unhide HhSB) (unhide HON) _ ?_); intro y__)
      | ((with_reducible refine at_later 59 ?_); (with_reducible refine DFT.run (unhide HhSl) (unhide HON) _ ?_); intro y__)
      | fail)
    refine Go.LaxQ.region_guarded _ 9 3 [] [(1, fun v => v = .agg #[.int .u8 11, .int .u8 52]), (2, fun v => v = .bool true), (5, fun v => v = .agg #[.int .u8 8, .int .u8 23]), (6, fun v => v = .bool true), (7, fun v => v = .bool true)] [] (fun _ => True) (by kernel_rfl) (by kernel_rfl) (by kernel_rfl) (by kernel_rfl) trivial (fun _ _ _ _ => trivial) (fun _ h => by cases h) (List.forall_mem_cons.2 ⟨⟨_, rfl⟩, List.forall_mem_cons.2 ⟨⟨_, rfl⟩, List.forall_mem_cons.2 ⟨⟨_, rfl⟩, List.forall_mem_cons.2 ⟨⟨_, rfl⟩, List.forall_mem_cons.2 ⟨⟨_, rfl⟩, fun _ h => by cases h⟩⟩⟩⟩⟩) ?_
    (refine Go.LaxQ.walk_det rfl rfl rfl rfl rfl ?_; go_big_quiet_want; go_big_quiet_op; go_big_quiet_on; refine wpQuiet_nil ?_)
    refine Go.LaxQ.q_call rfl rfl rfl rfl (fun _ _ _ _ => trivial) ?_ (fun y K hI hG hK => by
        go_wp2_with fail
        refine fmt74_ret _ _ ?_
        rintro _ w' rfl hb
        have hh := Go.Proofs.YgcoaaGreat.NatW.hide (hK _ w' rfl trivial hb)
        clear hK
        go_wp2_with fail
        exact Eq.mp (by kernel_rfl) (Go.Proofs.YgcoaaGreat.NatW.unhide hh))
    rintro v9 rfl
    ((try dsimp only); go_big_quiet_want; go_big_quiet_op; go_big_quiet_on; refine wpQuiet_nil ?_)
    refine Go.LaxQ.q_call rfl rfl rfl rfl (fun _ _ _ _ => trivial) ?_ (fun y K hI hG hK => by
        have HK := hide hK
        clear hK
        go_wp2_with fail
        exact unhide HK _ _ rfl trivial (Below.refl _ _))
    rintro v9 rfl
    ((try dsimp only); go_big_quiet_want; go_big_quiet_op; go_big_quiet_on; refine wpQuiet_nil ?_)
    (refine Go.LaxQ.walk_det rfl rfl rfl rfl rfl ?_; go_big_quiet_want; go_big_quiet_op; go_big_quiet_on; refine wpQuiet_nil ?_)
    (refine Go.LaxQ.walk_det rfl rfl rfl rfl rfl ?_; go_big_quiet_want; go_big_quiet_op; go_big_quiet_on; refine wpQuiet_nil ?_)
    refine Go.LaxQ.q_call rfl rfl rfl rfl (fun _ _ _ _ => trivial) ?_ (fun y K hI hG hK => by
        go_wp2_with fail
        refine fmt73_ret _ _ ?_
        rintro _ w' rfl hb
        have hh := Go.Proofs.YgcoaaGreat.NatW.hide (hK _ w' rfl trivial hb)
        clear hK
        go_wp2_with fail
        exact Eq.mp (by kernel_rfl) (Go.Proofs.YgcoaaGreat.NatW.unhide hh))
    rintro v9 rfl
    ((try dsimp only); go_big_quiet_want; go_big_quiet_op; go_big_quiet_on; refine wpQuiet_nil ?_)
    refine Go.LaxQ.q_call rfl rfl rfl rfl (fun _ _ _ _ => trivial) ?_ (fun y K hI hG hK => by
        have HK := hide hK
        clear hK
        go_wp2_with fail
        exact unhide HK _ _ rfl trivial (Below.refl _ _))
    rintro v9 rfl
    ((try dsimp only); go_big_quiet_want; go_big_quiet_op; go_big_quiet_on; refine wpQuiet_nil ?_)
    refine Go.LaxQ.q_call rfl rfl rfl rfl (fun _ _ _ _ => trivial) ?_ (fun y K hI hG hK => by
        have HK := hide hK
        clear hK
        go_wp2_with fail
        exact unhide HK _ _ rfl trivial (Below.refl _ _))
    rintro v9 rfl
    ((try dsimp only); go_big_quiet_want; go_big_quiet_op; go_big_quiet_on; refine wpQuiet_nil ?_)
    (refine Go.LaxQ.walk_det rfl rfl rfl rfl rfl ?_; go_big_quiet_want; go_big_quiet_op; go_big_quiet_on; refine wpQuiet_nil ?_)
    refine Go.LaxQ.q_end ?_
    intro y hI hG
    clear hI hG
    go_wp2_with (first
      | ((with_reducible refine at_later 67 ?_); refine Ret.run (fmtOk_ret E M hf) _ ?_; rintro _ y__ rfl)
      | ((with_reducible refine at_later 39 ?_); refine Ret.run (decOk_ret _ d e h1 h2 hd) _ ?_; rintro _ y__ ⟨b__, rfl, hb__⟩; obtain rfl : b__ = true := hb__.2 hc; clear hb__)
      | ((with_reducible refine at_later 104 ?_); (with_reducible refine DFT.run (unhide HhSB) (unhide HON) _ ?_); intro y__)
      | ((with_reducible refine at_later 59 ?_); (with_reducible refine DFT.run (unhide HhSl) (unhide HON) _ ?_); intro y__)
      | fail)
    all_goals exact unhide HK _ (hB _)
  · go_enter Oaag.func55, Oaag.ntmps55
    go_wp2_with (first
      | ((with_reducible refine at_later 67 ?_); refine Ret.run (fmtOk_ret E M hf) _ ?_; rintro _ y__ rfl)
      | ((with_reducible refine at_later 39 ?_); refine Ret.run (decOk_ret _ d e h1 h2 hd) _ ?_; rintro _ y__ ⟨b__, rfl, hb__⟩; obtain rfl : b__ = true := hb__.2 hc; clear hb__)
      | ((with_reducible refine at_later 104 ?_); (with_reducible refine DFT.run (unhide HhSB) (unhide HON) _ ?_); intro y__)
      | ((with_reducible refine at_later 59 ?_); (with_reducible refine DFT.run (unhide HhSl) (unhide HON) _ ?_); intro y__)
      | fail)
    refine Go.LaxQ.region_guarded _ 9 3 [] [(1, fun v => v = .agg #[.int .u8 11, .int .u8 52]), (2, fun v => v = .bool true), (5, fun v => v = .agg #[.int .u8 8, .int .u8 23]), (6, fun v => v = .bool true), (7, fun v => v = .bool true)] [] (fun _ => True) (by kernel_rfl) (by kernel_rfl) (by kernel_rfl) (by kernel_rfl) trivial (fun _ _ _ _ => trivial) (fun _ h => by cases h) (List.forall_mem_cons.2 ⟨⟨_, rfl⟩, List.forall_mem_cons.2 ⟨⟨_, rfl⟩, List.forall_mem_cons.2 ⟨⟨_, rfl⟩, List.forall_mem_cons.2 ⟨⟨_, rfl⟩, List.forall_mem_cons.2 ⟨⟨_, rfl⟩, fun _ h => by cases h⟩⟩⟩⟩⟩) ?_
    (refine Go.LaxQ.walk_det rfl rfl rfl rfl rfl ?_; go_big_quiet_want; go_big_quiet_op; go_big_quiet_on; refine wpQuiet_nil ?_)
    refine Go.LaxQ.q_call rfl rfl rfl rfl (fun _ _ _ _ => trivial) ?_ (fun y K hI hG hK => by
        go_wp2_with fail
        refine fmt74_ret _ _ ?_
        rintro _ w' rfl hb
        have hh := Go.Proofs.YgcoaaGreat.NatW.hide (hK _ w' rfl trivial hb)
        clear hK
        go_wp2_with fail
        exact Eq.mp (by kernel_rfl) (Go.Proofs.YgcoaaGreat.NatW.unhide hh))
    rintro v9 rfl
    ((try dsimp only); go_big_quiet_want; go_big_quiet_op; go_big_quiet_on; refine wpQuiet_nil ?_)
    refine Go.LaxQ.q_call rfl rfl rfl rfl (fun _ _ _ _ => trivial) ?_ (fun y K hI hG hK => by
        have HK := hide hK
        clear hK
        go_wp2_with fail
        exact unhide HK _ _ rfl trivial (Below.refl _ _))
    rintro v9 rfl
    ((try dsimp only); go_big_quiet_want; go_big_quiet_op; go_big_quiet_on; refine wpQuiet_nil ?_)
    (refine Go.LaxQ.walk_det rfl rfl rfl rfl rfl ?_; go_big_quiet_want; go_big_quiet_op; go_big_quiet_on; refine wpQuiet_nil ?_)
    (refine Go.LaxQ.walk_det rfl rfl rfl rfl rfl ?_; go_big_quiet_want; go_big_quiet_op; go_big_quiet_on; refine wpQuiet_nil ?_)
    refine Go.LaxQ.q_call rfl rfl rfl rfl (fun _ _ _ _ => trivial) ?_ (fun y K hI hG hK => by
        go_wp2_with fail
        refine fmt73_ret _ _ ?_
        rintro _ w' rfl hb
        have hh := Go.Proofs.YgcoaaGreat.NatW.hide (hK _ w' rfl trivial hb)
        clear hK
        go_wp2_with fail
        exact Eq.mp (by kernel_rfl) (Go.Proofs.YgcoaaGreat.NatW.unhide hh))
    rintro v9 rfl
    ((try dsimp only); go_big_quiet_want; go_big_quiet_op; go_big_quiet_on; refine wpQuiet_nil ?_)
    refine Go.LaxQ.q_call rfl rfl rfl rfl (fun _ _ _ _ => trivial) ?_ (fun y K hI hG hK => by
        have HK := hide hK
        clear hK
        go_wp2_with fail
        exact unhide HK _ _ rfl trivial (Below.refl _ _))
    rintro v9 rfl
    ((try dsimp only); go_big_quiet_want; go_big_quiet_op; go_big_quiet_on; refine wpQuiet_nil ?_)
    refine Go.LaxQ.q_call rfl rfl rfl rfl (fun _ _ _ _ => trivial) ?_ (fun y K hI hG hK => by
        have HK := hide hK
        clear hK
        go_wp2_with fail
        exact unhide HK _ _ rfl trivial (Below.refl _ _))
    rintro v9 rfl
    ((try dsimp only); go_big_quiet_want; go_big_quiet_op; go_big_quiet_on; refine wpQuiet_nil ?_)
    (refine Go.LaxQ.walk_det rfl rfl rfl rfl rfl ?_; go_big_quiet_want; go_big_quiet_op; go_big_quiet_on; refine wpQuiet_nil ?_)
    refine Go.LaxQ.q_end ?_
    intro y hI hG
    clear hI hG
    go_wp2_with (first
      | ((with_reducible refine at_later 67 ?_); refine Ret.run (fmtOk_ret E M hf) _ ?_; rintro _ y__ rfl)
      | ((with_reducible refine at_later 39 ?_); refine Ret.run (decOk_ret _ d e h1 h2 hd) _ ?_; rintro _ y__ ⟨b__, rfl, hb__⟩; obtain rfl : b__ = true := hb__.2 hc; clear hb__)
      | ((with_reducible refine at_later 104 ?_); (with_reducible refine DFT.run (unhide HhSB) (unhide HON) _ ?_); intro y__)
      | ((with_reducible refine at_later 59 ?_); (with_reducible refine DFT.run (unhide HhSl) (unhide HON) _ ?_); intro y__)
      | fail)
    all_goals exact unhide HK _ (hB _)

set_option maxHeartbeats 4000000 in
theorem pl_55_m11 (md : Int) (n : Bool) (d : ByteArray) (e : Int) (h1 : -32768 ≤ e) (h2 : e ≤ 32767) (hd : d.size ≤ 1000000) (hc : Canon d e) (hz : ¬ d.size = 0) (hm0 : md ≠ 0) (hm4 : md ≤ 4) (fast : Bool) (sb : Int) (tb : Nat) (hSB : DFT tb 104 #[.agg #[.int .u8 11, .int .u8 52]] (.int .u64 sb)) (r : Int) (hSl : DFT tb 59 #[.agg #[.int .u8 11, .int .u8 52], .int .u8 md, .agg #[.bool n, .string d, .int .i16 e]] (.int .u64 r)) : DFT tb 55 #[.pointer (some ⟨tb, 0, none⟩), fmt 11 52, .int .u8 md, .agg #[.bool n, .string d, .int .i16 e], .bool fast] (.tuple #[.int .u64 r, .int .u8 4]) := by
  intro w K ho hK
  have hf : fok 11 52 = true := rfl
  have HK := hide hK
  clear hK
  have hz' : ((d.size : Int) == 0) = false := beq_eq_false_iff_ne.2 (by omega)
  have hb0 : (md != 0) = true := by simp; omega
  have hb4 : decide (md ≤ 4) = true := by simp; omega
  obtain ⟨wb, x0, hwb, r0, r1, hB, hZ⟩ := boxes2 w #[.int .u8 11, .int .u8 52] #[.bool n, .string d, .int .i16 e] 23 74
  have c00 : ∀ x : Later wb, _ = some (.int .u8 11 : Value) := Later.cell r0 0 _ rfl
  have c01 : ∀ x : Later wb, _ = some (.int .u8 52 : Value) := Later.cell r0 1 _ rfl
  have c10 : ∀ x : Later wb, _ = some (.bool n : Value) := Later.cell r1 0 _ rfl
  have c11 : ∀ x : Later wb, _ = some (.string d : Value) := Later.cell r1 1 _ rfl
  have c12 : ∀ x : Later wb, _ = some (.int .i16 e : Value) := Later.cell r1 2 _ rfl
  have hne : Nonempty (Later wb) := ⟨x0⟩
  have hon : ∀ y : Later wb, On tb y.at_ := fun y => ho.later (hB y)
  have HON := hide hon
  have HhSB := hide hSB
  have HhSl := hide hSl
  clear ho hon r0 r1 hSB hSl
  cases n
  · go_enter Oaag.func55, Oaag.ntmps55
    go_wp2_with (first
      | ((with_reducible refine at_later 67 ?_); refine Ret.run (fmtOk_ret 11 52 hf) _ ?_; rintro _ y__ rfl)
      | ((with_reducible refine at_later 39 ?_); refine Ret.run (decOk_ret _ d e h1 h2 hd) _ ?_; rintro _ y__ ⟨b__, rfl, hb__⟩; obtain rfl : b__ = true := hb__.2 hc; clear hb__)
      | ((with_reducible refine at_later 104 ?_); (with_reducible refine DFT.run (unhide HhSB) (unhide HON) _ ?_); intro y__)
      | ((with_reducible refine at_later 59 ?_); (with_reducible refine DFT.run (unhide HhSl) (unhide HON) _ ?_); intro y__)
      | fail)
    refine Go.LaxQ.region_guarded _ 9 3 [4, 5, 6] [(1, fun v => v = .agg #[.int .u8 11, .int .u8 52]), (7, fun v => v = .bool false)] [] (fun _ => True) (by kernel_rfl) (by kernel_rfl) (by kernel_rfl) (by kernel_rfl) trivial (fun _ _ _ _ => trivial) (fun _ h => by cases h) (List.forall_mem_cons.2 ⟨⟨_, rfl⟩, List.forall_mem_cons.2 ⟨⟨_, rfl⟩, fun _ h => by cases h⟩⟩) ?_
    (refine Go.LaxQ.walk_det rfl rfl rfl rfl rfl ?_; go_big_quiet_want; go_big_quiet_op; go_big_quiet_on; refine wpQuiet_nil ?_)
    refine Go.LaxQ.q_call rfl rfl rfl rfl (fun _ _ _ _ => trivial) ?_ (fun y K hI hG hK => by
        go_wp2_with fail
        refine fmt74_ret _ _ ?_
        rintro _ w' rfl hb
        have hh := Go.Proofs.YgcoaaGreat.NatW.hide (hK _ w' rfl trivial hb)
        clear hK
        go_wp2_with fail
        exact Eq.mp (by kernel_rfl) (Go.Proofs.YgcoaaGreat.NatW.unhide hh))
    rintro v9 rfl
    ((try dsimp only); go_big_quiet_want; go_big_quiet_op; go_big_quiet_on; refine wpQuiet_nil ?_)
    (refine Go.LaxQ.walk_det rfl rfl rfl rfl rfl ?_; go_big_quiet_want; go_big_quiet_op; go_big_quiet_on; refine wpQuiet_nil ?_)
    (refine Go.LaxQ.walk_det rfl rfl rfl rfl rfl ?_; go_big_quiet_want; go_big_quiet_op; go_big_quiet_on; refine wpQuiet_nil ?_)
    (refine Go.LaxQ.walk_skip_mv rfl rfl ?_; (try dsimp only); go_big_quiet_want; go_big_quiet_op; go_big_quiet_on; refine wpQuiet_nil ?_)
    (refine Go.LaxQ.walk_skip_mv rfl rfl ?_; (try dsimp only); go_big_quiet_want; go_big_quiet_op; go_big_quiet_on; refine wpQuiet_nil ?_)
    (refine Go.LaxQ.walk_skip_mv rfl rfl ?_; (try dsimp only); go_big_quiet_want; go_big_quiet_op; go_big_quiet_on; refine wpQuiet_nil ?_)
    refine Go.LaxQ.q_call rfl rfl rfl rfl (fun _ _ _ _ => trivial) ?_ (fun y K hI hG hK => by
        have HK := hide hK
        clear hK
        go_wp2_with fail
        exact unhide HK _ _ rfl trivial (Below.refl _ _))
    rintro v9 rfl
    ((try dsimp only); go_big_quiet_want; go_big_quiet_op; go_big_quiet_on; refine wpQuiet_nil ?_)
    (refine Go.LaxQ.walk_det rfl rfl rfl rfl rfl ?_; go_big_quiet_want; go_big_quiet_op; go_big_quiet_on; refine wpQuiet_nil ?_)
    refine Go.LaxQ.q_end ?_
    intro y hI hG
    clear hI hG
    go_wp2_with (first
      | ((with_reducible refine at_later 67 ?_); refine Ret.run (fmtOk_ret 11 52 hf) _ ?_; rintro _ y__ rfl)
      | ((with_reducible refine at_later 39 ?_); refine Ret.run (decOk_ret _ d e h1 h2 hd) _ ?_; rintro _ y__ ⟨b__, rfl, hb__⟩; obtain rfl : b__ = true := hb__.2 hc; clear hb__)
      | ((with_reducible refine at_later 104 ?_); (with_reducible refine DFT.run (unhide HhSB) (unhide HON) _ ?_); intro y__)
      | ((with_reducible refine at_later 59 ?_); (with_reducible refine DFT.run (unhide HhSl) (unhide HON) _ ?_); intro y__)
      | fail)
    all_goals exact unhide HK _ (hB _)
  · go_enter Oaag.func55, Oaag.ntmps55
    go_wp2_with (first
      | ((with_reducible refine at_later 67 ?_); refine Ret.run (fmtOk_ret 11 52 hf) _ ?_; rintro _ y__ rfl)
      | ((with_reducible refine at_later 39 ?_); refine Ret.run (decOk_ret _ d e h1 h2 hd) _ ?_; rintro _ y__ ⟨b__, rfl, hb__⟩; obtain rfl : b__ = true := hb__.2 hc; clear hb__)
      | ((with_reducible refine at_later 104 ?_); (with_reducible refine DFT.run (unhide HhSB) (unhide HON) _ ?_); intro y__)
      | ((with_reducible refine at_later 59 ?_); (with_reducible refine DFT.run (unhide HhSl) (unhide HON) _ ?_); intro y__)
      | fail)
    refine Go.LaxQ.region_guarded _ 9 3 [4, 5, 6] [(1, fun v => v = .agg #[.int .u8 11, .int .u8 52]), (7, fun v => v = .bool false)] [] (fun _ => True) (by kernel_rfl) (by kernel_rfl) (by kernel_rfl) (by kernel_rfl) trivial (fun _ _ _ _ => trivial) (fun _ h => by cases h) (List.forall_mem_cons.2 ⟨⟨_, rfl⟩, List.forall_mem_cons.2 ⟨⟨_, rfl⟩, fun _ h => by cases h⟩⟩) ?_
    (refine Go.LaxQ.walk_det rfl rfl rfl rfl rfl ?_; go_big_quiet_want; go_big_quiet_op; go_big_quiet_on; refine wpQuiet_nil ?_)
    refine Go.LaxQ.q_call rfl rfl rfl rfl (fun _ _ _ _ => trivial) ?_ (fun y K hI hG hK => by
        go_wp2_with fail
        refine fmt74_ret _ _ ?_
        rintro _ w' rfl hb
        have hh := Go.Proofs.YgcoaaGreat.NatW.hide (hK _ w' rfl trivial hb)
        clear hK
        go_wp2_with fail
        exact Eq.mp (by kernel_rfl) (Go.Proofs.YgcoaaGreat.NatW.unhide hh))
    rintro v9 rfl
    ((try dsimp only); go_big_quiet_want; go_big_quiet_op; go_big_quiet_on; refine wpQuiet_nil ?_)
    (refine Go.LaxQ.walk_det rfl rfl rfl rfl rfl ?_; go_big_quiet_want; go_big_quiet_op; go_big_quiet_on; refine wpQuiet_nil ?_)
    (refine Go.LaxQ.walk_det rfl rfl rfl rfl rfl ?_; go_big_quiet_want; go_big_quiet_op; go_big_quiet_on; refine wpQuiet_nil ?_)
    (refine Go.LaxQ.walk_skip_mv rfl rfl ?_; (try dsimp only); go_big_quiet_want; go_big_quiet_op; go_big_quiet_on; refine wpQuiet_nil ?_)
    (refine Go.LaxQ.walk_skip_mv rfl rfl ?_; (try dsimp only); go_big_quiet_want; go_big_quiet_op; go_big_quiet_on; refine wpQuiet_nil ?_)
    (refine Go.LaxQ.walk_skip_mv rfl rfl ?_; (try dsimp only); go_big_quiet_want; go_big_quiet_op; go_big_quiet_on; refine wpQuiet_nil ?_)
    refine Go.LaxQ.q_call rfl rfl rfl rfl (fun _ _ _ _ => trivial) ?_ (fun y K hI hG hK => by
        have HK := hide hK
        clear hK
        go_wp2_with fail
        exact unhide HK _ _ rfl trivial (Below.refl _ _))
    rintro v9 rfl
    ((try dsimp only); go_big_quiet_want; go_big_quiet_op; go_big_quiet_on; refine wpQuiet_nil ?_)
    (refine Go.LaxQ.walk_det rfl rfl rfl rfl rfl ?_; go_big_quiet_want; go_big_quiet_op; go_big_quiet_on; refine wpQuiet_nil ?_)
    refine Go.LaxQ.q_end ?_
    intro y hI hG
    clear hI hG
    go_wp2_with (first
      | ((with_reducible refine at_later 67 ?_); refine Ret.run (fmtOk_ret 11 52 hf) _ ?_; rintro _ y__ rfl)
      | ((with_reducible refine at_later 39 ?_); refine Ret.run (decOk_ret _ d e h1 h2 hd) _ ?_; rintro _ y__ ⟨b__, rfl, hb__⟩; obtain rfl : b__ = true := hb__.2 hc; clear hb__)
      | ((with_reducible refine at_later 104 ?_); (with_reducible refine DFT.run (unhide HhSB) (unhide HON) _ ?_); intro y__)
      | ((with_reducible refine at_later 59 ?_); (with_reducible refine DFT.run (unhide HhSl) (unhide HON) _ ?_); intro y__)
      | fail)
    all_goals exact unhide HK _ (hB _)

set_option maxHeartbeats 4000000 in
theorem pl_55_m8 (md : Int) (n : Bool) (d : ByteArray) (e : Int) (h1 : -32768 ≤ e) (h2 : e ≤ 32767) (hd : d.size ≤ 1000000) (hc : Canon d e) (hz : ¬ d.size = 0) (hm0 : md ≠ 0) (hm4 : md ≤ 4) (fast : Bool) (sb : Int) (tb : Nat) (hSB : DFT tb 104 #[.agg #[.int .u8 8, .int .u8 23]] (.int .u64 sb)) (r : Int) (hSl : DFT tb 59 #[.agg #[.int .u8 8, .int .u8 23], .int .u8 md, .agg #[.bool n, .string d, .int .i16 e]] (.int .u64 r)) : DFT tb 55 #[.pointer (some ⟨tb, 0, none⟩), fmt 8 23, .int .u8 md, .agg #[.bool n, .string d, .int .i16 e], .bool fast] (.tuple #[.int .u64 r, .int .u8 4]) := by
  intro w K ho hK
  have hf : fok 8 23 = true := rfl
  have HK := hide hK
  clear hK
  have hz' : ((d.size : Int) == 0) = false := beq_eq_false_iff_ne.2 (by omega)
  have hb0 : (md != 0) = true := by simp; omega
  have hb4 : decide (md ≤ 4) = true := by simp; omega
  obtain ⟨wb, x0, hwb, r0, r1, hB, hZ⟩ := boxes2 w #[.int .u8 8, .int .u8 23] #[.bool n, .string d, .int .i16 e] 23 74
  have c00 : ∀ x : Later wb, _ = some (.int .u8 8 : Value) := Later.cell r0 0 _ rfl
  have c01 : ∀ x : Later wb, _ = some (.int .u8 23 : Value) := Later.cell r0 1 _ rfl
  have c10 : ∀ x : Later wb, _ = some (.bool n : Value) := Later.cell r1 0 _ rfl
  have c11 : ∀ x : Later wb, _ = some (.string d : Value) := Later.cell r1 1 _ rfl
  have c12 : ∀ x : Later wb, _ = some (.int .i16 e : Value) := Later.cell r1 2 _ rfl
  have hne : Nonempty (Later wb) := ⟨x0⟩
  have hon : ∀ y : Later wb, On tb y.at_ := fun y => ho.later (hB y)
  have HON := hide hon
  have HhSB := hide hSB
  have HhSl := hide hSl
  clear ho hon r0 r1 hSB hSl
  cases n
  · go_enter Oaag.func55, Oaag.ntmps55
    go_wp2_with (first
      | ((with_reducible refine at_later 67 ?_); refine Ret.run (fmtOk_ret 8 23 hf) _ ?_; rintro _ y__ rfl)
      | ((with_reducible refine at_later 39 ?_); refine Ret.run (decOk_ret _ d e h1 h2 hd) _ ?_; rintro _ y__ ⟨b__, rfl, hb__⟩; obtain rfl : b__ = true := hb__.2 hc; clear hb__)
      | ((with_reducible refine at_later 104 ?_); (with_reducible refine DFT.run (unhide HhSB) (unhide HON) _ ?_); intro y__)
      | ((with_reducible refine at_later 59 ?_); (with_reducible refine DFT.run (unhide HhSl) (unhide HON) _ ?_); intro y__)
      | fail)
    refine Go.LaxQ.region_guarded _ 9 3 [] [(1, fun v => v = .agg #[.int .u8 11, .int .u8 52]), (5, fun v => v = .agg #[.int .u8 8, .int .u8 23]), (7, fun v => v = .bool false)] [] (fun _ => True) (by kernel_rfl) (by kernel_rfl) (by kernel_rfl) (by kernel_rfl) trivial (fun _ _ _ _ => trivial) (fun _ h => by cases h) (List.forall_mem_cons.2 ⟨⟨_, rfl⟩, List.forall_mem_cons.2 ⟨⟨_, rfl⟩, List.forall_mem_cons.2 ⟨⟨_, rfl⟩, fun _ h => by cases h⟩⟩⟩) ?_
    (refine Go.LaxQ.walk_det rfl rfl rfl rfl rfl ?_; go_big_quiet_want; go_big_quiet_op; go_big_quiet_on; refine wpQuiet_nil ?_)
    refine Go.LaxQ.q_call rfl rfl rfl rfl (fun _ _ _ _ => trivial) ?_ (fun y K hI hG hK => by
        go_wp2_with fail
        refine fmt74_ret _ _ ?_
        rintro _ w' rfl hb
        have hh := Go.Proofs.YgcoaaGreat.NatW.hide (hK _ w' rfl trivial hb)
        clear hK
        go_wp2_with fail
        exact Eq.mp (by kernel_rfl) (Go.Proofs.YgcoaaGreat.NatW.unhide hh))
    rintro v9 rfl
    ((try dsimp only); go_big_quiet_want; go_big_quiet_op; go_big_quiet_on; refine wpQuiet_nil ?_)
    (refine Go.LaxQ.walk_det rfl rfl rfl rfl rfl ?_; go_big_quiet_want; go_big_quiet_op; go_big_quiet_on; refine wpQuiet_nil ?_)
    (refine Go.LaxQ.walk_det rfl rfl rfl rfl rfl ?_; go_big_quiet_want; go_big_quiet_op; go_big_quiet_on; refine wpQuiet_nil ?_)
    (refine Go.LaxQ.walk_det rfl rfl rfl rfl rfl ?_; go_big_quiet_want; go_big_quiet_op; go_big_quiet_on; refine wpQuiet_nil ?_)
    refine Go.LaxQ.q_call rfl rfl rfl rfl (fun _ _ _ _ => trivial) ?_ (fun y K hI hG hK => by
        go_wp2_with fail
        refine fmt73_ret _ _ ?_
        rintro _ w' rfl hb
        have hh := Go.Proofs.YgcoaaGreat.NatW.hide (hK _ w' rfl trivial hb)
        clear hK
        go_wp2_with fail
        exact Eq.mp (by kernel_rfl) (Go.Proofs.YgcoaaGreat.NatW.unhide hh))
    rintro v9 rfl
    ((try dsimp only); go_big_quiet_want; go_big_quiet_op; go_big_quiet_on; refine wpQuiet_nil ?_)
    (refine Go.LaxQ.walk_det rfl rfl rfl rfl rfl ?_; go_big_quiet_want; go_big_quiet_op; go_big_quiet_on; refine wpQuiet_nil ?_)
    refine Go.LaxQ.q_call rfl rfl rfl rfl (fun _ _ _ _ => trivial) ?_ (fun y K hI hG hK => by
        have HK := hide hK
        clear hK
        go_wp2_with fail
        exact unhide HK _ _ rfl trivial (Below.refl _ _))
    rintro v9 rfl
    ((try dsimp only); go_big_quiet_want; go_big_quiet_op; go_big_quiet_on; refine wpQuiet_nil ?_)
    (refine Go.LaxQ.walk_det rfl rfl rfl rfl rfl ?_; go_big_quiet_want; go_big_quiet_op; go_big_quiet_on; refine wpQuiet_nil ?_)
    refine Go.LaxQ.q_end ?_
    intro y hI hG
    clear hI hG
    go_wp2_with (first
      | ((with_reducible refine at_later 67 ?_); refine Ret.run (fmtOk_ret 8 23 hf) _ ?_; rintro _ y__ rfl)
      | ((with_reducible refine at_later 39 ?_); refine Ret.run (decOk_ret _ d e h1 h2 hd) _ ?_; rintro _ y__ ⟨b__, rfl, hb__⟩; obtain rfl : b__ = true := hb__.2 hc; clear hb__)
      | ((with_reducible refine at_later 104 ?_); (with_reducible refine DFT.run (unhide HhSB) (unhide HON) _ ?_); intro y__)
      | ((with_reducible refine at_later 59 ?_); (with_reducible refine DFT.run (unhide HhSl) (unhide HON) _ ?_); intro y__)
      | fail)
    all_goals exact unhide HK _ (hB _)
  · go_enter Oaag.func55, Oaag.ntmps55
    go_wp2_with (first
      | ((with_reducible refine at_later 67 ?_); refine Ret.run (fmtOk_ret 8 23 hf) _ ?_; rintro _ y__ rfl)
      | ((with_reducible refine at_later 39 ?_); refine Ret.run (decOk_ret _ d e h1 h2 hd) _ ?_; rintro _ y__ ⟨b__, rfl, hb__⟩; obtain rfl : b__ = true := hb__.2 hc; clear hb__)
      | ((with_reducible refine at_later 104 ?_); (with_reducible refine DFT.run (unhide HhSB) (unhide HON) _ ?_); intro y__)
      | ((with_reducible refine at_later 59 ?_); (with_reducible refine DFT.run (unhide HhSl) (unhide HON) _ ?_); intro y__)
      | fail)
    refine Go.LaxQ.region_guarded _ 9 3 [] [(1, fun v => v = .agg #[.int .u8 11, .int .u8 52]), (5, fun v => v = .agg #[.int .u8 8, .int .u8 23]), (7, fun v => v = .bool false)] [] (fun _ => True) (by kernel_rfl) (by kernel_rfl) (by kernel_rfl) (by kernel_rfl) trivial (fun _ _ _ _ => trivial) (fun _ h => by cases h) (List.forall_mem_cons.2 ⟨⟨_, rfl⟩, List.forall_mem_cons.2 ⟨⟨_, rfl⟩, List.forall_mem_cons.2 ⟨⟨_, rfl⟩, fun _ h => by cases h⟩⟩⟩) ?_
    (refine Go.LaxQ.walk_det rfl rfl rfl rfl rfl ?_; go_big_quiet_want; go_big_quiet_op; go_big_quiet_on; refine wpQuiet_nil ?_)
    refine Go.LaxQ.q_call rfl rfl rfl rfl (fun _ _ _ _ => trivial) ?_ (fun y K hI hG hK => by
        go_wp2_with fail
        refine fmt74_ret _ _ ?_
        rintro _ w' rfl hb
        have hh := Go.Proofs.YgcoaaGreat.NatW.hide (hK _ w' rfl trivial hb)
        clear hK
        go_wp2_with fail
        exact Eq.mp (by kernel_rfl) (Go.Proofs.YgcoaaGreat.NatW.unhide hh))
    rintro v9 rfl
    ((try dsimp only); go_big_quiet_want; go_big_quiet_op; go_big_quiet_on; refine wpQuiet_nil ?_)
    (refine Go.LaxQ.walk_det rfl rfl rfl rfl rfl ?_; go_big_quiet_want; go_big_quiet_op; go_big_quiet_on; refine wpQuiet_nil ?_)
    (refine Go.LaxQ.walk_det rfl rfl rfl rfl rfl ?_; go_big_quiet_want; go_big_quiet_op; go_big_quiet_on; refine wpQuiet_nil ?_)
    (refine Go.LaxQ.walk_det rfl rfl rfl rfl rfl ?_; go_big_quiet_want; go_big_quiet_op; go_big_quiet_on; refine wpQuiet_nil ?_)
    refine Go.LaxQ.q_call rfl rfl rfl rfl (fun _ _ _ _ => trivial) ?_ (fun y K hI hG hK => by
        go_wp2_with fail
        refine fmt73_ret _ _ ?_
        rintro _ w' rfl hb
        have hh := Go.Proofs.YgcoaaGreat.NatW.hide (hK _ w' rfl trivial hb)
        clear hK
        go_wp2_with fail
        exact Eq.mp (by kernel_rfl) (Go.Proofs.YgcoaaGreat.NatW.unhide hh))
    rintro v9 rfl
    ((try dsimp only); go_big_quiet_want; go_big_quiet_op; go_big_quiet_on; refine wpQuiet_nil ?_)
    (refine Go.LaxQ.walk_det rfl rfl rfl rfl rfl ?_; go_big_quiet_want; go_big_quiet_op; go_big_quiet_on; refine wpQuiet_nil ?_)
    refine Go.LaxQ.q_call rfl rfl rfl rfl (fun _ _ _ _ => trivial) ?_ (fun y K hI hG hK => by
        have HK := hide hK
        clear hK
        go_wp2_with fail
        exact unhide HK _ _ rfl trivial (Below.refl _ _))
    rintro v9 rfl
    ((try dsimp only); go_big_quiet_want; go_big_quiet_op; go_big_quiet_on; refine wpQuiet_nil ?_)
    (refine Go.LaxQ.walk_det rfl rfl rfl rfl rfl ?_; go_big_quiet_want; go_big_quiet_op; go_big_quiet_on; refine wpQuiet_nil ?_)
    refine Go.LaxQ.q_end ?_
    intro y hI hG
    clear hI hG
    go_wp2_with (first
      | ((with_reducible refine at_later 67 ?_); refine Ret.run (fmtOk_ret 8 23 hf) _ ?_; rintro _ y__ rfl)
      | ((with_reducible refine at_later 39 ?_); refine Ret.run (decOk_ret _ d e h1 h2 hd) _ ?_; rintro _ y__ ⟨b__, rfl, hb__⟩; obtain rfl : b__ = true := hb__.2 hc; clear hb__)
      | ((with_reducible refine at_later 104 ?_); (with_reducible refine DFT.run (unhide HhSB) (unhide HON) _ ?_); intro y__)
      | ((with_reducible refine at_later 59 ?_); (with_reducible refine DFT.run (unhide HhSl) (unhide HON) _ ?_); intro y__)
      | fail)
    all_goals exact unhide HK _ (hB _)
end Go.Proofs.YgcoaaGreat.NatW
