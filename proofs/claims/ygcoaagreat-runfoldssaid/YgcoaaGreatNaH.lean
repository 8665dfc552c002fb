/-
  na.Step: its head.
-/
import Derived.Test.YgcoaaGreatMxA
import Derived.Test.YgcoaaGreatLaxQ
import Derived.Test.YgcoaaGreatFmts
import Derived.Test.YgcoaaGreatScB0
set_option linter.unusedVariables false
set_option linter.unusedSimpArgs false
set_option maxRecDepth 20000
namespace Go.Proofs.YgcoaaGreat.NatW
open Go.RowKit
open Go.Proofs.YgcoaaGreat.Det
open Go.Proofs.YgcoaaGreat.Limbs Go.Proofs.YgcoaaGreat.Bits
attribute [local go_sem] Go.Instr.field Go.asAgg

set_option maxHeartbeats 4000000 in
theorem na_head83_11_z (E M : Nat) (hE : E = 11) (hM : M = 52) (md kd kD kA kB imm : Int) (text : ByteArray) (di ai bi : Nat) (hdi : bits .and .u8 kD 7 = (di : Int)) (hdi8 : di < 8) (hai : bits .and .u8 kA 7 = (ai : Int)) (hai8 : ai < 8) (hbi : bits .and .u8 kB 7 = (bi : Int)) (hbi8 : bi < 8) (R : Nat → Int) (L : List Value) (tb mb : Nat) (w : World) (K : Ending → World → Prop) (h : MX mb R L w) (hmd : md = 0) (wb : World) (x0 : Later wb) (hwb : (w.alloc (.cells #[.int .u8 E, .int .u8 M] 23)).alloc (.cells #[.int .u8 kd, .int .u8 kD, .int .u8 kA, .int .u8 kB, .int .u64 imm, .string text] 91) = x0.at_) (r0 : wb.heap[w.heap.size]? = some (.cells #[.int .u8 E, .int .u8 M] 23 (0, 0))) (r1 : wb.heap[w.heap.size + 1]? = some (.cells #[.int .u8 kd, .int .u8 kD, .int .u8 kA, .int .u8 kB, .int .u64 imm, .string text] 91 (0, 0))) (hB : ∀ x : Later wb, Below w.heap.size w x.at_) (Q : Exit → Act → World → Prop) (hQ : Q = bodyPost Oaag.prog Oaag.f83 K) (H : ∀ (y : Later wb) (u14 u15 u16 u17 u18 u19 u20 u21 u22 u23 u24 u25 u26 u27 u28 u29 u30 u31 u32 u33 u34 u35 u36 u37 u38 u39 u40 u41 u42 u43 u44 u45 u46 u47 u48 u49 u50 u51 u52 u53 u54 u55 u56 u57 u58 u59 u60 u61 u62 u63 : Value), Code.wp Oaag.prog (sR (sR (sR (sR (bodyOf Oaag.f83))))) Q { tmps := #[.pointer (some ⟨tb, 0, none⟩), fmt E M, .int .u8 md, .pointer (some ⟨mb, 0, none⟩), .agg #[.int .u8 kd, .int .u8 kD, .int .u8 kA, .int .u8 kB, .int .u64 imm, .string text], undef, .pointer (some ⟨w.heap.size, 0, none⟩), undef, undef, .pointer (some ⟨w.heap.size + 1, 0, none⟩), .pointer (some ⟨mb, di, none⟩), .int .u64 (R ai), .int .u64 (R bi), .bool true, u14, u15, u16, u17, u18, u19, u20, u21, u22, u23, u24, u25, u26, u27, u28, u29, u30, u31, u32, u33, u34, u35, u36, u37, u38, u39, u40, u41, u42, u43, u44, u45, u46, u47, u48, u49, u50, u51, u52, u53, u54, u55, u56, u57, u58, u59, u60, u61, u62, u63, undef, undef, undef, undef, undef, undef, undef, undef, undef, undef, undef, undef, undef, undef, undef, undef, undef, undef, undef, undef, undef, undef, undef, undef, undef, undef, undef, undef, undef, undef, undef, undef, undef, undef, undef, undef, undef, undef, undef, undef, undef, undef, undef, undef, undef, undef, undef, undef, undef, undef, undef, undef, undef, undef, undef, undef, undef, undef, undef, undef, undef, undef, undef, undef, undef, undef, undef, undef, undef, undef, undef, undef, undef, undef, undef, undef, undef, undef, undef, undef, undef, undef, undef, undef, undef, undef, undef, undef, undef, undef, undef, undef, undef, undef, undef, undef, undef, undef, undef, undef, undef, undef, undef, undef, undef, undef, undef, undef, undef, undef, undef, undef, undef, undef, undef, undef, undef, undef, undef, undef, undef, undef, undef, undef, undef, undef], defers := [] } y.at_) : Calls Oaag.prog 83 #[.pointer (some ⟨tb, 0, none⟩), fmt E M, .int .u8 md, .pointer (some ⟨mb, 0, none⟩), .agg #[.int .u8 kd, .int .u8 kD, .int .u8 kA, .int .u8 kB, .int .u64 imm, .string text]] w K := by
  subst hE hM
  rw [show ((11 : Nat) : Int) = 11 from rfl, show ((52 : Nat) : Int) = 52 from rfl] at hwb r0
  subst hmd
  have c00 : ∀ x : Later wb, _ = some (.int .u8 11 : Value) := Later.cell r0 0 _ rfl
  have c01 : ∀ x : Later wb, _ = some (.int .u8 52 : Value) := Later.cell r0 1 _ rfl
  have c10 : ∀ x : Later wb, _ = some (.int .u8 kd : Value) := Later.cell r1 0 _ rfl
  have c11 : ∀ x : Later wb, _ = some (.int .u8 kD : Value) := Later.cell r1 1 _ rfl
  have c12 : ∀ x : Later wb, _ = some (.int .u8 kA : Value) := Later.cell r1 2 _ rfl
  have c13 : ∀ x : Later wb, _ = some (.int .u8 kB : Value) := Later.cell r1 3 _ rfl
  have hne : Nonempty (Later wb) := ⟨x0⟩
  have ka : ∀ y : Later wb, y.at_.cell? ⟨mb, ai, none⟩ = some (.int .u64 (R ai)) := fun y => ((hB y).cell (p := ⟨mb, ai, none⟩) h.own.1).trans (h.reg ai hai8)
  have kb : ∀ y : Later wb, y.at_.cell? ⟨mb, bi, none⟩ = some (.int .u64 (R bi)) := fun y => ((hB y).cell (p := ⟨mb, bi, none⟩) h.own.1).trans (h.reg bi hbi8)
  dsimp only [sR, bodyOf, Oaag.f83, Option.getD] at H
  have HH := hide H
  clear h H
  subst hQ
  go_enter Oaag.func83, Oaag.ntmps83
  go_wp2_with fail
  refine Go.LaxQ.region_guarded _ 24 3 [20, 21] [(5, fun v => v = .bool false), (8, fun v => v = .agg #[.int .u8 8, .int .u8 23]), (12, fun v => v = .agg #[.int .u8 11, .int .u8 52]), (14, fun v => v = .bool false), (15, fun v => v = .bool false), (22, fun v => v = .bool false), (23, fun v => v = .bool false)] [] (fun _ => True) (by kernel_rfl) (by kernel_rfl) (by kernel_rfl) (by kernel_rfl) trivial (fun _ _ _ _ => trivial) (fun _ h => by cases h) (List.forall_mem_cons.2 ⟨⟨_, rfl⟩, List.forall_mem_cons.2 ⟨⟨_, rfl⟩, List.forall_mem_cons.2 ⟨⟨_, rfl⟩, List.forall_mem_cons.2 ⟨⟨_, rfl⟩, List.forall_mem_cons.2 ⟨⟨_, rfl⟩, List.forall_mem_cons.2 ⟨⟨_, rfl⟩, List.forall_mem_cons.2 ⟨⟨_, rfl⟩, fun _ h => by cases h⟩⟩⟩⟩⟩⟩⟩) ?_
  (refine Go.LaxQ.walk_det rfl rfl rfl rfl rfl ?_; go_big_quiet_want; go_big_quiet_op; go_big_quiet_on; refine wpQuiet_nil ?_)
  (refine Go.LaxQ.walk_det rfl rfl rfl rfl rfl ?_; go_big_quiet_want; go_big_quiet_op; go_big_quiet_on; refine wpQuiet_nil ?_)
  (refine Go.LaxQ.walk_det rfl rfl rfl rfl rfl ?_; go_big_quiet_want; go_big_quiet_op; go_big_quiet_on; refine wpQuiet_nil ?_)
  (refine Go.LaxQ.walk_det rfl rfl rfl rfl rfl ?_; go_big_quiet_want; go_big_quiet_op; go_big_quiet_on; refine wpQuiet_nil ?_)
  (refine Go.LaxQ.walk_det rfl rfl rfl rfl rfl ?_; go_big_quiet_want; go_big_quiet_op; go_big_quiet_on; refine wpQuiet_nil ?_)
  refine Go.LaxQ.q_call rfl rfl rfl rfl (fun _ _ _ _ => trivial) ?_ (fun y K hI hG hK => by
      have HK := hide hK
      clear hK
      go_wp2_with fail
      exact unhide HK _ _ rfl trivial (Below.refl _ _))
  rintro v9 rfl
  ((try dsimp only); go_big_quiet_want; go_big_quiet_op; go_big_quiet_on; refine wpQuiet_nil ?_)
  (refine Go.LaxQ.walk_det rfl rfl rfl rfl rfl ?_; go_big_quiet_want; go_big_quiet_op; go_big_quiet_on; refine wpQuiet_nil ?_)
  (refine Go.LaxQ.walk_det rfl rfl rfl rfl rfl ?_; go_big_quiet_want; go_big_quiet_op; go_big_quiet_on; refine wpQuiet_nil ?_)
  refine Go.LaxQ.q_call rfl rfl rfl rfl (fun _ _ _ _ => trivial) ?_ (fun y K hI hG hK => by
      go_wp2_with fail
      refine fmt73_ret _ _ ?_
      rintro _ w' rfl hb
      have hh := Go.Proofs.YgcoaaGreat.NatW.hide (hK _ w' rfl trivial hb)
      clear hK
      go_wp2_with fail
      exact Eq.mp (by kernel_rfl) (Go.Proofs.YgcoaaGreat.NatW.unhide hh))
  rintro v9 rfl
  ((try dsimp only); go_big_quiet_want; go_big_quiet_op; go_big_quiet_on; refine wpQuiet_nil ?_)
  (refine Go.LaxQ.walk_det rfl rfl rfl rfl rfl ?_; go_big_quiet_want; go_big_quiet_op; go_big_quiet_on; refine wpQuiet_nil ?_)
  (refine Go.LaxQ.walk_det rfl rfl rfl rfl rfl ?_; go_big_quiet_want; go_big_quiet_op; go_big_quiet_on; refine wpQuiet_nil ?_)
  (refine Go.LaxQ.walk_det rfl rfl rfl rfl rfl ?_; go_big_quiet_want; go_big_quiet_op; go_big_quiet_on; refine wpQuiet_nil ?_)
  refine Go.LaxQ.q_call rfl rfl rfl rfl (fun _ _ _ _ => trivial) ?_ (fun y K hI hG hK => by
      go_wp2_with fail
      refine fmt74_ret _ _ ?_
      rintro _ w' rfl hb
      have hh := Go.Proofs.YgcoaaGreat.NatW.hide (hK _ w' rfl trivial hb)
      clear hK
      go_wp2_with fail
      exact Eq.mp (by kernel_rfl) (Go.Proofs.YgcoaaGreat.NatW.unhide hh))
  rintro v9 rfl
  ((try dsimp only); go_big_quiet_want; go_big_quiet_op; go_big_quiet_on; refine wpQuiet_nil ?_)
  (refine Go.LaxQ.walk_det rfl rfl rfl rfl rfl ?_; go_big_quiet_want; go_big_quiet_op; go_big_quiet_on; refine wpQuiet_nil ?_)
  refine Go.LaxQ.q_call rfl rfl rfl rfl (fun _ _ _ _ => trivial) ?_ (fun y K hI hG hK => by
      have HK := hide hK
      clear hK
      go_wp2_with fail
      exact unhide HK _ _ rfl trivial (Below.refl _ _))
  rintro v9 rfl
  ((try dsimp only); go_big_quiet_want; go_big_quiet_op; go_big_quiet_on; refine wpQuiet_nil ?_)
  refine Go.LaxQ.q_call rfl rfl rfl rfl (fun _ _ _ _ => trivial) ?_ (fun y K hI hG hK => by
      have HK := hide hK
      clear hK
      go_wp2_with fail
      exact unhide HK _ _ rfl trivial (Below.refl _ _))
  rintro v9 rfl
  ((try dsimp only); go_big_quiet_want; go_big_quiet_op; go_big_quiet_on; refine wpQuiet_nil ?_)
  (refine Go.LaxQ.walk_det rfl rfl rfl rfl rfl ?_; go_big_quiet_want; go_big_quiet_op; go_big_quiet_on; refine wpQuiet_nil ?_)
  (refine Go.LaxQ.walk_det rfl rfl rfl rfl rfl ?_; go_big_quiet_want; go_big_quiet_op; go_big_quiet_on; refine wpQuiet_nil ?_)
  (refine Go.LaxQ.walk_det rfl rfl rfl rfl rfl ?_; go_big_quiet_want; go_big_quiet_op; go_big_quiet_on; refine wpQuiet_nil ?_)
  (refine Go.LaxQ.walk_det rfl rfl rfl rfl rfl ?_; go_big_quiet_want; go_big_quiet_op; go_big_quiet_on; refine wpQuiet_nil ?_)
  (refine Go.LaxQ.walk_skip_mv rfl rfl ?_; (try dsimp only); go_big_quiet_want; go_big_quiet_op; go_big_quiet_on; refine wpQuiet_nil ?_)
  (refine Go.LaxQ.walk_skip_mv rfl rfl ?_; (try dsimp only); go_big_quiet_want; go_big_quiet_op; go_big_quiet_on; refine wpQuiet_nil ?_)
  refine Go.LaxQ.q_call rfl rfl rfl rfl (fun _ _ _ _ => trivial) ?_ (fun y K hI hG hK => by
      have HK := hide hK
      clear hK
      go_wp2_with fail
      exact unhide HK _ _ rfl trivial (Below.refl _ _))
  rintro v9 rfl
  ((try dsimp only); go_big_quiet_want; go_big_quiet_op; go_big_quiet_on; refine wpQuiet_nil ?_)
  refine Go.LaxQ.q_call rfl rfl rfl rfl (fun _ _ _ _ => trivial) ?_ (fun y K hI hG hK => by
      have HK := hide hK
      clear hK
      go_wp2_with fail
      exact unhide HK _ _ rfl trivial (Below.refl _ _))
  rintro v9 rfl
  ((try dsimp only); go_big_quiet_want; go_big_quiet_op; go_big_quiet_on; refine wpQuiet_nil ?_)
  refine Go.LaxQ.q_end ?_
  intro y hI hG
  clear hI hG
  go_wp2_with (first
    | ((with_reducible refine at_reg 2 ?_); (refine Go.Lax.region_reads _ (by kernel_rfl) (by kernel_rfl) ?_; (repeat (first | go_big_quiet_skip | (go_big_quiet_want; go_big_quiet_op; go_big_quiet_on))); refine wpQuiet_nil ?_); intro y2)
    | fail)
  refine Go.LaxQ.region_guarded _ 4 3 [] [(1, fun v => v = .agg #[.int .u8 11, .int .u8 52])] [] (fun _ => True) (by kernel_rfl) (by kernel_rfl) (by kernel_rfl) (by kernel_rfl) trivial (fun _ _ _ _ => trivial) (fun _ h => by cases h) (List.forall_mem_cons.2 ⟨⟨_, rfl⟩, fun _ h => by cases h⟩) ?_
  (refine Go.LaxQ.walk_det rfl rfl rfl rfl rfl ?_; go_big_quiet_want; go_big_quiet_op; go_big_quiet_on; refine wpQuiet_nil ?_)
  refine Go.LaxQ.q_call rfl rfl rfl rfl (fun _ _ _ _ => trivial) ?_ (fun y K hI hG hK => by
      go_wp2_with fail
      refine fmt74_ret _ _ ?_
      rintro _ w' rfl hb
      have hh := Go.Proofs.YgcoaaGreat.NatW.hide (hK _ w' rfl trivial hb)
      clear hK
      go_wp2_with fail
      exact Eq.mp (by kernel_rfl) (Go.Proofs.YgcoaaGreat.NatW.unhide hh))
  rintro v9 rfl
  ((try dsimp only); go_big_quiet_want; go_big_quiet_op; go_big_quiet_on; refine wpQuiet_nil ?_)
  (refine Go.LaxQ.walk_det rfl rfl rfl rfl rfl ?_; go_big_quiet_want; go_big_quiet_op; go_big_quiet_on; refine wpQuiet_nil ?_)
  (refine Go.LaxQ.walk_det rfl rfl rfl rfl rfl ?_; go_big_quiet_want; go_big_quiet_op; go_big_quiet_on; refine wpQuiet_nil ?_)
  refine Go.LaxQ.q_end ?_
  intro y3 hI hG
  clear hI hG
  simp only [wpList, Exit.then]
  rename_i K9 hK9
  apply hK9
  exact unhide HH y3 _ _ _ _ _ _ _ _ _ _ _ _ _ _ _ _ _ _ _ _ _ _ _ _ _ _ _ _ _ _ _ _ _ _ _ _ _ _ _ _ _ _ _ _ _ _ _ _ _ _

set_option maxHeartbeats 4000000 in
theorem na_head83_11_g (E M : Nat) (hE : E = 11) (hM : M = 52) (md kd kD kA kB imm : Int) (text : ByteArray) (di ai bi : Nat) (hdi : bits .and .u8 kD 7 = (di : Int)) (hdi8 : di < 8) (hai : bits .and .u8 kA 7 = (ai : Int)) (hai8 : ai < 8) (hbi : bits .and .u8 kB 7 = (bi : Int)) (hbi8 : bi < 8) (R : Nat → Int) (L : List Value) (tb mb : Nat) (w : World) (K : Ending → World → Prop) (h : MX mb R L w) (hmd : 4 < md) (wb : World) (x0 : Later wb) (hwb : (w.alloc (.cells #[.int .u8 E, .int .u8 M] 23)).alloc (.cells #[.int .u8 kd, .int .u8 kD, .int .u8 kA, .int .u8 kB, .int .u64 imm, .string text] 91) = x0.at_) (r0 : wb.heap[w.heap.size]? = some (.cells #[.int .u8 E, .int .u8 M] 23 (0, 0))) (r1 : wb.heap[w.heap.size + 1]? = some (.cells #[.int .u8 kd, .int .u8 kD, .int .u8 kA, .int .u8 kB, .int .u64 imm, .string text] 91 (0, 0))) (hB : ∀ x : Later wb, Below w.heap.size w x.at_) (Q : Exit → Act → World → Prop) (hQ : Q = bodyPost Oaag.prog Oaag.f83 K) (H : ∀ (y : Later wb) (u14 u15 u16 u17 u18 u19 u20 u21 u22 u23 u24 u25 u26 u27 u28 u29 u30 u31 u32 u33 u34 u35 u36 u37 u38 u39 u40 u41 u42 u43 u44 u45 u46 u47 u48 u49 u50 u51 u52 u53 u54 u55 u56 u57 u58 u59 u60 u61 u62 u63 : Value), Code.wp Oaag.prog (sR (sR (sR (sR (bodyOf Oaag.f83))))) Q { tmps := #[.pointer (some ⟨tb, 0, none⟩), fmt E M, .int .u8 md, .pointer (some ⟨mb, 0, none⟩), .agg #[.int .u8 kd, .int .u8 kD, .int .u8 kA, .int .u8 kB, .int .u64 imm, .string text], undef, .pointer (some ⟨w.heap.size, 0, none⟩), undef, undef, .pointer (some ⟨w.heap.size + 1, 0, none⟩), .pointer (some ⟨mb, di, none⟩), .int .u64 (R ai), .int .u64 (R bi), .bool true, u14, u15, u16, u17, u18, u19, u20, u21, u22, u23, u24, u25, u26, u27, u28, u29, u30, u31, u32, u33, u34, u35, u36, u37, u38, u39, u40, u41, u42, u43, u44, u45, u46, u47, u48, u49, u50, u51, u52, u53, u54, u55, u56, u57, u58, u59, u60, u61, u62, u63, undef, undef, undef, undef, undef, undef, undef, undef, undef, undef, undef, undef, undef, undef, undef, undef, undef, undef, undef, undef, undef, undef, undef, undef, undef, undef, undef, undef, undef, undef, undef, undef, undef, undef, undef, undef, undef, undef, undef, undef, undef, undef, undef, undef, undef, undef, undef, undef, undef, undef, undef, undef, undef, undef, undef, undef, undef, undef, undef, undef, undef, undef, undef, undef, undef, undef, undef, undef, undef, undef, undef, undef, undef, undef, undef, undef, undef, undef, undef, undef, undef, undef, undef, undef, undef, undef, undef, undef, undef, undef, undef, undef, undef, undef, undef, undef, undef, undef, undef, undef, undef, undef, undef, undef, undef, undef, undef, undef, undef, undef, undef, undef, undef, undef, undef, undef, undef, undef, undef, undef, undef, undef, undef, undef, undef, undef], defers := [] } y.at_) : Calls Oaag.prog 83 #[.pointer (some ⟨tb, 0, none⟩), fmt E M, .int .u8 md, .pointer (some ⟨mb, 0, none⟩), .agg #[.int .u8 kd, .int .u8 kD, .int .u8 kA, .int .u8 kB, .int .u64 imm, .string text]] w K := by
  subst hE hM
  rw [show ((11 : Nat) : Int) = 11 from rfl, show ((52 : Nat) : Int) = 52 from rfl] at hwb r0
  have hb0 : (md != 0) = true := by simp; omega
  have hb4 : decide (md ≤ 4) = false := by simp; omega
  have c00 : ∀ x : Later wb, _ = some (.int .u8 11 : Value) := Later.cell r0 0 _ rfl
  have c01 : ∀ x : Later wb, _ = some (.int .u8 52 : Value) := Later.cell r0 1 _ rfl
  have c10 : ∀ x : Later wb, _ = some (.int .u8 kd : Value) := Later.cell r1 0 _ rfl
  have c11 : ∀ x : Later wb, _ = some (.int .u8 kD : Value) := Later.cell r1 1 _ rfl
  have c12 : ∀ x : Later wb, _ = some (.int .u8 kA : Value) := Later.cell r1 2 _ rfl
  have c13 : ∀ x : Later wb, _ = some (.int .u8 kB : Value) := Later.cell r1 3 _ rfl
  have hne : Nonempty (Later wb) := ⟨x0⟩
  have ka : ∀ y : Later wb, y.at_.cell? ⟨mb, ai, none⟩ = some (.int .u64 (R ai)) := fun y => ((hB y).cell (p := ⟨mb, ai, none⟩) h.own.1).trans (h.reg ai hai8)
  have kb : ∀ y : Later wb, y.at_.cell? ⟨mb, bi, none⟩ = some (.int .u64 (R bi)) := fun y => ((hB y).cell (p := ⟨mb, bi, none⟩) h.own.1).trans (h.reg bi hbi8)
  dsimp only [sR, bodyOf, Oaag.f83, Option.getD] at H
  have HH := hide H
  clear h H
  subst hQ
  go_enter Oaag.func83, Oaag.ntmps83
  go_wp2_with fail
  refine Go.LaxQ.region_guarded _ 24 3 [] [(5, fun v => v = .bool false), (8, fun v => v = .agg #[.int .u8 8, .int .u8 23]), (12, fun v => v = .agg #[.int .u8 11, .int .u8 52]), (14, fun v => v = .bool false), (15, fun v => v = .bool false), (18, fun v => v = .bool true), (21, fun v => v = .bool false), (22, fun v => v = .bool false), (23, fun v => v = .bool false)] [] (fun _ => True) (by kernel_rfl) (by kernel_rfl) (by kernel_rfl) (by kernel_rfl) trivial (fun _ _ _ _ => trivial) (fun _ h => by cases h) (List.forall_mem_cons.2 ⟨⟨_, rfl⟩, List.forall_mem_cons.2 ⟨⟨_, rfl⟩, List.forall_mem_cons.2 ⟨⟨_, rfl⟩, List.forall_mem_cons.2 ⟨⟨_, rfl⟩, List.forall_mem_cons.2 ⟨⟨_, rfl⟩, List.forall_mem_cons.2 ⟨⟨_, rfl⟩, List.forall_mem_cons.2 ⟨⟨_, rfl⟩, List.forall_mem_cons.2 ⟨⟨_, rfl⟩, List.forall_mem_cons.2 ⟨⟨_, rfl⟩, fun _ h => by cases h⟩⟩⟩⟩⟩⟩⟩⟩⟩) ?_
  (refine Go.LaxQ.walk_det rfl rfl rfl rfl rfl ?_; go_big_quiet_want; go_big_quiet_op; go_big_quiet_on; refine wpQuiet_nil ?_)
  (refine Go.LaxQ.walk_det rfl rfl rfl rfl rfl ?_; go_big_quiet_want; go_big_quiet_op; go_big_quiet_on; refine wpQuiet_nil ?_)
  (refine Go.LaxQ.walk_det rfl rfl rfl rfl rfl ?_; go_big_quiet_want; go_big_quiet_op; go_big_quiet_on; refine wpQuiet_nil ?_)
  (refine Go.LaxQ.walk_det rfl rfl rfl rfl rfl ?_; go_big_quiet_want; go_big_quiet_op; go_big_quiet_on; refine wpQuiet_nil ?_)
  (refine Go.LaxQ.walk_det rfl rfl rfl rfl rfl ?_; go_big_quiet_want; go_big_quiet_op; go_big_quiet_on; refine wpQuiet_nil ?_)
  refine Go.LaxQ.q_call rfl rfl rfl rfl (fun _ _ _ _ => trivial) ?_ (fun y K hI hG hK => by
      have HK := hide hK
      clear hK
      go_wp2_with fail
      exact unhide HK _ _ rfl trivial (Below.refl _ _))
  rintro v9 rfl
  ((try dsimp only); go_big_quiet_want; go_big_quiet_op; go_big_quiet_on; refine wpQuiet_nil ?_)
  (refine Go.LaxQ.walk_det rfl rfl rfl rfl rfl ?_; go_big_quiet_want; go_big_quiet_op; go_big_quiet_on; refine wpQuiet_nil ?_)
  (refine Go.LaxQ.walk_det rfl rfl rfl rfl rfl ?_; go_big_quiet_want; go_big_quiet_op; go_big_quiet_on; refine wpQuiet_nil ?_)
  refine Go.LaxQ.q_call rfl rfl rfl rfl (fun _ _ _ _ => trivial) ?_ (fun y K hI hG hK => by
      go_wp2_with fail
      refine fmt73_ret _ _ ?_
      rintro _ w' rfl hb
      have hh := Go.Proofs.YgcoaaGreat.NatW.hide (hK _ w' rfl trivial hb)
      clear hK
      go_wp2_with fail
      exact Eq.mp (by kernel_rfl) (Go.Proofs.YgcoaaGreat.NatW.unhide hh))
  rintro v9 rfl
  ((try dsimp only); go_big_quiet_want; go_big_quiet_op; go_big_quiet_on; refine wpQuiet_nil ?_)
  (refine Go.LaxQ.walk_det rfl rfl rfl rfl rfl ?_; go_big_quiet_want; go_big_quiet_op; go_big_quiet_on; refine wpQuiet_nil ?_)
  (refine Go.LaxQ.walk_det rfl rfl rfl rfl rfl ?_; go_big_quiet_want; go_big_quiet_op; go_big_quiet_on; refine wpQuiet_nil ?_)
  (refine Go.LaxQ.walk_det rfl rfl rfl rfl rfl ?_; go_big_quiet_want; go_big_quiet_op; go_big_quiet_on; refine wpQuiet_nil ?_)
  refine Go.LaxQ.q_call rfl rfl rfl rfl (fun _ _ _ _ => trivial) ?_ (fun y K hI hG hK => by
      go_wp2_with fail
      refine fmt74_ret _ _ ?_
      rintro _ w' rfl hb
      have hh := Go.Proofs.YgcoaaGreat.NatW.hide (hK _ w' rfl trivial hb)
      clear hK
      go_wp2_with fail
      exact Eq.mp (by kernel_rfl) (Go.Proofs.YgcoaaGreat.NatW.unhide hh))
  rintro v9 rfl
  ((try dsimp only); go_big_quiet_want; go_big_quiet_op; go_big_quiet_on; refine wpQuiet_nil ?_)
  (refine Go.LaxQ.walk_det rfl rfl rfl rfl rfl ?_; go_big_quiet_want; go_big_quiet_op; go_big_quiet_on; refine wpQuiet_nil ?_)
  refine Go.LaxQ.q_call rfl rfl rfl rfl (fun _ _ _ _ => trivial) ?_ (fun y K hI hG hK => by
      have HK := hide hK
      clear hK
      go_wp2_with fail
      exact unhide HK _ _ rfl trivial (Below.refl _ _))
  rintro v9 rfl
  ((try dsimp only); go_big_quiet_want; go_big_quiet_op; go_big_quiet_on; refine wpQuiet_nil ?_)
  refine Go.LaxQ.q_call rfl rfl rfl rfl (fun _ _ _ _ => trivial) ?_ (fun y K hI hG hK => by
      have HK := hide hK
      clear hK
      go_wp2_with fail
      exact unhide HK _ _ rfl trivial (Below.refl _ _))
  rintro v9 rfl
  ((try dsimp only); go_big_quiet_want; go_big_quiet_op; go_big_quiet_on; refine wpQuiet_nil ?_)
  (refine Go.LaxQ.walk_det rfl rfl rfl rfl rfl ?_; go_big_quiet_want; go_big_quiet_op; go_big_quiet_on; refine wpQuiet_nil ?_)
  (refine Go.LaxQ.walk_det rfl rfl rfl rfl rfl ?_; go_big_quiet_want; go_big_quiet_op; go_big_quiet_on; refine wpQuiet_nil ?_)
  refine Go.LaxQ.q_call rfl rfl rfl rfl (fun _ _ _ _ => trivial) ?_ (fun y K hI hG hK => by
      have HK := hide hK
      clear hK
      go_wp2_with fail
      exact unhide HK _ _ rfl trivial (Below.refl _ _))
  rintro v9 rfl
  ((try dsimp only); go_big_quiet_want; go_big_quiet_op; go_big_quiet_on; refine wpQuiet_nil ?_)
  (refine Go.LaxQ.walk_det rfl rfl rfl rfl rfl ?_; go_big_quiet_want; go_big_quiet_op; go_big_quiet_on; refine wpQuiet_nil ?_)
  (refine Go.LaxQ.walk_det rfl rfl rfl rfl rfl ?_; go_big_quiet_want; go_big_quiet_op; go_big_quiet_on; refine wpQuiet_nil ?_)
  refine Go.LaxQ.q_call rfl rfl rfl rfl (fun _ _ _ _ => trivial) ?_ (fun y K hI hG hK => by
      have HK := hide hK
      clear hK
      go_wp2_with fail
      exact unhide HK _ _ rfl trivial (Below.refl _ _))
  rintro v9 rfl
  ((try dsimp only); go_big_quiet_want; go_big_quiet_op; go_big_quiet_on; refine wpQuiet_nil ?_)
  refine Go.LaxQ.q_call rfl rfl rfl rfl (fun _ _ _ _ => trivial) ?_ (fun y K hI hG hK => by
      have HK := hide hK
      clear hK
      go_wp2_with fail
      exact unhide HK _ _ rfl trivial (Below.refl _ _))
  rintro v9 rfl
  ((try dsimp only); go_big_quiet_want; go_big_quiet_op; go_big_quiet_on; refine wpQuiet_nil ?_)
  refine Go.LaxQ.q_call rfl rfl rfl rfl (fun _ _ _ _ => trivial) ?_ (fun y K hI hG hK => by
      have HK := hide hK
      clear hK
      go_wp2_with fail
      exact unhide HK _ _ rfl trivial (Below.refl _ _))
  rintro v9 rfl
  ((try dsimp only); go_big_quiet_want; go_big_quiet_op; go_big_quiet_on; refine wpQuiet_nil ?_)
  refine Go.LaxQ.q_end ?_
  intro y hI hG
  clear hI hG
  go_wp2_with (first
    | ((with_reducible refine at_reg 2 ?_); (refine Go.Lax.region_reads _ (by kernel_rfl) (by kernel_rfl) ?_; (repeat (first | go_big_quiet_skip | (go_big_quiet_want; go_big_quiet_op; go_big_quiet_on))); refine wpQuiet_nil ?_); intro y2)
    | fail)
  refine Go.LaxQ.region_guarded _ 4 3 [] [(1, fun v => v = .agg #[.int .u8 11, .int .u8 52])] [] (fun _ => True) (by kernel_rfl) (by kernel_rfl) (by kernel_rfl) (by kernel_rfl) trivial (fun _ _ _ _ => trivial) (fun _ h => by cases h) (List.forall_mem_cons.2 ⟨⟨_, rfl⟩, fun _ h => by cases h⟩) ?_
  (refine Go.LaxQ.walk_det rfl rfl rfl rfl rfl ?_; go_big_quiet_want; go_big_quiet_op; go_big_quiet_on; refine wpQuiet_nil ?_)
  refine Go.LaxQ.q_call rfl rfl rfl rfl (fun _ _ _ _ => trivial) ?_ (fun y K hI hG hK => by
      go_wp2_with fail
      refine fmt74_ret _ _ ?_
      rintro _ w' rfl hb
      have hh := Go.Proofs.YgcoaaGreat.NatW.hide (hK _ w' rfl trivial hb)
      clear hK
      go_wp2_with fail
      exact Eq.mp (by kernel_rfl) (Go.Proofs.YgcoaaGreat.NatW.unhide hh))
  rintro v9 rfl
  ((try dsimp only); go_big_quiet_want; go_big_quiet_op; go_big_quiet_on; refine wpQuiet_nil ?_)
  (refine Go.LaxQ.walk_det rfl rfl rfl rfl rfl ?_; go_big_quiet_want; go_big_quiet_op; go_big_quiet_on; refine wpQuiet_nil ?_)
  (refine Go.LaxQ.walk_det rfl rfl rfl rfl rfl ?_; go_big_quiet_want; go_big_quiet_op; go_big_quiet_on; refine wpQuiet_nil ?_)
  refine Go.LaxQ.q_end ?_
  intro y3 hI hG
  clear hI hG
  simp only [wpList, Exit.then]
  rename_i K9 hK9
  apply hK9
  exact unhide HH y3 _ _ _ _ _ _ _ _ _ _ _ _ _ _ _ _ _ _ _ _ _ _ _ _ _ _ _ _ _ _ _ _ _ _ _ _ _ _ _ _ _ _ _ _ _ _ _ _ _ _

set_option maxHeartbeats 4000000 in
theorem na_head83_8_z (E M : Nat) (hE : E = 8) (hM : M = 23) (md kd kD kA kB imm : Int) (text : ByteArray) (di ai bi : Nat) (hdi : bits .and .u8 kD 7 = (di : Int)) (hdi8 : di < 8) (hai : bits .and .u8 kA 7 = (ai : Int)) (hai8 : ai < 8) (hbi : bits .and .u8 kB 7 = (bi : Int)) (hbi8 : bi < 8) (R : Nat → Int) (L : List Value) (tb mb : Nat) (w : World) (K : Ending → World → Prop) (h : MX mb R L w) (hmd : md = 0) (wb : World) (x0 : Later wb) (hwb : (w.alloc (.cells #[.int .u8 E, .int .u8 M] 23)).alloc (.cells #[.int .u8 kd, .int .u8 kD, .int .u8 kA, .int .u8 kB, .int .u64 imm, .string text] 91) = x0.at_) (r0 : wb.heap[w.heap.size]? = some (.cells #[.int .u8 E, .int .u8 M] 23 (0, 0))) (r1 : wb.heap[w.heap.size + 1]? = some (.cells #[.int .u8 kd, .int .u8 kD, .int .u8 kA, .int .u8 kB, .int .u64 imm, .string text] 91 (0, 0))) (hB : ∀ x : Later wb, Below w.heap.size w x.at_) (Q : Exit → Act → World → Prop) (hQ : Q = bodyPost Oaag.prog Oaag.f83 K) (H : ∀ (y : Later wb) (u14 u15 u16 u17 u18 u19 u20 u21 u22 u23 u24 u25 u26 u27 u28 u29 u30 u31 u32 u33 u34 u35 u36 u37 u38 u39 u40 u41 u42 u43 u44 u45 u46 u47 u48 u49 u50 u51 u52 u53 u54 u55 u56 u57 u58 u59 u60 u61 u62 u63 : Value), Code.wp Oaag.prog (sR (sR (sR (sR (bodyOf Oaag.f83))))) Q { tmps := #[.pointer (some ⟨tb, 0, none⟩), fmt E M, .int .u8 md, .pointer (some ⟨mb, 0, none⟩), .agg #[.int .u8 kd, .int .u8 kD, .int .u8 kA, .int .u8 kB, .int .u64 imm, .string text], undef, .pointer (some ⟨w.heap.size, 0, none⟩), undef, undef, .pointer (some ⟨w.heap.size + 1, 0, none⟩), .pointer (some ⟨mb, di, none⟩), .int .u64 (R ai), .int .u64 (R bi), .bool false, u14, u15, u16, u17, u18, u19, u20, u21, u22, u23, u24, u25, u26, u27, u28, u29, u30, u31, u32, u33, u34, u35, u36, u37, u38, u39, u40, u41, u42, u43, u44, u45, u46, u47, u48, u49, u50, u51, u52, u53, u54, u55, u56, u57, u58, u59, u60, u61, u62, u63, undef, undef, undef, undef, undef, undef, undef, undef, undef, undef, undef, undef, undef, undef, undef, undef, undef, undef, undef, undef, undef, undef, undef, undef, undef, undef, undef, undef, undef, undef, undef, undef, undef, undef, undef, undef, undef, undef, undef, undef, undef, undef, undef, undef, undef, undef, undef, undef, undef, undef, undef, undef, undef, undef, undef, undef, undef, undef, undef, undef, undef, undef, undef, undef, undef, undef, undef, undef, undef, undef, undef, undef, undef, undef, undef, undef, undef, undef, undef, undef, undef, undef, undef, undef, undef, undef, undef, undef, undef, undef, undef, undef, undef, undef, undef, undef, undef, undef, undef, undef, undef, undef, undef, undef, undef, undef, undef, undef, undef, undef, undef, undef, undef, undef, undef, undef, undef, undef, undef, undef, undef, undef, undef, undef, undef, undef], defers := [] } y.at_) : Calls Oaag.prog 83 #[.pointer (some ⟨tb, 0, none⟩), fmt E M, .int .u8 md, .pointer (some ⟨mb, 0, none⟩), .agg #[.int .u8 kd, .int .u8 kD, .int .u8 kA, .int .u8 kB, .int .u64 imm, .string text]] w K := by
  subst hE hM
  rw [show ((8 : Nat) : Int) = 8 from rfl, show ((23 : Nat) : Int) = 23 from rfl] at hwb r0
  subst hmd
  have c00 : ∀ x : Later wb, _ = some (.int .u8 8 : Value) := Later.cell r0 0 _ rfl
  have c01 : ∀ x : Later wb, _ = some (.int .u8 23 : Value) := Later.cell r0 1 _ rfl
  have c10 : ∀ x : Later wb, _ = some (.int .u8 kd : Value) := Later.cell r1 0 _ rfl
  have c11 : ∀ x : Later wb, _ = some (.int .u8 kD : Value) := Later.cell r1 1 _ rfl
  have c12 : ∀ x : Later wb, _ = some (.int .u8 kA : Value) := Later.cell r1 2 _ rfl
  have c13 : ∀ x : Later wb, _ = some (.int .u8 kB : Value) := Later.cell r1 3 _ rfl
  have hne : Nonempty (Later wb) := ⟨x0⟩
  have ka : ∀ y : Later wb, y.at_.cell? ⟨mb, ai, none⟩ = some (.int .u64 (R ai)) := fun y => ((hB y).cell (p := ⟨mb, ai, none⟩) h.own.1).trans (h.reg ai hai8)
  have kb : ∀ y : Later wb, y.at_.cell? ⟨mb, bi, none⟩ = some (.int .u64 (R bi)) := fun y => ((hB y).cell (p := ⟨mb, bi, none⟩) h.own.1).trans (h.reg bi hbi8)
  dsimp only [sR, bodyOf, Oaag.f83, Option.getD] at H
  have HH := hide H
  clear h H
  subst hQ
  go_enter Oaag.func83, Oaag.ntmps83
  go_wp2_with fail
  refine Go.LaxQ.region_guarded _ 24 3 [11, 12, 13, 20, 21] [(5, fun v => v = .bool false), (8, fun v => v = .agg #[.int .u8 8, .int .u8 23]), (14, fun v => v = .bool false), (15, fun v => v = .bool false), (22, fun v => v = .bool false), (23, fun v => v = .bool false)] [] (fun _ => True) (by kernel_rfl) (by kernel_rfl) (by kernel_rfl) (by kernel_rfl) trivial (fun _ _ _ _ => trivial) (fun _ h => by cases h) (List.forall_mem_cons.2 ⟨⟨_, rfl⟩, List.forall_mem_cons.2 ⟨⟨_, rfl⟩, List.forall_mem_cons.2 ⟨⟨_, rfl⟩, List.forall_mem_cons.2 ⟨⟨_, rfl⟩, List.forall_mem_cons.2 ⟨⟨_, rfl⟩, List.forall_mem_cons.2 ⟨⟨_, rfl⟩, fun _ h => by cases h⟩⟩⟩⟩⟩⟩) ?_
  (refine Go.LaxQ.walk_det rfl rfl rfl rfl rfl ?_; go_big_quiet_want; go_big_quiet_op; go_big_quiet_on; refine wpQuiet_nil ?_)
  (refine Go.LaxQ.walk_det rfl rfl rfl rfl rfl ?_; go_big_quiet_want; go_big_quiet_op; go_big_quiet_on; refine wpQuiet_nil ?_)
  (refine Go.LaxQ.walk_det rfl rfl rfl rfl rfl ?_; go_big_quiet_want; go_big_quiet_op; go_big_quiet_on; refine wpQuiet_nil ?_)
  (refine Go.LaxQ.walk_det rfl rfl rfl rfl rfl ?_; go_big_quiet_want; go_big_quiet_op; go_big_quiet_on; refine wpQuiet_nil ?_)
  (refine Go.LaxQ.walk_det rfl rfl rfl rfl rfl ?_; go_big_quiet_want; go_big_quiet_op; go_big_quiet_on; refine wpQuiet_nil ?_)
  refine Go.LaxQ.q_call rfl rfl rfl rfl (fun _ _ _ _ => trivial) ?_ (fun y K hI hG hK => by
      have HK := hide hK
      clear hK
      go_wp2_with fail
      exact unhide HK _ _ rfl trivial (Below.refl _ _))
  rintro v9 rfl
  ((try dsimp only); go_big_quiet_want; go_big_quiet_op; go_big_quiet_on; refine wpQuiet_nil ?_)
  (refine Go.LaxQ.walk_det rfl rfl rfl rfl rfl ?_; go_big_quiet_want; go_big_quiet_op; go_big_quiet_on; refine wpQuiet_nil ?_)
  (refine Go.LaxQ.walk_det rfl rfl rfl rfl rfl ?_; go_big_quiet_want; go_big_quiet_op; go_big_quiet_on; refine wpQuiet_nil ?_)
  refine Go.LaxQ.q_call rfl rfl rfl rfl (fun _ _ _ _ => trivial) ?_ (fun y K hI hG hK => by
      go_wp2_with fail
      refine fmt73_ret _ _ ?_
      rintro _ w' rfl hb
      have hh := Go.Proofs.YgcoaaGreat.NatW.hide (hK _ w' rfl trivial hb)
      clear hK
      go_wp2_with fail
      exact Eq.mp (by kernel_rfl) (Go.Proofs.YgcoaaGreat.NatW.unhide hh))
  rintro v9 rfl
  ((try dsimp only); go_big_quiet_want; go_big_quiet_op; go_big_quiet_on; refine wpQuiet_nil ?_)
  (refine Go.LaxQ.walk_det rfl rfl rfl rfl rfl ?_; go_big_quiet_want; go_big_quiet_op; go_big_quiet_on; refine wpQuiet_nil ?_)
  (refine Go.LaxQ.walk_det rfl rfl rfl rfl rfl ?_; go_big_quiet_want; go_big_quiet_op; go_big_quiet_on; refine wpQuiet_nil ?_)
  (refine Go.LaxQ.walk_skip_mv rfl rfl ?_; (try dsimp only); go_big_quiet_want; go_big_quiet_op; go_big_quiet_on; refine wpQuiet_nil ?_)
  (refine Go.LaxQ.walk_skip_mv rfl rfl ?_; (try dsimp only); go_big_quiet_want; go_big_quiet_op; go_big_quiet_on; refine wpQuiet_nil ?_)
  (refine Go.LaxQ.walk_skip_mv rfl rfl ?_; (try dsimp only); go_big_quiet_want; go_big_quiet_op; go_big_quiet_on; refine wpQuiet_nil ?_)
  refine Go.LaxQ.q_call rfl rfl rfl rfl (fun _ _ _ _ => trivial) ?_ (fun y K hI hG hK => by
      have HK := hide hK
      clear hK
      go_wp2_with fail
      exact unhide HK _ _ rfl trivial (Below.refl _ _))
  rintro v9 rfl
  ((try dsimp only); go_big_quiet_want; go_big_quiet_op; go_big_quiet_on; refine wpQuiet_nil ?_)
  refine Go.LaxQ.q_call rfl rfl rfl rfl (fun _ _ _ _ => trivial) ?_ (fun y K hI hG hK => by
      have HK := hide hK
      clear hK
      go_wp2_with fail
      exact unhide HK _ _ rfl trivial (Below.refl _ _))
  rintro v9 rfl
  ((try dsimp only); go_big_quiet_want; go_big_quiet_op; go_big_quiet_on; refine wpQuiet_nil ?_)
  (refine Go.LaxQ.walk_det rfl rfl rfl rfl rfl ?_; go_big_quiet_want; go_big_quiet_op; go_big_quiet_on; refine wpQuiet_nil ?_)
  (refine Go.LaxQ.walk_det rfl rfl rfl rfl rfl ?_; go_big_quiet_want; go_big_quiet_op; go_big_quiet_on; refine wpQuiet_nil ?_)
  (refine Go.LaxQ.walk_det rfl rfl rfl rfl rfl ?_; go_big_quiet_want; go_big_quiet_op; go_big_quiet_on; refine wpQuiet_nil ?_)
  (refine Go.LaxQ.walk_det rfl rfl rfl rfl rfl ?_; go_big_quiet_want; go_big_quiet_op; go_big_quiet_on; refine wpQuiet_nil ?_)
  (refine Go.LaxQ.walk_skip_mv rfl rfl ?_; (try dsimp only); go_big_quiet_want; go_big_quiet_op; go_big_quiet_on; refine wpQuiet_nil ?_)
  (refine Go.LaxQ.walk_skip_mv rfl rfl ?_; (try dsimp only); go_big_quiet_want; go_big_quiet_op; go_big_quiet_on; refine wpQuiet_nil ?_)
  refine Go.LaxQ.q_call rfl rfl rfl rfl (fun _ _ _ _ => trivial) ?_ (fun y K hI hG hK => by
      have HK := hide hK
      clear hK
      go_wp2_with fail
      exact unhide HK _ _ rfl trivial (Below.refl _ _))
  rintro v9 rfl
  ((try dsimp only); go_big_quiet_want; go_big_quiet_op; go_big_quiet_on; refine wpQuiet_nil ?_)
  refine Go.LaxQ.q_call rfl rfl rfl rfl (fun _ _ _ _ => trivial) ?_ (fun y K hI hG hK => by
      have HK := hide hK
      clear hK
      go_wp2_with fail
      exact unhide HK _ _ rfl trivial (Below.refl _ _))
  rintro v9 rfl
  ((try dsimp only); go_big_quiet_want; go_big_quiet_op; go_big_quiet_on; refine wpQuiet_nil ?_)
  refine Go.LaxQ.q_end ?_
  intro y hI hG
  clear hI hG
  go_wp2_with (first
    | ((with_reducible refine at_reg 2 ?_); (refine Go.Lax.region_reads _ (by kernel_rfl) (by kernel_rfl) ?_; (repeat (first | go_big_quiet_skip | (go_big_quiet_want; go_big_quiet_op; go_big_quiet_on))); refine wpQuiet_nil ?_); intro y2)
    | fail)
  refine Go.LaxQ.region_guarded _ 4 3 [] [(1, fun v => v = .agg #[.int .u8 11, .int .u8 52])] [] (fun _ => True) (by kernel_rfl) (by kernel_rfl) (by kernel_rfl) (by kernel_rfl) trivial (fun _ _ _ _ => trivial) (fun _ h => by cases h) (List.forall_mem_cons.2 ⟨⟨_, rfl⟩, fun _ h => by cases h⟩) ?_
  (refine Go.LaxQ.walk_det rfl rfl rfl rfl rfl ?_; go_big_quiet_want; go_big_quiet_op; go_big_quiet_on; refine wpQuiet_nil ?_)
  refine Go.LaxQ.q_call rfl rfl rfl rfl (fun _ _ _ _ => trivial) ?_ (fun y K hI hG hK => by
      go_wp2_with fail
      refine fmt74_ret _ _ ?_
      rintro _ w' rfl hb
      have hh := Go.Proofs.YgcoaaGreat.NatW.hide (hK _ w' rfl trivial hb)
      clear hK
      go_wp2_with fail
      exact Eq.mp (by kernel_rfl) (Go.Proofs.YgcoaaGreat.NatW.unhide hh))
  rintro v9 rfl
  ((try dsimp only); go_big_quiet_want; go_big_quiet_op; go_big_quiet_on; refine wpQuiet_nil ?_)
  (refine Go.LaxQ.walk_det rfl rfl rfl rfl rfl ?_; go_big_quiet_want; go_big_quiet_op; go_big_quiet_on; refine wpQuiet_nil ?_)
  (refine Go.LaxQ.walk_det rfl rfl rfl rfl rfl ?_; go_big_quiet_want; go_big_quiet_op; go_big_quiet_on; refine wpQuiet_nil ?_)
  refine Go.LaxQ.q_end ?_
  intro y3 hI hG
  clear hI hG
  simp only [wpList, Exit.then]
  rename_i K9 hK9
  apply hK9
  exact unhide HH y3 _ _ _ _ _ _ _ _ _ _ _ _ _ _ _ _ _ _ _ _ _ _ _ _ _ _ _ _ _ _ _ _ _ _ _ _ _ _ _ _ _ _ _ _ _ _ _ _ _ _

set_option maxHeartbeats 4000000 in
theorem na_head83_8_g (E M : Nat) (hE : E = 8) (hM : M = 23) (md kd kD kA kB imm : Int) (text : ByteArray) (di ai bi : Nat) (hdi : bits .and .u8 kD 7 = (di : Int)) (hdi8 : di < 8) (hai : bits .and .u8 kA 7 = (ai : Int)) (hai8 : ai < 8) (hbi : bits .and .u8 kB 7 = (bi : Int)) (hbi8 : bi < 8) (R : Nat → Int) (L : List Value) (tb mb : Nat) (w : World) (K : Ending → World → Prop) (h : MX mb R L w) (hmd : 4 < md) (wb : World) (x0 : Later wb) (hwb : (w.alloc (.cells #[.int .u8 E, .int .u8 M] 23)).alloc (.cells #[.int .u8 kd, .int .u8 kD, .int .u8 kA, .int .u8 kB, .int .u64 imm, .string text] 91) = x0.at_) (r0 : wb.heap[w.heap.size]? = some (.cells #[.int .u8 E, .int .u8 M] 23 (0, 0))) (r1 : wb.heap[w.heap.size + 1]? = some (.cells #[.int .u8 kd, .int .u8 kD, .int .u8 kA, .int .u8 kB, .int .u64 imm, .string text] 91 (0, 0))) (hB : ∀ x : Later wb, Below w.heap.size w x.at_) (Q : Exit → Act → World → Prop) (hQ : Q = bodyPost Oaag.prog Oaag.f83 K) (H : ∀ (y : Later wb) (u14 u15 u16 u17 u18 u19 u20 u21 u22 u23 u24 u25 u26 u27 u28 u29 u30 u31 u32 u33 u34 u35 u36 u37 u38 u39 u40 u41 u42 u43 u44 u45 u46 u47 u48 u49 u50 u51 u52 u53 u54 u55 u56 u57 u58 u59 u60 u61 u62 u63 : Value), Code.wp Oaag.prog (sR (sR (sR (sR (bodyOf Oaag.f83))))) Q { tmps := #[.pointer (some ⟨tb, 0, none⟩), fmt E M, .int .u8 md, .pointer (some ⟨mb, 0, none⟩), .agg #[.int .u8 kd, .int .u8 kD, .int .u8 kA, .int .u8 kB, .int .u64 imm, .string text], undef, .pointer (some ⟨w.heap.size, 0, none⟩), undef, undef, .pointer (some ⟨w.heap.size + 1, 0, none⟩), .pointer (some ⟨mb, di, none⟩), .int .u64 (R ai), .int .u64 (R bi), .bool false, u14, u15, u16, u17, u18, u19, u20, u21, u22, u23, u24, u25, u26, u27, u28, u29, u30, u31, u32, u33, u34, u35, u36, u37, u38, u39, u40, u41, u42, u43, u44, u45, u46, u47, u48, u49, u50, u51, u52, u53, u54, u55, u56, u57, u58, u59, u60, u61, u62, u63, undef, undef, undef, undef, undef, undef, undef, undef, undef, undef, undef, undef, undef, undef, undef, undef, undef, undef, undef, undef, undef, undef, undef, undef, undef, undef, undef, undef, undef, undef, undef, undef, undef, undef, undef, undef, undef, undef, undef, undef, undef, undef, undef, undef, undef, undef, undef, undef, undef, undef, undef, undef, undef, undef, undef, undef, undef, undef, undef, undef, undef, undef, undef, undef, undef, undef, undef, undef, undef, undef, undef, undef, undef, undef, undef, undef, undef, undef, undef, undef, undef, undef, undef, undef, undef, undef, undef, undef, undef, undef, undef, undef, undef, undef, undef, undef, undef, undef, undef, undef, undef, undef, undef, undef, undef, undef, undef, undef, undef, undef, undef, undef, undef, undef, undef, undef, undef, undef, undef, undef, undef, undef, undef, undef, undef, undef], defers := [] } y.at_) : Calls Oaag.prog 83 #[.pointer (some ⟨tb, 0, none⟩), fmt E M, .int .u8 md, .pointer (some ⟨mb, 0, none⟩), .agg #[.int .u8 kd, .int .u8 kD, .int .u8 kA, .int .u8 kB, .int .u64 imm, .string text]] w K := by
  subst hE hM
  rw [show ((8 : Nat) : Int) = 8 from rfl, show ((23 : Nat) : Int) = 23 from rfl] at hwb r0
  have hb0 : (md != 0) = true := by simp; omega
  have hb4 : decide (md ≤ 4) = false := by simp; omega
  have c00 : ∀ x : Later wb, _ = some (.int .u8 8 : Value) := Later.cell r0 0 _ rfl
  have c01 : ∀ x : Later wb, _ = some (.int .u8 23 : Value) := Later.cell r0 1 _ rfl
  have c10 : ∀ x : Later wb, _ = some (.int .u8 kd : Value) := Later.cell r1 0 _ rfl
  have c11 : ∀ x : Later wb, _ = some (.int .u8 kD : Value) := Later.cell r1 1 _ rfl
  have c12 : ∀ x : Later wb, _ = some (.int .u8 kA : Value) := Later.cell r1 2 _ rfl
  have c13 : ∀ x : Later wb, _ = some (.int .u8 kB : Value) := Later.cell r1 3 _ rfl
  have hne : Nonempty (Later wb) := ⟨x0⟩
  have ka : ∀ y : Later wb, y.at_.cell? ⟨mb, ai, none⟩ = some (.int .u64 (R ai)) := fun y => ((hB y).cell (p := ⟨mb, ai, none⟩) h.own.1).trans (h.reg ai hai8)
  have kb : ∀ y : Later wb, y.at_.cell? ⟨mb, bi, none⟩ = some (.int .u64 (R bi)) := fun y => ((hB y).cell (p := ⟨mb, bi, none⟩) h.own.1).trans (h.reg bi hbi8)
  dsimp only [sR, bodyOf, Oaag.f83, Option.getD] at H
  have HH := hide H
  clear h H
  subst hQ
  go_enter Oaag.func83, Oaag.ntmps83
  go_wp2_with fail
  refine Go.LaxQ.region_guarded _ 24 3 [11, 12, 13] [(5, fun v => v = .bool false), (8, fun v => v = .agg #[.int .u8 8, .int .u8 23]), (14, fun v => v = .bool false), (15, fun v => v = .bool false), (18, fun v => v = .bool true), (21, fun v => v = .bool false), (22, fun v => v = .bool false), (23, fun v => v = .bool false)] [] (fun _ => True) (by kernel_rfl) (by kernel_rfl) (by kernel_rfl) (by kernel_rfl) trivial (fun _ _ _ _ => trivial) (fun _ h => by cases h) (List.forall_mem_cons.2 ⟨⟨_, rfl⟩, List.forall_mem_cons.2 ⟨⟨_, rfl⟩, List.forall_mem_cons.2 ⟨⟨_, rfl⟩, List.forall_mem_cons.2 ⟨⟨_, rfl⟩, List.forall_mem_cons.2 ⟨⟨_, rfl⟩, List.forall_mem_cons.2 ⟨⟨_, rfl⟩, List.forall_mem_cons.2 ⟨⟨_, rfl⟩, List.forall_mem_cons.2 ⟨⟨_, rfl⟩, fun _ h => by cases h⟩⟩⟩⟩⟩⟩⟩⟩) ?_
  (refine Go.LaxQ.walk_det rfl rfl rfl rfl rfl ?_; go_big_quiet_want; go_big_quiet_op; go_big_quiet_on; refine wpQuiet_nil ?_)
  (refine Go.LaxQ.walk_det rfl rfl rfl rfl rfl ?_; go_big_quiet_want; go_big_quiet_op; go_big_quiet_on; refine wpQuiet_nil ?_)
  (refine Go.LaxQ.walk_det rfl rfl rfl rfl rfl ?_; go_big_quiet_want; go_big_quiet_op; go_big_quiet_on; refine wpQuiet_nil ?_)
  (refine Go.LaxQ.walk_det rfl rfl rfl rfl rfl ?_; go_big_quiet_want; go_big_quiet_op; go_big_quiet_on; refine wpQuiet_nil ?_)
  (refine Go.LaxQ.walk_det rfl rfl rfl rfl rfl ?_; go_big_quiet_want; go_big_quiet_op; go_big_quiet_on; refine wpQuiet_nil ?_)
  refine Go.LaxQ.q_call rfl rfl rfl rfl (fun _ _ _ _ => trivial) ?_ (fun y K hI hG hK => by
      have HK := hide hK
      clear hK
      go_wp2_with fail
      exact unhide HK _ _ rfl trivial (Below.refl _ _))
  rintro v9 rfl
  ((try dsimp only); go_big_quiet_want; go_big_quiet_op; go_big_quiet_on; refine wpQuiet_nil ?_)
  (refine Go.LaxQ.walk_det rfl rfl rfl rfl rfl ?_; go_big_quiet_want; go_big_quiet_op; go_big_quiet_on; refine wpQuiet_nil ?_)
  (refine Go.LaxQ.walk_det rfl rfl rfl rfl rfl ?_; go_big_quiet_want; go_big_quiet_op; go_big_quiet_on; refine wpQuiet_nil ?_)
  refine Go.LaxQ.q_call rfl rfl rfl rfl (fun _ _ _ _ => trivial) ?_ (fun y K hI hG hK => by
      go_wp2_with fail
      refine fmt73_ret _ _ ?_
      rintro _ w' rfl hb
      have hh := Go.Proofs.YgcoaaGreat.NatW.hide (hK _ w' rfl trivial hb)
      clear hK
      go_wp2_with fail
      exact Eq.mp (by kernel_rfl) (Go.Proofs.YgcoaaGreat.NatW.unhide hh))
  rintro v9 rfl
  ((try dsimp only); go_big_quiet_want; go_big_quiet_op; go_big_quiet_on; refine wpQuiet_nil ?_)
  (refine Go.LaxQ.walk_det rfl rfl rfl rfl rfl ?_; go_big_quiet_want; go_big_quiet_op; go_big_quiet_on; refine wpQuiet_nil ?_)
  (refine Go.LaxQ.walk_det rfl rfl rfl rfl rfl ?_; go_big_quiet_want; go_big_quiet_op; go_big_quiet_on; refine wpQuiet_nil ?_)
  (refine Go.LaxQ.walk_skip_mv rfl rfl ?_; (try dsimp only); go_big_quiet_want; go_big_quiet_op; go_big_quiet_on; refine wpQuiet_nil ?_)
  (refine Go.LaxQ.walk_skip_mv rfl rfl ?_; (try dsimp only); go_big_quiet_want; go_big_quiet_op; go_big_quiet_on; refine wpQuiet_nil ?_)
  (refine Go.LaxQ.walk_skip_mv rfl rfl ?_; (try dsimp only); go_big_quiet_want; go_big_quiet_op; go_big_quiet_on; refine wpQuiet_nil ?_)
  refine Go.LaxQ.q_call rfl rfl rfl rfl (fun _ _ _ _ => trivial) ?_ (fun y K hI hG hK => by
      have HK := hide hK
      clear hK
      go_wp2_with fail
      exact unhide HK _ _ rfl trivial (Below.refl _ _))
  rintro v9 rfl
  ((try dsimp only); go_big_quiet_want; go_big_quiet_op; go_big_quiet_on; refine wpQuiet_nil ?_)
  refine Go.LaxQ.q_call rfl rfl rfl rfl (fun _ _ _ _ => trivial) ?_ (fun y K hI hG hK => by
      have HK := hide hK
      clear hK
      go_wp2_with fail
      exact unhide HK _ _ rfl trivial (Below.refl _ _))
  rintro v9 rfl
  ((try dsimp only); go_big_quiet_want; go_big_quiet_op; go_big_quiet_on; refine wpQuiet_nil ?_)
  (refine Go.LaxQ.walk_det rfl rfl rfl rfl rfl ?_; go_big_quiet_want; go_big_quiet_op; go_big_quiet_on; refine wpQuiet_nil ?_)
  (refine Go.LaxQ.walk_det rfl rfl rfl rfl rfl ?_; go_big_quiet_want; go_big_quiet_op; go_big_quiet_on; refine wpQuiet_nil ?_)
  refine Go.LaxQ.q_call rfl rfl rfl rfl (fun _ _ _ _ => trivial) ?_ (fun y K hI hG hK => by
      have HK := hide hK
      clear hK
      go_wp2_with fail
      exact unhide HK _ _ rfl trivial (Below.refl _ _))
  rintro v9 rfl
  ((try dsimp only); go_big_quiet_want; go_big_quiet_op; go_big_quiet_on; refine wpQuiet_nil ?_)
  (refine Go.LaxQ.walk_det rfl rfl rfl rfl rfl ?_; go_big_quiet_want; go_big_quiet_op; go_big_quiet_on; refine wpQuiet_nil ?_)
  (refine Go.LaxQ.walk_det rfl rfl rfl rfl rfl ?_; go_big_quiet_want; go_big_quiet_op; go_big_quiet_on; refine wpQuiet_nil ?_)
  refine Go.LaxQ.q_call rfl rfl rfl rfl (fun _ _ _ _ => trivial) ?_ (fun y K hI hG hK => by
      have HK := hide hK
      clear hK
      go_wp2_with fail
      exact unhide HK _ _ rfl trivial (Below.refl _ _))
  rintro v9 rfl
  ((try dsimp only); go_big_quiet_want; go_big_quiet_op; go_big_quiet_on; refine wpQuiet_nil ?_)
  refine Go.LaxQ.q_call rfl rfl rfl rfl (fun _ _ _ _ => trivial) ?_ (fun y K hI hG hK => by
      have HK := hide hK
      clear hK
      go_wp2_with fail
      exact unhide HK _ _ rfl trivial (Below.refl _ _))
  rintro v9 rfl
  ((try dsimp only); go_big_quiet_want; go_big_quiet_op; go_big_quiet_on; refine wpQuiet_nil ?_)
  refine Go.LaxQ.q_call rfl rfl rfl rfl (fun _ _ _ _ => trivial) ?_ (fun y K hI hG hK => by
      have HK := hide hK
      clear hK
      go_wp2_with fail
      exact unhide HK _ _ rfl trivial (Below.refl _ _))
  rintro v9 rfl
  ((try dsimp only); go_big_quiet_want; go_big_quiet_op; go_big_quiet_on; refine wpQuiet_nil ?_)
  refine Go.LaxQ.q_end ?_
  intro y hI hG
  clear hI hG
  go_wp2_with (first
    | ((with_reducible refine at_reg 2 ?_); (refine Go.Lax.region_reads _ (by kernel_rfl) (by kernel_rfl) ?_; (repeat (first | go_big_quiet_skip | (go_big_quiet_want; go_big_quiet_op; go_big_quiet_on))); refine wpQuiet_nil ?_); intro y2)
    | fail)
  refine Go.LaxQ.region_guarded _ 4 3 [] [(1, fun v => v = .agg #[.int .u8 11, .int .u8 52])] [] (fun _ => True) (by kernel_rfl) (by kernel_rfl) (by kernel_rfl) (by kernel_rfl) trivial (fun _ _ _ _ => trivial) (fun _ h => by cases h) (List.forall_mem_cons.2 ⟨⟨_, rfl⟩, fun _ h => by cases h⟩) ?_
  (refine Go.LaxQ.walk_det rfl rfl rfl rfl rfl ?_; go_big_quiet_want; go_big_quiet_op; go_big_quiet_on; refine wpQuiet_nil ?_)
  refine Go.LaxQ.q_call rfl rfl rfl rfl (fun _ _ _ _ => trivial) ?_ (fun y K hI hG hK => by
      go_wp2_with fail
      refine fmt74_ret _ _ ?_
      rintro _ w' rfl hb
      have hh := Go.Proofs.YgcoaaGreat.NatW.hide (hK _ w' rfl trivial hb)
      clear hK
      go_wp2_with fail
      exact Eq.mp (by kernel_rfl) (Go.Proofs.YgcoaaGreat.NatW.unhide hh))
  rintro v9 rfl
  ((try dsimp only); go_big_quiet_want; go_big_quiet_op; go_big_quiet_on; refine wpQuiet_nil ?_)
  (refine Go.LaxQ.walk_det rfl rfl rfl rfl rfl ?_; go_big_quiet_want; go_big_quiet_op; go_big_quiet_on; refine wpQuiet_nil ?_)
  (refine Go.LaxQ.walk_det rfl rfl rfl rfl rfl ?_; go_big_quiet_want; go_big_quiet_op; go_big_quiet_on; refine wpQuiet_nil ?_)
  refine Go.LaxQ.q_end ?_
  intro y3 hI hG
  clear hI hG
  simp only [wpList, Exit.then]
  rename_i K9 hK9
  apply hK9
  exact unhide HH y3 _ _ _ _ _ _ _ _ _ _ _ _ _ _ _ _ _ _ _ _ _ _ _ _ _ _ _ _ _ _ _ _ _ _ _ _ _ _ _ _ _ _ _ _ _ _ _ _ _ _
end Go.Proofs.YgcoaaGreat.NatW
