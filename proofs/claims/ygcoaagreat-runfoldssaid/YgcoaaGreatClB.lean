/-
  Package clinger: Clinger.
-/
import Derived.Test.YgcoaaGreatClA
import Derived.Test.YgcoaaGreatNaI
import Derived.Test.YgcoaaGreatFlU
set_option linter.unusedVariables false
set_option linter.unusedSimpArgs false
set_option maxRecDepth 20000
namespace Go.Proofs.YgcoaaGreat.NatW
open Go.RowKit
open Go.Proofs.YgcoaaGreat.Det
open Go.Proofs.YgcoaaGreat.Limbs Go.Proofs.YgcoaaGreat.Bits
attribute [local go_sem] Go.Instr.field Go.asAgg

theorem fb_quo {k : FloatKind} {x c m : Nat} {e : Int} (hx : ¬ nanK k x) (hc : k.format.read c = .number false m e) (hm : m ≠ 0) : ∃ r, floatBits .quo k x c = some r ∧ r < 2 ^ k.format.width := by
  have key : ∃ d, (k.format.read x).quotient (k.format.fractionBits + 2) (k.format.read c) = some d := by
    rw [hc]
    cases hr : k.format.read x with
    | nan s t => exact absurd (show nanK k x by unfold nanK; rw [hr]; rfl) hx
    | infinity s => exact ⟨_, rfl⟩
    | number s a i =>
      simp only [Ieee.Datum.quotient, if_neg hm]
      exact ⟨_, rfl⟩
  obtain ⟨d, hd⟩ := key
  have h : floatBits .quo k x c = some (k.format.write d) := by
    show ((k.format.read x).quotient (k.format.fractionBits + 2) (k.format.read c)).map k.format.write = _
    rw [hd]; rfl
  exact ⟨_, h, Ieee.Format.div_lt _ h⟩
theorem fb_mul {k : FloatKind} {x c m : Nat} {e : Int} (hx : ¬ nanK k x) (hc : k.format.read c = .number false m e) (hm : m ≠ 0) : ∃ r, floatBits .mul k x c = some r ∧ r < 2 ^ k.format.width := by
  have key : ∃ d, (k.format.read x).product (k.format.read c) = some d := by
    rw [hc]
    cases hr : k.format.read x with
    | nan s t => exact absurd (show nanK k x by unfold nanK; rw [hr]; rfl) hx
    | infinity s =>
      simp only [Ieee.Datum.product, if_neg hm]
      exact ⟨_, rfl⟩
    | number s a i => exact ⟨_, rfl⟩
  obtain ⟨d, hd⟩ := key
  have h : floatBits .mul k x c = some (k.format.write d) := by
    show ((k.format.read x).product (k.format.read c)).map k.format.write = _
    rw [hd]; rfl
  exact ⟨_, h, Ieee.Format.mul_lt _ h⟩
theorem int_nn (k : FloatKind) (a : Int) : ¬ nanK k (floatOfInt k a) := enc_num k _ _ _

set_option maxHeartbeats 2000000 in
theorem cl_11_neg (man q : Int) (um : U64 man) (q1 : -32768 ≤ q) (q2 : q ≤ 32767) (h1 : man ≤ 9007199254740992) (h2 : -22 ≤ q) (h3 : q ≤ 22) (h4 : q < 0) : ∃ r, U64 r ∧ ∀ tb, DFT tb 107 #[fmt 11 52, .int .u64 man, .int .i16 q] (.tuple #[.int .u64 r, .bool true]) := by
  obtain ⟨c, m, e, hc, hr, hm, hT⟩ := ten64_ex (-q)
  obtain ⟨r, hq, hrl⟩ := fb_quo (int_nn .f64 man) hr hm
  have hrun : ∀ w, (binOp .quo 210 (.float .f64 (floatOfInt .f64 man)) (.float .f64 c)).run Oaag.prog w = .ok (.float .f64 r) w := fun w => run_float_arith w .quo 210 .f64 _ _ r hq
  have hrl' : r < 18446744073709551616 := by
    have := w64
    rw [this] at hrl
    exact hrl
  have HT1 := hide hT
  clear hT hq hr hm hc
  refine ⟨(r : Int), ⟨by omega, by omega⟩, fun tb w K ho hK => ?_⟩
  have HK := hide hK
  clear hK
  have f1 : decide (man ≤ 9007199254740992) = true := by simp; omega
  have f2 : decide (-22 ≤ q) = true := by simp; omega
  have f3 : decide (q ≤ 22) = true := by simp; omega
  obtain ⟨wb, x0, hwb, r0, hB, hZ⟩ := boxes1 w #[.int .u8 11, .int .u8 52] 23
  have c00 : ∀ x : Later wb, _ = some (.int .u8 11 : Value) := Later.cell r0 0 _ rfl
  have c01 : ∀ x : Later wb, _ = some (.int .u8 52 : Value) := Later.cell r0 1 _ rfl
  have hne : Nonempty (Later wb) := ⟨x0⟩
  clear r0 ho
  go_enter Oaag.func107, Oaag.ntmps107
  go_wp2_with fail
  refine Go.LaxQ.region_guarded _ 16 3 [] [(1, fun v => v = .agg #[.int .u8 11, .int .u8 52]), (5, fun v => v = .bool true), (6, fun v => v = .bool true), (9, fun v => v = .bool true), (10, fun v => v = .bool true), (13, fun v => v = .bool true), (14, fun v => v = .bool true)] [] (fun _ => True) (by kernel_rfl) (by kernel_rfl) (by kernel_rfl) (by kernel_rfl) trivial (fun _ _ _ _ => trivial) (fun _ h => by cases h) (List.forall_mem_cons.2 ⟨⟨_, rfl⟩, List.forall_mem_cons.2 ⟨⟨_, rfl⟩, List.forall_mem_cons.2 ⟨⟨_, rfl⟩, List.forall_mem_cons.2 ⟨⟨_, rfl⟩, List.forall_mem_cons.2 ⟨⟨_, rfl⟩, List.forall_mem_cons.2 ⟨⟨_, rfl⟩, List.forall_mem_cons.2 ⟨⟨_, rfl⟩, fun _ h => by cases h⟩⟩⟩⟩⟩⟩⟩) ?_
  (refine Go.LaxQ.walk_det rfl rfl rfl rfl rfl ?_; go_big_quiet_want; go_big_quiet_op; go_big_quiet_on; refine wpQuiet_nil ?_)
  refine Go.LaxQ.q_call rfl rfl rfl rfl (fun _ _ _ _ => trivial) ?_ (fun y K hI hG hK => by
      go_wp2_with fail
      refine fmt74_ret _ _ ?_
      rintro _ w' rfl hb
      have hh := Go.Proofs.YgcoaaGreat.NatW.hide (hK _ w' rfl trivial hb)
      clear hK
      go_wp2_with fail
      exact Eq.mp (by kernel_rfl) (Go.Proofs.YgcoaaGreat.NatW.unhide hh))
  rintro v9 rfl
  ((try dsimp only); go_big_quiet_want; go_big_quiet_op; go_big_quiet_on; refine wpQuiet_nil ?_)
  (refine Go.LaxQ.walk_det rfl rfl rfl rfl rfl ?_; go_big_quiet_want; go_big_quiet_op; go_big_quiet_on; refine wpQuiet_nil ?_)
  (refine Go.LaxQ.walk_det rfl rfl rfl rfl rfl ?_; go_big_quiet_want; go_big_quiet_op; go_big_quiet_on; refine wpQuiet_nil ?_)
  (refine Go.LaxQ.walk_det rfl rfl rfl rfl rfl ?_; go_big_quiet_want; go_big_quiet_op; go_big_quiet_on; refine wpQuiet_nil ?_)
  refine Go.LaxQ.q_call rfl rfl rfl rfl (fun _ _ _ _ => trivial) ?_ (fun y K hI hG hK => by
      have HK := hide hK
      clear hK
      go_wp2_with fail
      exact unhide HK _ _ rfl trivial (Below.refl _ _))
  rintro v9 rfl
  ((try dsimp only); go_big_quiet_want; go_big_quiet_op; go_big_quiet_on; refine wpQuiet_nil ?_)
  refine Go.LaxQ.q_call rfl rfl rfl rfl (fun _ _ _ _ => trivial) ?_ (fun y K hI hG hK => by
      have HK := hide hK
      clear hK
      go_wp2_with fail
      exact unhide HK _ _ rfl trivial (Below.refl _ _))
  rintro v9 rfl
  ((try dsimp only); go_big_quiet_want; go_big_quiet_op; go_big_quiet_on; refine wpQuiet_nil ?_)
  (refine Go.LaxQ.walk_det rfl rfl rfl rfl rfl ?_; go_big_quiet_want; go_big_quiet_op; go_big_quiet_on; refine wpQuiet_nil ?_)
  (refine Go.LaxQ.walk_det rfl rfl rfl rfl rfl ?_; go_big_quiet_want; go_big_quiet_op; go_big_quiet_on; refine wpQuiet_nil ?_)
  refine Go.LaxQ.q_call rfl rfl rfl rfl (fun _ _ _ _ => trivial) ?_ (fun y K hI hG hK => by
      have HK := hide hK
      clear hK
      go_wp2_with fail
      exact unhide HK _ _ rfl trivial (Below.refl _ _))
  rintro v9 rfl
  ((try dsimp only); go_big_quiet_want; go_big_quiet_op; go_big_quiet_on; refine wpQuiet_nil ?_)
  refine Go.LaxQ.q_call rfl rfl rfl rfl (fun _ _ _ _ => trivial) ?_ (fun y K hI hG hK => by
      have HK := hide hK
      clear hK
      go_wp2_with fail
      exact unhide HK _ _ rfl trivial (Below.refl _ _))
  rintro v9 rfl
  ((try dsimp only); go_big_quiet_want; go_big_quiet_op; go_big_quiet_on; refine wpQuiet_nil ?_)
  (refine Go.LaxQ.walk_det rfl rfl rfl rfl rfl ?_; go_big_quiet_want; go_big_quiet_op; go_big_quiet_on; refine wpQuiet_nil ?_)
  (refine Go.LaxQ.walk_det rfl rfl rfl rfl rfl ?_; go_big_quiet_want; go_big_quiet_op; go_big_quiet_on; refine wpQuiet_nil ?_)
  refine Go.LaxQ.q_call rfl rfl rfl rfl (fun _ _ _ _ => trivial) ?_ (fun y K hI hG hK => by
      have HK := hide hK
      clear hK
      go_wp2_with fail
      exact unhide HK _ _ rfl trivial (Below.refl _ _))
  rintro v9 rfl
  ((try dsimp only); go_big_quiet_want; go_big_quiet_op; go_big_quiet_on; refine wpQuiet_nil ?_)
  refine Go.LaxQ.q_call rfl rfl rfl rfl (fun _ _ _ _ => trivial) ?_ (fun y K hI hG hK => by
      have HK := hide hK
      clear hK
      go_wp2_with fail
      exact unhide HK _ _ rfl trivial (Below.refl _ _))
  rintro v9 rfl
  ((try dsimp only); go_big_quiet_want; go_big_quiet_op; go_big_quiet_on; refine wpQuiet_nil ?_)
  (refine Go.LaxQ.walk_det rfl rfl rfl rfl rfl ?_; go_big_quiet_want; go_big_quiet_op; go_big_quiet_on; refine wpQuiet_nil ?_)
  refine Go.LaxQ.q_end ?_
  intro y hI hG
  clear hI hG
  go_wp2_with (first
    | ((with_reducible refine at_later 199 ?_); refine Ret.run (NRet.ret (unhide HT1)) _ ?_; rintro _ y__ rfl)
    | ((with_reducible refine at_later 198 ?_); refine Ret.run (NRet.ret (cbits64 r)) _ ?_; rintro _ y__ rfl)
    | fail)
  all_goals exact unhide HK _ (hB _)

set_option maxHeartbeats 2000000 in
theorem cl_11_pos (man q : Int) (um : U64 man) (q1 : -32768 ≤ q) (q2 : q ≤ 32767) (h1 : man ≤ 9007199254740992) (h2 : -22 ≤ q) (h3 : q ≤ 22) (h4 : 0 ≤ q) : ∃ r, U64 r ∧ ∀ tb, DFT tb 107 #[fmt 11 52, .int .u64 man, .int .i16 q] (.tuple #[.int .u64 r, .bool true]) := by
  obtain ⟨c, m, e, hc, hr, hm, hT⟩ := ten64_ex q
  obtain ⟨r, hq, hrl⟩ := fb_mul (int_nn .f64 man) hr hm
  have hrun : ∀ w, (binOp .mul 210 (.float .f64 (floatOfInt .f64 man)) (.float .f64 c)).run Oaag.prog w = .ok (.float .f64 r) w := fun w => run_float_arith w .mul 210 .f64 _ _ r hq
  have hrl' : r < 18446744073709551616 := by
    have := w64
    rw [this] at hrl
    exact hrl
  have HT1 := hide hT
  clear hT hq hr hm hc
  refine ⟨(r : Int), ⟨by omega, by omega⟩, fun tb w K ho hK => ?_⟩
  have HK := hide hK
  clear hK
  have f1 : decide (man ≤ 9007199254740992) = true := by simp; omega
  have f2 : decide (-22 ≤ q) = true := by simp; omega
  have f3 : decide (q ≤ 22) = true := by simp; omega
  obtain ⟨wb, x0, hwb, r0, hB, hZ⟩ := boxes1 w #[.int .u8 11, .int .u8 52] 23
  have c00 : ∀ x : Later wb, _ = some (.int .u8 11 : Value) := Later.cell r0 0 _ rfl
  have c01 : ∀ x : Later wb, _ = some (.int .u8 52 : Value) := Later.cell r0 1 _ rfl
  have hne : Nonempty (Later wb) := ⟨x0⟩
  clear r0 ho
  go_enter Oaag.func107, Oaag.ntmps107
  go_wp2_with fail
  refine Go.LaxQ.region_guarded _ 16 3 [] [(1, fun v => v = .agg #[.int .u8 11, .int .u8 52]), (5, fun v => v = .bool true), (6, fun v => v = .bool true), (9, fun v => v = .bool true), (10, fun v => v = .bool true), (13, fun v => v = .bool true), (14, fun v => v = .bool true)] [] (fun _ => True) (by kernel_rfl) (by kernel_rfl) (by kernel_rfl) (by kernel_rfl) trivial (fun _ _ _ _ => trivial) (fun _ h => by cases h) (List.forall_mem_cons.2 ⟨⟨_, rfl⟩, List.forall_mem_cons.2 ⟨⟨_, rfl⟩, List.forall_mem_cons.2 ⟨⟨_, rfl⟩, List.forall_mem_cons.2 ⟨⟨_, rfl⟩, List.forall_mem_cons.2 ⟨⟨_, rfl⟩, List.forall_mem_cons.2 ⟨⟨_, rfl⟩, List.forall_mem_cons.2 ⟨⟨_, rfl⟩, fun _ h => by cases h⟩⟩⟩⟩⟩⟩⟩) ?_
  (refine Go.LaxQ.walk_det rfl rfl rfl rfl rfl ?_; go_big_quiet_want; go_big_quiet_op; go_big_quiet_on; refine wpQuiet_nil ?_)
  refine Go.LaxQ.q_call rfl rfl rfl rfl (fun _ _ _ _ => trivial) ?_ (fun y K hI hG hK => by
      go_wp2_with fail
      refine fmt74_ret _ _ ?_
      rintro _ w' rfl hb
      have hh := Go.Proofs.YgcoaaGreat.NatW.hide (hK _ w' rfl trivial hb)
      clear hK
      go_wp2_with fail
      exact Eq.mp (by kernel_rfl) (Go.Proofs.YgcoaaGreat.NatW.unhide hh))
  rintro v9 rfl
  ((try dsimp only); go_big_quiet_want; go_big_quiet_op; go_big_quiet_on; refine wpQuiet_nil ?_)
  (refine Go.LaxQ.walk_det rfl rfl rfl rfl rfl ?_; go_big_quiet_want; go_big_quiet_op; go_big_quiet_on; refine wpQuiet_nil ?_)
  (refine Go.LaxQ.walk_det rfl rfl rfl rfl rfl ?_; go_big_quiet_want; go_big_quiet_op; go_big_quiet_on; refine wpQuiet_nil ?_)
  (refine Go.LaxQ.walk_det rfl rfl rfl rfl rfl ?_; go_big_quiet_want; go_big_quiet_op; go_big_quiet_on; refine wpQuiet_nil ?_)
  refine Go.LaxQ.q_call rfl rfl rfl rfl (fun _ _ _ _ => trivial) ?_ (fun y K hI hG hK => by
      have HK := hide hK
      clear hK
      go_wp2_with fail
      exact unhide HK _ _ rfl trivial (Below.refl _ _))
  rintro v9 rfl
  ((try dsimp only); go_big_quiet_want; go_big_quiet_op; go_big_quiet_on; refine wpQuiet_nil ?_)
  refine Go.LaxQ.q_call rfl rfl rfl rfl (fun _ _ _ _ => trivial) ?_ (fun y K hI hG hK => by
      have HK := hide hK
      clear hK
      go_wp2_with fail
      exact unhide HK _ _ rfl trivial (Below.refl _ _))
  rintro v9 rfl
  ((try dsimp only); go_big_quiet_want; go_big_quiet_op; go_big_quiet_on; refine wpQuiet_nil ?_)
  (refine Go.LaxQ.walk_det rfl rfl rfl rfl rfl ?_; go_big_quiet_want; go_big_quiet_op; go_big_quiet_on; refine wpQuiet_nil ?_)
  (refine Go.LaxQ.walk_det rfl rfl rfl rfl rfl ?_; go_big_quiet_want; go_big_quiet_op; go_big_quiet_on; refine wpQuiet_nil ?_)
  refine Go.LaxQ.q_call rfl rfl rfl rfl (fun _ _ _ _ => trivial) ?_ (fun y K hI hG hK => by
      have HK := hide hK
      clear hK
      go_wp2_with fail
      exact unhide HK _ _ rfl trivial (Below.refl _ _))
  rintro v9 rfl
  ((try dsimp only); go_big_quiet_want; go_big_quiet_op; go_big_quiet_on; refine wpQuiet_nil ?_)
  refine Go.LaxQ.q_call rfl rfl rfl rfl (fun _ _ _ _ => trivial) ?_ (fun y K hI hG hK => by
      have HK := hide hK
      clear hK
      go_wp2_with fail
      exact unhide HK _ _ rfl trivial (Below.refl _ _))
  rintro v9 rfl
  ((try dsimp only); go_big_quiet_want; go_big_quiet_op; go_big_quiet_on; refine wpQuiet_nil ?_)
  (refine Go.LaxQ.walk_det rfl rfl rfl rfl rfl ?_; go_big_quiet_want; go_big_quiet_op; go_big_quiet_on; refine wpQuiet_nil ?_)
  (refine Go.LaxQ.walk_det rfl rfl rfl rfl rfl ?_; go_big_quiet_want; go_big_quiet_op; go_big_quiet_on; refine wpQuiet_nil ?_)
  refine Go.LaxQ.q_call rfl rfl rfl rfl (fun _ _ _ _ => trivial) ?_ (fun y K hI hG hK => by
      have HK := hide hK
      clear hK
      go_wp2_with fail
      exact unhide HK _ _ rfl trivial (Below.refl _ _))
  rintro v9 rfl
  ((try dsimp only); go_big_quiet_want; go_big_quiet_op; go_big_quiet_on; refine wpQuiet_nil ?_)
  refine Go.LaxQ.q_call rfl rfl rfl rfl (fun _ _ _ _ => trivial) ?_ (fun y K hI hG hK => by
      have HK := hide hK
      clear hK
      go_wp2_with fail
      exact unhide HK _ _ rfl trivial (Below.refl _ _))
  rintro v9 rfl
  ((try dsimp only); go_big_quiet_want; go_big_quiet_op; go_big_quiet_on; refine wpQuiet_nil ?_)
  (refine Go.LaxQ.walk_det rfl rfl rfl rfl rfl ?_; go_big_quiet_want; go_big_quiet_op; go_big_quiet_on; refine wpQuiet_nil ?_)
  refine Go.LaxQ.q_end ?_
  intro y hI hG
  clear hI hG
  go_wp2_with (first
    | ((with_reducible refine at_later 199 ?_); refine Ret.run (NRet.ret (unhide HT1)) _ ?_; rintro _ y__ rfl)
    | ((with_reducible refine at_later 198 ?_); refine Ret.run (NRet.ret (cbits64 r)) _ ?_; rintro _ y__ rfl)
    | fail)
  all_goals exact unhide HK _ (hB _)

set_option maxHeartbeats 2000000 in
theorem cl_11_no1 (man q : Int) (um : U64 man) (q1 : -32768 ≤ q) (q2 : q ≤ 32767) (h1 : 9007199254740992 < man) : ∃ r, U64 r ∧ ∀ tb, DFT tb 107 #[fmt 11 52, .int .u64 man, .int .i16 q] (.tuple #[.int .u64 r, .bool false]) := by
  refine ⟨0, u64_zero, fun tb w K ho hK => ?_⟩
  have HK := hide hK
  clear hK
  have f1 : decide (man ≤ 9007199254740992) = false := by simp; omega
  obtain ⟨wb, x0, hwb, r0, hB, hZ⟩ := boxes1 w #[.int .u8 11, .int .u8 52] 23
  have c00 : ∀ x : Later wb, _ = some (.int .u8 11 : Value) := Later.cell r0 0 _ rfl
  have c01 : ∀ x : Later wb, _ = some (.int .u8 52 : Value) := Later.cell r0 1 _ rfl
  have hne : Nonempty (Later wb) := ⟨x0⟩
  clear r0 ho
  go_enter Oaag.func107, Oaag.ntmps107
  go_wp2_with fail
  refine Go.LaxQ.region_guarded _ 16 3 [8, 9, 12, 13] [(1, fun v => v = .agg #[.int .u8 11, .int .u8 52]), (5, fun v => v = .bool false), (6, fun v => v = .bool false), (10, fun v => v = .bool false), (14, fun v => v = .bool false)] [] (fun _ => True) (by kernel_rfl) (by kernel_rfl) (by kernel_rfl) (by kernel_rfl) trivial (fun _ _ _ _ => trivial) (fun _ h => by cases h) (List.forall_mem_cons.2 ⟨⟨_, rfl⟩, List.forall_mem_cons.2 ⟨⟨_, rfl⟩, List.forall_mem_cons.2 ⟨⟨_, rfl⟩, List.forall_mem_cons.2 ⟨⟨_, rfl⟩, List.forall_mem_cons.2 ⟨⟨_, rfl⟩, fun _ h => by cases h⟩⟩⟩⟩⟩) ?_
  (refine Go.LaxQ.walk_det rfl rfl rfl rfl rfl ?_; go_big_quiet_want; go_big_quiet_op; go_big_quiet_on; refine wpQuiet_nil ?_)
  refine Go.LaxQ.q_call rfl rfl rfl rfl (fun _ _ _ _ => trivial) ?_ (fun y K hI hG hK => by
      go_wp2_with fail
      refine fmt74_ret _ _ ?_
      rintro _ w' rfl hb
      have hh := Go.Proofs.YgcoaaGreat.NatW.hide (hK _ w' rfl trivial hb)
      clear hK
      go_wp2_with fail
      exact Eq.mp (by kernel_rfl) (Go.Proofs.YgcoaaGreat.NatW.unhide hh))
  rintro v9 rfl
  ((try dsimp only); go_big_quiet_want; go_big_quiet_op; go_big_quiet_on; refine wpQuiet_nil ?_)
  (refine Go.LaxQ.walk_det rfl rfl rfl rfl rfl ?_; go_big_quiet_want; go_big_quiet_op; go_big_quiet_on; refine wpQuiet_nil ?_)
  (refine Go.LaxQ.walk_det rfl rfl rfl rfl rfl ?_; go_big_quiet_want; go_big_quiet_op; go_big_quiet_on; refine wpQuiet_nil ?_)
  (refine Go.LaxQ.walk_det rfl rfl rfl rfl rfl ?_; go_big_quiet_want; go_big_quiet_op; go_big_quiet_on; refine wpQuiet_nil ?_)
  refine Go.LaxQ.q_call rfl rfl rfl rfl (fun _ _ _ _ => trivial) ?_ (fun y K hI hG hK => by
      have HK := hide hK
      clear hK
      go_wp2_with fail
      exact unhide HK _ _ rfl trivial (Below.refl _ _))
  rintro v9 rfl
  ((try dsimp only); go_big_quiet_want; go_big_quiet_op; go_big_quiet_on; refine wpQuiet_nil ?_)
  refine Go.LaxQ.q_call rfl rfl rfl rfl (fun _ _ _ _ => trivial) ?_ (fun y K hI hG hK => by
      have HK := hide hK
      clear hK
      go_wp2_with fail
      exact unhide HK _ _ rfl trivial (Below.refl _ _))
  rintro v9 rfl
  ((try dsimp only); go_big_quiet_want; go_big_quiet_op; go_big_quiet_on; refine wpQuiet_nil ?_)
  (refine Go.LaxQ.walk_det rfl rfl rfl rfl rfl ?_; go_big_quiet_want; go_big_quiet_op; go_big_quiet_on; refine wpQuiet_nil ?_)
  (refine Go.LaxQ.walk_skip_mv rfl rfl ?_; (try dsimp only); go_big_quiet_want; go_big_quiet_op; go_big_quiet_on; refine wpQuiet_nil ?_)
  (refine Go.LaxQ.walk_skip_mv rfl rfl ?_; (try dsimp only); go_big_quiet_want; go_big_quiet_op; go_big_quiet_on; refine wpQuiet_nil ?_)
  refine Go.LaxQ.q_call rfl rfl rfl rfl (fun _ _ _ _ => trivial) ?_ (fun y K hI hG hK => by
      have HK := hide hK
      clear hK
      go_wp2_with fail
      exact unhide HK _ _ rfl trivial (Below.refl _ _))
  rintro v9 rfl
  ((try dsimp only); go_big_quiet_want; go_big_quiet_op; go_big_quiet_on; refine wpQuiet_nil ?_)
  (refine Go.LaxQ.walk_det rfl rfl rfl rfl rfl ?_; go_big_quiet_want; go_big_quiet_op; go_big_quiet_on; refine wpQuiet_nil ?_)
  (refine Go.LaxQ.walk_skip_mv rfl rfl ?_; (try dsimp only); go_big_quiet_want; go_big_quiet_op; go_big_quiet_on; refine wpQuiet_nil ?_)
  (refine Go.LaxQ.walk_skip_mv rfl rfl ?_; (try dsimp only); go_big_quiet_want; go_big_quiet_op; go_big_quiet_on; refine wpQuiet_nil ?_)
  refine Go.LaxQ.q_call rfl rfl rfl rfl (fun _ _ _ _ => trivial) ?_ (fun y K hI hG hK => by
      have HK := hide hK
      clear hK
      go_wp2_with fail
      exact unhide HK _ _ rfl trivial (Below.refl _ _))
  rintro v9 rfl
  ((try dsimp only); go_big_quiet_want; go_big_quiet_op; go_big_quiet_on; refine wpQuiet_nil ?_)
  (refine Go.LaxQ.walk_det rfl rfl rfl rfl rfl ?_; go_big_quiet_want; go_big_quiet_op; go_big_quiet_on; refine wpQuiet_nil ?_)
  refine Go.LaxQ.q_end ?_
  intro y hI hG
  clear hI hG
  go_wp2_with fail
  refine Go.LaxQ.region_guarded _ 16 3 [4, 5, 8, 9, 12, 13] [(1, fun v => v = .agg #[.int .u8 8, .int .u8 23]), (6, fun v => v = .bool false), (10, fun v => v = .bool false), (14, fun v => v = .bool false)] [] (fun _ => True) (by kernel_rfl) (by kernel_rfl) (by kernel_rfl) (by kernel_rfl) trivial (fun _ _ _ _ => trivial) (fun _ h => by cases h) (List.forall_mem_cons.2 ⟨⟨_, rfl⟩, List.forall_mem_cons.2 ⟨⟨_, rfl⟩, List.forall_mem_cons.2 ⟨⟨_, rfl⟩, List.forall_mem_cons.2 ⟨⟨_, rfl⟩, fun _ h => by cases h⟩⟩⟩⟩) ?_
  (refine Go.LaxQ.walk_det rfl rfl rfl rfl rfl ?_; go_big_quiet_want; go_big_quiet_op; go_big_quiet_on; refine wpQuiet_nil ?_)
  refine Go.LaxQ.q_call rfl rfl rfl rfl (fun _ _ _ _ => trivial) ?_ (fun y K hI hG hK => by
      go_wp2_with fail
      refine fmt73_ret _ _ ?_
      rintro _ w' rfl hb
      have hh := Go.Proofs.YgcoaaGreat.NatW.hide (hK _ w' rfl trivial hb)
      clear hK
      go_wp2_with fail
      exact Eq.mp (by kernel_rfl) (Go.Proofs.YgcoaaGreat.NatW.unhide hh))
  rintro v9 rfl
  ((try dsimp only); go_big_quiet_want; go_big_quiet_op; go_big_quiet_on; refine wpQuiet_nil ?_)
  (refine Go.LaxQ.walk_det rfl rfl rfl rfl rfl ?_; go_big_quiet_want; go_big_quiet_op; go_big_quiet_on; refine wpQuiet_nil ?_)
  (refine Go.LaxQ.walk_det rfl rfl rfl rfl rfl ?_; go_big_quiet_want; go_big_quiet_op; go_big_quiet_on; refine wpQuiet_nil ?_)
  (refine Go.LaxQ.walk_skip_mv rfl rfl ?_; (try dsimp only); go_big_quiet_want; go_big_quiet_op; go_big_quiet_on; refine wpQuiet_nil ?_)
  (refine Go.LaxQ.walk_skip_mv rfl rfl ?_; (try dsimp only); go_big_quiet_want; go_big_quiet_op; go_big_quiet_on; refine wpQuiet_nil ?_)
  refine Go.LaxQ.q_call rfl rfl rfl rfl (fun _ _ _ _ => trivial) ?_ (fun y K hI hG hK => by
      have HK := hide hK
      clear hK
      go_wp2_with fail
      exact unhide HK _ _ rfl trivial (Below.refl _ _))
  rintro v9 rfl
  ((try dsimp only); go_big_quiet_want; go_big_quiet_op; go_big_quiet_on; refine wpQuiet_nil ?_)
  (refine Go.LaxQ.walk_det rfl rfl rfl rfl rfl ?_; go_big_quiet_want; go_big_quiet_op; go_big_quiet_on; refine wpQuiet_nil ?_)
  (refine Go.LaxQ.walk_skip_mv rfl rfl ?_; (try dsimp only); go_big_quiet_want; go_big_quiet_op; go_big_quiet_on; refine wpQuiet_nil ?_)
  (refine Go.LaxQ.walk_skip_mv rfl rfl ?_; (try dsimp only); go_big_quiet_want; go_big_quiet_op; go_big_quiet_on; refine wpQuiet_nil ?_)
  refine Go.LaxQ.q_call rfl rfl rfl rfl (fun _ _ _ _ => trivial) ?_ (fun y K hI hG hK => by
      have HK := hide hK
      clear hK
      go_wp2_with fail
      exact unhide HK _ _ rfl trivial (Below.refl _ _))
  rintro v9 rfl
  ((try dsimp only); go_big_quiet_want; go_big_quiet_op; go_big_quiet_on; refine wpQuiet_nil ?_)
  (refine Go.LaxQ.walk_det rfl rfl rfl rfl rfl ?_; go_big_quiet_want; go_big_quiet_op; go_big_quiet_on; refine wpQuiet_nil ?_)
  (refine Go.LaxQ.walk_skip_mv rfl rfl ?_; (try dsimp only); go_big_quiet_want; go_big_quiet_op; go_big_quiet_on; refine wpQuiet_nil ?_)
  (refine Go.LaxQ.walk_skip_mv rfl rfl ?_; (try dsimp only); go_big_quiet_want; go_big_quiet_op; go_big_quiet_on; refine wpQuiet_nil ?_)
  refine Go.LaxQ.q_call rfl rfl rfl rfl (fun _ _ _ _ => trivial) ?_ (fun y K hI hG hK => by
      have HK := hide hK
      clear hK
      go_wp2_with fail
      exact unhide HK _ _ rfl trivial (Below.refl _ _))
  rintro v9 rfl
  ((try dsimp only); go_big_quiet_want; go_big_quiet_op; go_big_quiet_on; refine wpQuiet_nil ?_)
  (refine Go.LaxQ.walk_det rfl rfl rfl rfl rfl ?_; go_big_quiet_want; go_big_quiet_op; go_big_quiet_on; refine wpQuiet_nil ?_)
  refine Go.LaxQ.q_end ?_
  intro y hI hG
  clear hI hG
  go_wp2_with fail
  all_goals exact unhide HK _ (hB _)

set_option maxHeartbeats 2000000 in
theorem cl_11_no2 (man q : Int) (um : U64 man) (q1 : -32768 ≤ q) (q2 : q ≤ 32767) (h1 : man ≤ 9007199254740992) (h2 : q < -22) : ∃ r, U64 r ∧ ∀ tb, DFT tb 107 #[fmt 11 52, .int .u64 man, .int .i16 q] (.tuple #[.int .u64 r, .bool false]) := by
  refine ⟨0, u64_zero, fun tb w K ho hK => ?_⟩
  have HK := hide hK
  clear hK
  have f1 : decide (man ≤ 9007199254740992) = true := by simp; omega
  have f2 : decide (-22 ≤ q) = false := by simp; omega
  obtain ⟨wb, x0, hwb, r0, hB, hZ⟩ := boxes1 w #[.int .u8 11, .int .u8 52] 23
  have c00 : ∀ x : Later wb, _ = some (.int .u8 11 : Value) := Later.cell r0 0 _ rfl
  have c01 : ∀ x : Later wb, _ = some (.int .u8 52 : Value) := Later.cell r0 1 _ rfl
  have hne : Nonempty (Later wb) := ⟨x0⟩
  clear r0 ho
  go_enter Oaag.func107, Oaag.ntmps107
  go_wp2_with fail
  refine Go.LaxQ.region_guarded _ 16 3 [12, 13] [(1, fun v => v = .agg #[.int .u8 11, .int .u8 52]), (5, fun v => v = .bool true), (6, fun v => v = .bool true), (9, fun v => v = .bool false), (10, fun v => v = .bool false), (14, fun v => v = .bool false)] [] (fun _ => True) (by kernel_rfl) (by kernel_rfl) (by kernel_rfl) (by kernel_rfl) trivial (fun _ _ _ _ => trivial) (fun _ h => by cases h) (List.forall_mem_cons.2 ⟨⟨_, rfl⟩, List.forall_mem_cons.2 ⟨⟨_, rfl⟩, List.forall_mem_cons.2 ⟨⟨_, rfl⟩, List.forall_mem_cons.2 ⟨⟨_, rfl⟩, List.forall_mem_cons.2 ⟨⟨_, rfl⟩, List.forall_mem_cons.2 ⟨⟨_, rfl⟩, fun _ h => by cases h⟩⟩⟩⟩⟩⟩) ?_
  (refine Go.LaxQ.walk_det rfl rfl rfl rfl rfl ?_; go_big_quiet_want; go_big_quiet_op; go_big_quiet_on; refine wpQuiet_nil ?_)
  refine Go.LaxQ.q_call rfl rfl rfl rfl (fun _ _ _ _ => trivial) ?_ (fun y K hI hG hK => by
      go_wp2_with fail
      refine fmt74_ret _ _ ?_
      rintro _ w' rfl hb
      have hh := Go.Proofs.YgcoaaGreat.NatW.hide (hK _ w' rfl trivial hb)
      clear hK
      go_wp2_with fail
      exact Eq.mp (by kernel_rfl) (Go.Proofs.YgcoaaGreat.NatW.unhide hh))
  rintro v9 rfl
  ((try dsimp only); go_big_quiet_want; go_big_quiet_op; go_big_quiet_on; refine wpQuiet_nil ?_)
  (refine Go.LaxQ.walk_det rfl rfl rfl rfl rfl ?_; go_big_quiet_want; go_big_quiet_op; go_big_quiet_on; refine wpQuiet_nil ?_)
  (refine Go.LaxQ.walk_det rfl rfl rfl rfl rfl ?_; go_big_quiet_want; go_big_quiet_op; go_big_quiet_on; refine wpQuiet_nil ?_)
  (refine Go.LaxQ.walk_det rfl rfl rfl rfl rfl ?_; go_big_quiet_want; go_big_quiet_op; go_big_quiet_on; refine wpQuiet_nil ?_)
  refine Go.LaxQ.q_call rfl rfl rfl rfl (fun _ _ _ _ => trivial) ?_ (fun y K hI hG hK => by
      have HK := hide hK
      clear hK
      go_wp2_with fail
      exact unhide HK _ _ rfl trivial (Below.refl _ _))
  rintro v9 rfl
  ((try dsimp only); go_big_quiet_want; go_big_quiet_op; go_big_quiet_on; refine wpQuiet_nil ?_)
  refine Go.LaxQ.q_call rfl rfl rfl rfl (fun _ _ _ _ => trivial) ?_ (fun y K hI hG hK => by
      have HK := hide hK
      clear hK
      go_wp2_with fail
      exact unhide HK _ _ rfl trivial (Below.refl _ _))
  rintro v9 rfl
  ((try dsimp only); go_big_quiet_want; go_big_quiet_op; go_big_quiet_on; refine wpQuiet_nil ?_)
  (refine Go.LaxQ.walk_det rfl rfl rfl rfl rfl ?_; go_big_quiet_want; go_big_quiet_op; go_big_quiet_on; refine wpQuiet_nil ?_)
  (refine Go.LaxQ.walk_det rfl rfl rfl rfl rfl ?_; go_big_quiet_want; go_big_quiet_op; go_big_quiet_on; refine wpQuiet_nil ?_)
  refine Go.LaxQ.q_call rfl rfl rfl rfl (fun _ _ _ _ => trivial) ?_ (fun y K hI hG hK => by
      have HK := hide hK
      clear hK
      go_wp2_with fail
      exact unhide HK _ _ rfl trivial (Below.refl _ _))
  rintro v9 rfl
  ((try dsimp only); go_big_quiet_want; go_big_quiet_op; go_big_quiet_on; refine wpQuiet_nil ?_)
  refine Go.LaxQ.q_call rfl rfl rfl rfl (fun _ _ _ _ => trivial) ?_ (fun y K hI hG hK => by
      have HK := hide hK
      clear hK
      go_wp2_with fail
      exact unhide HK _ _ rfl trivial (Below.refl _ _))
  rintro v9 rfl
  ((try dsimp only); go_big_quiet_want; go_big_quiet_op; go_big_quiet_on; refine wpQuiet_nil ?_)
  (refine Go.LaxQ.walk_det rfl rfl rfl rfl rfl ?_; go_big_quiet_want; go_big_quiet_op; go_big_quiet_on; refine wpQuiet_nil ?_)
  (refine Go.LaxQ.walk_skip_mv rfl rfl ?_; (try dsimp only); go_big_quiet_want; go_big_quiet_op; go_big_quiet_on; refine wpQuiet_nil ?_)
  (refine Go.LaxQ.walk_skip_mv rfl rfl ?_; (try dsimp only); go_big_quiet_want; go_big_quiet_op; go_big_quiet_on; refine wpQuiet_nil ?_)
  refine Go.LaxQ.q_call rfl rfl rfl rfl (fun _ _ _ _ => trivial) ?_ (fun y K hI hG hK => by
      have HK := hide hK
      clear hK
      go_wp2_with fail
      exact unhide HK _ _ rfl trivial (Below.refl _ _))
  rintro v9 rfl
  ((try dsimp only); go_big_quiet_want; go_big_quiet_op; go_big_quiet_on; refine wpQuiet_nil ?_)
  (refine Go.LaxQ.walk_det rfl rfl rfl rfl rfl ?_; go_big_quiet_want; go_big_quiet_op; go_big_quiet_on; refine wpQuiet_nil ?_)
  refine Go.LaxQ.q_end ?_
  intro y hI hG
  clear hI hG
  go_wp2_with fail
  refine Go.LaxQ.region_guarded _ 16 3 [4, 5, 8, 9, 12, 13] [(1, fun v => v = .agg #[.int .u8 8, .int .u8 23]), (6, fun v => v = .bool false), (10, fun v => v = .bool false), (14, fun v => v = .bool false)] [] (fun _ => True) (by kernel_rfl) (by kernel_rfl) (by kernel_rfl) (by kernel_rfl) trivial (fun _ _ _ _ => trivial) (fun _ h => by cases h) (List.forall_mem_cons.2 ⟨⟨_, rfl⟩, List.forall_mem_cons.2 ⟨⟨_, rfl⟩, List.forall_mem_cons.2 ⟨⟨_, rfl⟩, List.forall_mem_cons.2 ⟨⟨_, rfl⟩, fun _ h => by cases h⟩⟩⟩⟩) ?_
  (refine Go.LaxQ.walk_det rfl rfl rfl rfl rfl ?_; go_big_quiet_want; go_big_quiet_op; go_big_quiet_on; refine wpQuiet_nil ?_)
  refine Go.LaxQ.q_call rfl rfl rfl rfl (fun _ _ _ _ => trivial) ?_ (fun y K hI hG hK => by
      go_wp2_with fail
      refine fmt73_ret _ _ ?_
      rintro _ w' rfl hb
      have hh := Go.Proofs.YgcoaaGreat.NatW.hide (hK _ w' rfl trivial hb)
      clear hK
      go_wp2_with fail
      exact Eq.mp (by kernel_rfl) (Go.Proofs.YgcoaaGreat.NatW.unhide hh))
  rintro v9 rfl
  ((try dsimp only); go_big_quiet_want; go_big_quiet_op; go_big_quiet_on; refine wpQuiet_nil ?_)
  (refine Go.LaxQ.walk_det rfl rfl rfl rfl rfl ?_; go_big_quiet_want; go_big_quiet_op; go_big_quiet_on; refine wpQuiet_nil ?_)
  (refine Go.LaxQ.walk_det rfl rfl rfl rfl rfl ?_; go_big_quiet_want; go_big_quiet_op; go_big_quiet_on; refine wpQuiet_nil ?_)
  (refine Go.LaxQ.walk_skip_mv rfl rfl ?_; (try dsimp only); go_big_quiet_want; go_big_quiet_op; go_big_quiet_on; refine wpQuiet_nil ?_)
  (refine Go.LaxQ.walk_skip_mv rfl rfl ?_; (try dsimp only); go_big_quiet_want; go_big_quiet_op; go_big_quiet_on; refine wpQuiet_nil ?_)
  refine Go.LaxQ.q_call rfl rfl rfl rfl (fun _ _ _ _ => trivial) ?_ (fun y K hI hG hK => by
      have HK := hide hK
      clear hK
      go_wp2_with fail
      exact unhide HK _ _ rfl trivial (Below.refl _ _))
  rintro v9 rfl
  ((try dsimp only); go_big_quiet_want; go_big_quiet_op; go_big_quiet_on; refine wpQuiet_nil ?_)
  (refine Go.LaxQ.walk_det rfl rfl rfl rfl rfl ?_; go_big_quiet_want; go_big_quiet_op; go_big_quiet_on; refine wpQuiet_nil ?_)
  (refine Go.LaxQ.walk_skip_mv rfl rfl ?_; (try dsimp only); go_big_quiet_want; go_big_quiet_op; go_big_quiet_on; refine wpQuiet_nil ?_)
  (refine Go.LaxQ.walk_skip_mv rfl rfl ?_; (try dsimp only); go_big_quiet_want; go_big_quiet_op; go_big_quiet_on; refine wpQuiet_nil ?_)
  refine Go.LaxQ.q_call rfl rfl rfl rfl (fun _ _ _ _ => trivial) ?_ (fun y K hI hG hK => by
      have HK := hide hK
      clear hK
      go_wp2_with fail
      exact unhide HK _ _ rfl trivial (Below.refl _ _))
  rintro v9 rfl
  ((try dsimp only); go_big_quiet_want; go_big_quiet_op; go_big_quiet_on; refine wpQuiet_nil ?_)
  (refine Go.LaxQ.walk_det rfl rfl rfl rfl rfl ?_; go_big_quiet_want; go_big_quiet_op; go_big_quiet_on; refine wpQuiet_nil ?_)
  (refine Go.LaxQ.walk_skip_mv rfl rfl ?_; (try dsimp only); go_big_quiet_want; go_big_quiet_op; go_big_quiet_on; refine wpQuiet_nil ?_)
  (refine Go.LaxQ.walk_skip_mv rfl rfl ?_; (try dsimp only); go_big_quiet_want; go_big_quiet_op; go_big_quiet_on; refine wpQuiet_nil ?_)
  refine Go.LaxQ.q_call rfl rfl rfl rfl (fun _ _ _ _ => trivial) ?_ (fun y K hI hG hK => by
      have HK := hide hK
      clear hK
      go_wp2_with fail
      exact unhide HK _ _ rfl trivial (Below.refl _ _))
  rintro v9 rfl
  ((try dsimp only); go_big_quiet_want; go_big_quiet_op; go_big_quiet_on; refine wpQuiet_nil ?_)
  (refine Go.LaxQ.walk_det rfl rfl rfl rfl rfl ?_; go_big_quiet_want; go_big_quiet_op; go_big_quiet_on; refine wpQuiet_nil ?_)
  refine Go.LaxQ.q_end ?_
  intro y hI hG
  clear hI hG
  go_wp2_with fail
  all_goals exact unhide HK _ (hB _)

set_option maxHeartbeats 2000000 in
theorem cl_11_no3 (man q : Int) (um : U64 man) (q1 : -32768 ≤ q) (q2 : q ≤ 32767) (h1 : man ≤ 9007199254740992) (h2 : -22 ≤ q) (h3 : 22 < q) : ∃ r, U64 r ∧ ∀ tb, DFT tb 107 #[fmt 11 52, .int .u64 man, .int .i16 q] (.tuple #[.int .u64 r, .bool false]) := by
  refine ⟨0, u64_zero, fun tb w K ho hK => ?_⟩
  have HK := hide hK
  clear hK
  have f1 : decide (man ≤ 9007199254740992) = true := by simp; omega
  have f2 : decide (-22 ≤ q) = true := by simp; omega
  have f3 : decide (q ≤ 22) = false := by simp; omega
  obtain ⟨wb, x0, hwb, r0, hB, hZ⟩ := boxes1 w #[.int .u8 11, .int .u8 52] 23
  have c00 : ∀ x : Later wb, _ = some (.int .u8 11 : Value) := Later.cell r0 0 _ rfl
  have c01 : ∀ x : Later wb, _ = some (.int .u8 52 : Value) := Later.cell r0 1 _ rfl
  have hne : Nonempty (Later wb) := ⟨x0⟩
  clear r0 ho
  go_enter Oaag.func107, Oaag.ntmps107
  go_wp2_with fail
  refine Go.LaxQ.region_guarded _ 16 3 [] [(1, fun v => v = .agg #[.int .u8 11, .int .u8 52]), (5, fun v => v = .bool true), (6, fun v => v = .bool true), (9, fun v => v = .bool true), (10, fun v => v = .bool true), (13, fun v => v = .bool false), (14, fun v => v = .bool false)] [] (fun _ => True) (by kernel_rfl) (by kernel_rfl) (by kernel_rfl) (by kernel_rfl) trivial (fun _ _ _ _ => trivial) (fun _ h => by cases h) (List.forall_mem_cons.2 ⟨⟨_, rfl⟩, List.forall_mem_cons.2 ⟨⟨_, rfl⟩, List.forall_mem_cons.2 ⟨⟨_, rfl⟩, List.forall_mem_cons.2 ⟨⟨_, rfl⟩, List.forall_mem_cons.2 ⟨⟨_, rfl⟩, List.forall_mem_cons.2 ⟨⟨_, rfl⟩, List.forall_mem_cons.2 ⟨⟨_, rfl⟩, fun _ h => by cases h⟩⟩⟩⟩⟩⟩⟩) ?_
  (refine Go.LaxQ.walk_det rfl rfl rfl rfl rfl ?_; go_big_quiet_want; go_big_quiet_op; go_big_quiet_on; refine wpQuiet_nil ?_)
  refine Go.LaxQ.q_call rfl rfl rfl rfl (fun _ _ _ _ => trivial) ?_ (fun y K hI hG hK => by
      go_wp2_with fail
      refine fmt74_ret _ _ ?_
      rintro _ w' rfl hb
      have hh := Go.Proofs.YgcoaaGreat.NatW.hide (hK _ w' rfl trivial hb)
      clear hK
      go_wp2_with fail
      exact Eq.mp (by kernel_rfl) (Go.Proofs.YgcoaaGreat.NatW.unhide hh))
  rintro v9 rfl
  ((try dsimp only); go_big_quiet_want; go_big_quiet_op; go_big_quiet_on; refine wpQuiet_nil ?_)
  (refine Go.LaxQ.walk_det rfl rfl rfl rfl rfl ?_; go_big_quiet_want; go_big_quiet_op; go_big_quiet_on; refine wpQuiet_nil ?_)
  (refine Go.LaxQ.walk_det rfl rfl rfl rfl rfl ?_; go_big_quiet_want; go_big_quiet_op; go_big_quiet_on; refine wpQuiet_nil ?_)
  (refine Go.LaxQ.walk_det rfl rfl rfl rfl rfl ?_; go_big_quiet_want; go_big_quiet_op; go_big_quiet_on; refine wpQuiet_nil ?_)
  refine Go.LaxQ.q_call rfl rfl rfl rfl (fun _ _ _ _ => trivial) ?_ (fun y K hI hG hK => by
      have HK := hide hK
      clear hK
      go_wp2_with fail
      exact unhide HK _ _ rfl trivial (Below.refl _ _))
  rintro v9 rfl
  ((try dsimp only); go_big_quiet_want; go_big_quiet_op; go_big_quiet_on; refine wpQuiet_nil ?_)
  refine Go.LaxQ.q_call rfl rfl rfl rfl (fun _ _ _ _ => trivial) ?_ (fun y K hI hG hK => by
      have HK := hide hK
      clear hK
      go_wp2_with fail
      exact unhide HK _ _ rfl trivial (Below.refl _ _))
  rintro v9 rfl
  ((try dsimp only); go_big_quiet_want; go_big_quiet_op; go_big_quiet_on; refine wpQuiet_nil ?_)
  (refine Go.LaxQ.walk_det rfl rfl rfl rfl rfl ?_; go_big_quiet_want; go_big_quiet_op; go_big_quiet_on; refine wpQuiet_nil ?_)
  (refine Go.LaxQ.walk_det rfl rfl rfl rfl rfl ?_; go_big_quiet_want; go_big_quiet_op; go_big_quiet_on; refine wpQuiet_nil ?_)
  refine Go.LaxQ.q_call rfl rfl rfl rfl (fun _ _ _ _ => trivial) ?_ (fun y K hI hG hK => by
      have HK := hide hK
      clear hK
      go_wp2_with fail
      exact unhide HK _ _ rfl trivial (Below.refl _ _))
  rintro v9 rfl
  ((try dsimp only); go_big_quiet_want; go_big_quiet_op; go_big_quiet_on; refine wpQuiet_nil ?_)
  refine Go.LaxQ.q_call rfl rfl rfl rfl (fun _ _ _ _ => trivial) ?_ (fun y K hI hG hK => by
      have HK := hide hK
      clear hK
      go_wp2_with fail
      exact unhide HK _ _ rfl trivial (Below.refl _ _))
  rintro v9 rfl
  ((try dsimp only); go_big_quiet_want; go_big_quiet_op; go_big_quiet_on; refine wpQuiet_nil ?_)
  (refine Go.LaxQ.walk_det rfl rfl rfl rfl rfl ?_; go_big_quiet_want; go_big_quiet_op; go_big_quiet_on; refine wpQuiet_nil ?_)
  (refine Go.LaxQ.walk_det rfl rfl rfl rfl rfl ?_; go_big_quiet_want; go_big_quiet_op; go_big_quiet_on; refine wpQuiet_nil ?_)
  refine Go.LaxQ.q_call rfl rfl rfl rfl (fun _ _ _ _ => trivial) ?_ (fun y K hI hG hK => by
      have HK := hide hK
      clear hK
      go_wp2_with fail
      exact unhide HK _ _ rfl trivial (Below.refl _ _))
  rintro v9 rfl
  ((try dsimp only); go_big_quiet_want; go_big_quiet_op; go_big_quiet_on; refine wpQuiet_nil ?_)
  refine Go.LaxQ.q_call rfl rfl rfl rfl (fun _ _ _ _ => trivial) ?_ (fun y K hI hG hK => by
      have HK := hide hK
      clear hK
      go_wp2_with fail
      exact unhide HK _ _ rfl trivial (Below.refl _ _))
  rintro v9 rfl
  ((try dsimp only); go_big_quiet_want; go_big_quiet_op; go_big_quiet_on; refine wpQuiet_nil ?_)
  (refine Go.LaxQ.walk_det rfl rfl rfl rfl rfl ?_; go_big_quiet_want; go_big_quiet_op; go_big_quiet_on; refine wpQuiet_nil ?_)
  refine Go.LaxQ.q_end ?_
  intro y hI hG
  clear hI hG
  go_wp2_with fail
  refine Go.LaxQ.region_guarded _ 16 3 [4, 5, 8, 9, 12, 13] [(1, fun v => v = .agg #[.int .u8 8, .int .u8 23]), (6, fun v => v = .bool false), (10, fun v => v = .bool false), (14, fun v => v = .bool false)] [] (fun _ => True) (by kernel_rfl) (by kernel_rfl) (by kernel_rfl) (by kernel_rfl) trivial (fun _ _ _ _ => trivial) (fun _ h => by cases h) (List.forall_mem_cons.2 ⟨⟨_, rfl⟩, List.forall_mem_cons.2 ⟨⟨_, rfl⟩, List.forall_mem_cons.2 ⟨⟨_, rfl⟩, List.forall_mem_cons.2 ⟨⟨_, rfl⟩, fun _ h => by cases h⟩⟩⟩⟩) ?_
  (refine Go.LaxQ.walk_det rfl rfl rfl rfl rfl ?_; go_big_quiet_want; go_big_quiet_op; go_big_quiet_on; refine wpQuiet_nil ?_)
  refine Go.LaxQ.q_call rfl rfl rfl rfl (fun _ _ _ _ => trivial) ?_ (fun y K hI hG hK => by
      go_wp2_with fail
      refine fmt73_ret _ _ ?_
      rintro _ w' rfl hb
      have hh := Go.Proofs.YgcoaaGreat.NatW.hide (hK _ w' rfl trivial hb)
      clear hK
      go_wp2_with fail
      exact Eq.mp (by kernel_rfl) (Go.Proofs.YgcoaaGreat.NatW.unhide hh))
  rintro v9 rfl
  ((try dsimp only); go_big_quiet_want; go_big_quiet_op; go_big_quiet_on; refine wpQuiet_nil ?_)
  (refine Go.LaxQ.walk_det rfl rfl rfl rfl rfl ?_; go_big_quiet_want; go_big_quiet_op; go_big_quiet_on; refine wpQuiet_nil ?_)
  (refine Go.LaxQ.walk_det rfl rfl rfl rfl rfl ?_; go_big_quiet_want; go_big_quiet_op; go_big_quiet_on; refine wpQuiet_nil ?_)
  (refine Go.LaxQ.walk_skip_mv rfl rfl ?_; (try dsimp only); go_big_quiet_want; go_big_quiet_op; go_big_quiet_on; refine wpQuiet_nil ?_)
  (refine Go.LaxQ.walk_skip_mv rfl rfl ?_; (try dsimp only); go_big_quiet_want; go_big_quiet_op; go_big_quiet_on; refine wpQuiet_nil ?_)
  refine Go.LaxQ.q_call rfl rfl rfl rfl (fun _ _ _ _ => trivial) ?_ (fun y K hI hG hK => by
      have HK := hide hK
      clear hK
      go_wp2_with fail
      exact unhide HK _ _ rfl trivial (Below.refl _ _))
  rintro v9 rfl
  ((try dsimp only); go_big_quiet_want; go_big_quiet_op; go_big_quiet_on; refine wpQuiet_nil ?_)
  (refine Go.LaxQ.walk_det rfl rfl rfl rfl rfl ?_; go_big_quiet_want; go_big_quiet_op; go_big_quiet_on; refine wpQuiet_nil ?_)
  (refine Go.LaxQ.walk_skip_mv rfl rfl ?_; (try dsimp only); go_big_quiet_want; go_big_quiet_op; go_big_quiet_on; refine wpQuiet_nil ?_)
  (refine Go.LaxQ.walk_skip_mv rfl rfl ?_; (try dsimp only); go_big_quiet_want; go_big_quiet_op; go_big_quiet_on; refine wpQuiet_nil ?_)
  refine Go.LaxQ.q_call rfl rfl rfl rfl (fun _ _ _ _ => trivial) ?_ (fun y K hI hG hK => by
      have HK := hide hK
      clear hK
      go_wp2_with fail
      exact unhide HK _ _ rfl trivial (Below.refl _ _))
  rintro v9 rfl
  ((try dsimp only); go_big_quiet_want; go_big_quiet_op; go_big_quiet_on; refine wpQuiet_nil ?_)
  (refine Go.LaxQ.walk_det rfl rfl rfl rfl rfl ?_; go_big_quiet_want; go_big_quiet_op; go_big_quiet_on; refine wpQuiet_nil ?_)
  (refine Go.LaxQ.walk_skip_mv rfl rfl ?_; (try dsimp only); go_big_quiet_want; go_big_quiet_op; go_big_quiet_on; refine wpQuiet_nil ?_)
  (refine Go.LaxQ.walk_skip_mv rfl rfl ?_; (try dsimp only); go_big_quiet_want; go_big_quiet_op; go_big_quiet_on; refine wpQuiet_nil ?_)
  refine Go.LaxQ.q_call rfl rfl rfl rfl (fun _ _ _ _ => trivial) ?_ (fun y K hI hG hK => by
      have HK := hide hK
      clear hK
      go_wp2_with fail
      exact unhide HK _ _ rfl trivial (Below.refl _ _))
  rintro v9 rfl
  ((try dsimp only); go_big_quiet_want; go_big_quiet_op; go_big_quiet_on; refine wpQuiet_nil ?_)
  (refine Go.LaxQ.walk_det rfl rfl rfl rfl rfl ?_; go_big_quiet_want; go_big_quiet_op; go_big_quiet_on; refine wpQuiet_nil ?_)
  refine Go.LaxQ.q_end ?_
  intro y hI hG
  clear hI hG
  go_wp2_with fail
  all_goals exact unhide HK _ (hB _)

set_option maxHeartbeats 2000000 in
theorem cl_8_neg (man q : Int) (um : U64 man) (q1 : -32768 ≤ q) (q2 : q ≤ 32767) (h1 : man ≤ 16777216) (h2 : -10 ≤ q) (h3 : q ≤ 10) (h4 : q < 0) : ∃ r, U64 r ∧ ∀ tb, DFT tb 107 #[fmt 8 23, .int .u64 man, .int .i16 q] (.tuple #[.int .u64 r, .bool true]) := by
  obtain ⟨c, m, e, hc, hr, hm, hT⟩ := ten32_ex (-q)
  obtain ⟨r, hq, hrl⟩ := fb_quo (int_nn .f32 man) hr hm
  have hrun : ∀ w, (binOp .quo 213 (.float .f32 (floatOfInt .f32 man)) (.float .f32 c)).run Oaag.prog w = .ok (.float .f32 r) w := fun w => run_float_arith w .quo 213 .f32 _ _ r hq
  have hrl' : r < 4294967296 := by
    have := w32
    rw [this] at hrl
    exact hrl
  have HT1 := hide hT
  clear hT hq hr hm hc
  refine ⟨(r : Int), ⟨by omega, by omega⟩, fun tb w K ho hK => ?_⟩
  have HK := hide hK
  clear hK
  have f1 : decide (man ≤ 16777216) = true := by simp; omega
  have f2 : decide (-10 ≤ q) = true := by simp; omega
  have f3 : decide (q ≤ 10) = true := by simp; omega
  obtain ⟨wb, x0, hwb, r0, hB, hZ⟩ := boxes1 w #[.int .u8 8, .int .u8 23] 23
  have c00 : ∀ x : Later wb, _ = some (.int .u8 8 : Value) := Later.cell r0 0 _ rfl
  have c01 : ∀ x : Later wb, _ = some (.int .u8 23 : Value) := Later.cell r0 1 _ rfl
  have hne : Nonempty (Later wb) := ⟨x0⟩
  clear r0 ho
  go_enter Oaag.func107, Oaag.ntmps107
  go_wp2_with fail
  refine Go.LaxQ.region_guarded _ 16 3 [4, 5, 8, 9, 12, 13] [(1, fun v => v = .agg #[.int .u8 11, .int .u8 52]), (6, fun v => v = .bool false), (10, fun v => v = .bool false), (14, fun v => v = .bool false)] [] (fun _ => True) (by kernel_rfl) (by kernel_rfl) (by kernel_rfl) (by kernel_rfl) trivial (fun _ _ _ _ => trivial) (fun _ h => by cases h) (List.forall_mem_cons.2 ⟨⟨_, rfl⟩, List.forall_mem_cons.2 ⟨⟨_, rfl⟩, List.forall_mem_cons.2 ⟨⟨_, rfl⟩, List.forall_mem_cons.2 ⟨⟨_, rfl⟩, fun _ h => by cases h⟩⟩⟩⟩) ?_
  (refine Go.LaxQ.walk_det rfl rfl rfl rfl rfl ?_; go_big_quiet_want; go_big_quiet_op; go_big_quiet_on; refine wpQuiet_nil ?_)
  refine Go.LaxQ.q_call rfl rfl rfl rfl (fun _ _ _ _ => trivial) ?_ (fun y K hI hG hK => by
      go_wp2_with fail
      refine fmt74_ret _ _ ?_
      rintro _ w' rfl hb
      have hh := Go.Proofs.YgcoaaGreat.NatW.hide (hK _ w' rfl trivial hb)
      clear hK
      go_wp2_with fail
      exact Eq.mp (by kernel_rfl) (Go.Proofs.YgcoaaGreat.NatW.unhide hh))
  rintro v9 rfl
  ((try dsimp only); go_big_quiet_want; go_big_quiet_op; go_big_quiet_on; refine wpQuiet_nil ?_)
  (refine Go.LaxQ.walk_det rfl rfl rfl rfl rfl ?_; go_big_quiet_want; go_big_quiet_op; go_big_quiet_on; refine wpQuiet_nil ?_)
  (refine Go.LaxQ.walk_det rfl rfl rfl rfl rfl ?_; go_big_quiet_want; go_big_quiet_op; go_big_quiet_on; refine wpQuiet_nil ?_)
  (refine Go.LaxQ.walk_skip_mv rfl rfl ?_; (try dsimp only); go_big_quiet_want; go_big_quiet_op; go_big_quiet_on; refine wpQuiet_nil ?_)
  (refine Go.LaxQ.walk_skip_mv rfl rfl ?_; (try dsimp only); go_big_quiet_want; go_big_quiet_op; go_big_quiet_on; refine wpQuiet_nil ?_)
  refine Go.LaxQ.q_call rfl rfl rfl rfl (fun _ _ _ _ => trivial) ?_ (fun y K hI hG hK => by
      have HK := hide hK
      clear hK
      go_wp2_with fail
      exact unhide HK _ _ rfl trivial (Below.refl _ _))
  rintro v9 rfl
  ((try dsimp only); go_big_quiet_want; go_big_quiet_op; go_big_quiet_on; refine wpQuiet_nil ?_)
  (refine Go.LaxQ.walk_det rfl rfl rfl rfl rfl ?_; go_big_quiet_want; go_big_quiet_op; go_big_quiet_on; refine wpQuiet_nil ?_)
  (refine Go.LaxQ.walk_skip_mv rfl rfl ?_; (try dsimp only); go_big_quiet_want; go_big_quiet_op; go_big_quiet_on; refine wpQuiet_nil ?_)
  (refine Go.LaxQ.walk_skip_mv rfl rfl ?_; (try dsimp only); go_big_quiet_want; go_big_quiet_op; go_big_quiet_on; refine wpQuiet_nil ?_)
  refine Go.LaxQ.q_call rfl rfl rfl rfl (fun _ _ _ _ => trivial) ?_ (fun y K hI hG hK => by
      have HK := hide hK
      clear hK
      go_wp2_with fail
      exact unhide HK _ _ rfl trivial (Below.refl _ _))
  rintro v9 rfl
  ((try dsimp only); go_big_quiet_want; go_big_quiet_op; go_big_quiet_on; refine wpQuiet_nil ?_)
  (refine Go.LaxQ.walk_det rfl rfl rfl rfl rfl ?_; go_big_quiet_want; go_big_quiet_op; go_big_quiet_on; refine wpQuiet_nil ?_)
  (refine Go.LaxQ.walk_skip_mv rfl rfl ?_; (try dsimp only); go_big_quiet_want; go_big_quiet_op; go_big_quiet_on; refine wpQuiet_nil ?_)
  (refine Go.LaxQ.walk_skip_mv rfl rfl ?_; (try dsimp only); go_big_quiet_want; go_big_quiet_op; go_big_quiet_on; refine wpQuiet_nil ?_)
  refine Go.LaxQ.q_call rfl rfl rfl rfl (fun _ _ _ _ => trivial) ?_ (fun y K hI hG hK => by
      have HK := hide hK
      clear hK
      go_wp2_with fail
      exact unhide HK _ _ rfl trivial (Below.refl _ _))
  rintro v9 rfl
  ((try dsimp only); go_big_quiet_want; go_big_quiet_op; go_big_quiet_on; refine wpQuiet_nil ?_)
  (refine Go.LaxQ.walk_det rfl rfl rfl rfl rfl ?_; go_big_quiet_want; go_big_quiet_op; go_big_quiet_on; refine wpQuiet_nil ?_)
  refine Go.LaxQ.q_end ?_
  intro y hI hG
  clear hI hG
  go_wp2_with fail
  refine Go.LaxQ.region_guarded _ 16 3 [] [(1, fun v => v = .agg #[.int .u8 8, .int .u8 23]), (5, fun v => v = .bool true), (6, fun v => v = .bool true), (9, fun v => v = .bool true), (10, fun v => v = .bool true), (13, fun v => v = .bool true), (14, fun v => v = .bool true)] [] (fun _ => True) (by kernel_rfl) (by kernel_rfl) (by kernel_rfl) (by kernel_rfl) trivial (fun _ _ _ _ => trivial) (fun _ h => by cases h) (List.forall_mem_cons.2 ⟨⟨_, rfl⟩, List.forall_mem_cons.2 ⟨⟨_, rfl⟩, List.forall_mem_cons.2 ⟨⟨_, rfl⟩, List.forall_mem_cons.2 ⟨⟨_, rfl⟩, List.forall_mem_cons.2 ⟨⟨_, rfl⟩, List.forall_mem_cons.2 ⟨⟨_, rfl⟩, List.forall_mem_cons.2 ⟨⟨_, rfl⟩, fun _ h => by cases h⟩⟩⟩⟩⟩⟩⟩) ?_
  (refine Go.LaxQ.walk_det rfl rfl rfl rfl rfl ?_; go_big_quiet_want; go_big_quiet_op; go_big_quiet_on; refine wpQuiet_nil ?_)
  refine Go.LaxQ.q_call rfl rfl rfl rfl (fun _ _ _ _ => trivial) ?_ (fun y K hI hG hK => by
      go_wp2_with fail
      refine fmt73_ret _ _ ?_
      rintro _ w' rfl hb
      have hh := Go.Proofs.YgcoaaGreat.NatW.hide (hK _ w' rfl trivial hb)
      clear hK
      go_wp2_with fail
      exact Eq.mp (by kernel_rfl) (Go.Proofs.YgcoaaGreat.NatW.unhide hh))
  rintro v9 rfl
  ((try dsimp only); go_big_quiet_want; go_big_quiet_op; go_big_quiet_on; refine wpQuiet_nil ?_)
  (refine Go.LaxQ.walk_det rfl rfl rfl rfl rfl ?_; go_big_quiet_want; go_big_quiet_op; go_big_quiet_on; refine wpQuiet_nil ?_)
  (refine Go.LaxQ.walk_det rfl rfl rfl rfl rfl ?_; go_big_quiet_want; go_big_quiet_op; go_big_quiet_on; refine wpQuiet_nil ?_)
  (refine Go.LaxQ.walk_det rfl rfl rfl rfl rfl ?_; go_big_quiet_want; go_big_quiet_op; go_big_quiet_on; refine wpQuiet_nil ?_)
  refine Go.LaxQ.q_call rfl rfl rfl rfl (fun _ _ _ _ => trivial) ?_ (fun y K hI hG hK => by
      have HK := hide hK
      clear hK
      go_wp2_with fail
      exact unhide HK _ _ rfl trivial (Below.refl _ _))
  rintro v9 rfl
  ((try dsimp only); go_big_quiet_want; go_big_quiet_op; go_big_quiet_on; refine wpQuiet_nil ?_)
  refine Go.LaxQ.q_call rfl rfl rfl rfl (fun _ _ _ _ => trivial) ?_ (fun y K hI hG hK => by
      have HK := hide hK
      clear hK
      go_wp2_with fail
      exact unhide HK _ _ rfl trivial (Below.refl _ _))
  rintro v9 rfl
  ((try dsimp only); go_big_quiet_want; go_big_quiet_op; go_big_quiet_on; refine wpQuiet_nil ?_)
  (refine Go.LaxQ.walk_det rfl rfl rfl rfl rfl ?_; go_big_quiet_want; go_big_quiet_op; go_big_quiet_on; refine wpQuiet_nil ?_)
  (refine Go.LaxQ.walk_det rfl rfl rfl rfl rfl ?_; go_big_quiet_want; go_big_quiet_op; go_big_quiet_on; refine wpQuiet_nil ?_)
  refine Go.LaxQ.q_call rfl rfl rfl rfl (fun _ _ _ _ => trivial) ?_ (fun y K hI hG hK => by
      have HK := hide hK
      clear hK
      go_wp2_with fail
      exact unhide HK _ _ rfl trivial (Below.refl _ _))
  rintro v9 rfl
  ((try dsimp only); go_big_quiet_want; go_big_quiet_op; go_big_quiet_on; refine wpQuiet_nil ?_)
  refine Go.LaxQ.q_call rfl rfl rfl rfl (fun _ _ _ _ => trivial) ?_ (fun y K hI hG hK => by
      have HK := hide hK
      clear hK
      go_wp2_with fail
      exact unhide HK _ _ rfl trivial (Below.refl _ _))
  rintro v9 rfl
  ((try dsimp only); go_big_quiet_want; go_big_quiet_op; go_big_quiet_on; refine wpQuiet_nil ?_)
  (refine Go.LaxQ.walk_det rfl rfl rfl rfl rfl ?_; go_big_quiet_want; go_big_quiet_op; go_big_quiet_on; refine wpQuiet_nil ?_)
  (refine Go.LaxQ.walk_det rfl rfl rfl rfl rfl ?_; go_big_quiet_want; go_big_quiet_op; go_big_quiet_on; refine wpQuiet_nil ?_)
  refine Go.LaxQ.q_call rfl rfl rfl rfl (fun _ _ _ _ => trivial) ?_ (fun y K hI hG hK => by
      have HK := hide hK
      clear hK
      go_wp2_with fail
      exact unhide HK _ _ rfl trivial (Below.refl _ _))
  rintro v9 rfl
  ((try dsimp only); go_big_quiet_want; go_big_quiet_op; go_big_quiet_on; refine wpQuiet_nil ?_)
  refine Go.LaxQ.q_call rfl rfl rfl rfl (fun _ _ _ _ => trivial) ?_ (fun y K hI hG hK => by
      have HK := hide hK
      clear hK
      go_wp2_with fail
      exact unhide HK _ _ rfl trivial (Below.refl _ _))
  rintro v9 rfl
  ((try dsimp only); go_big_quiet_want; go_big_quiet_op; go_big_quiet_on; refine wpQuiet_nil ?_)
  (refine Go.LaxQ.walk_det rfl rfl rfl rfl rfl ?_; go_big_quiet_want; go_big_quiet_op; go_big_quiet_on; refine wpQuiet_nil ?_)
  refine Go.LaxQ.q_end ?_
  intro y hI hG
  clear hI hG
  go_wp2_with (first
    | ((with_reducible refine at_later 201 ?_); refine Ret.run (NRet.ret (unhide HT1)) _ ?_; rintro _ y__ rfl)
    | ((with_reducible refine at_later 200 ?_); refine Ret.run (NRet.ret (cbits32 r)) _ ?_; rintro _ y__ rfl)
    | fail)
  all_goals exact unhide HK _ (hB _)

set_option maxHeartbeats 2000000 in
theorem cl_8_pos (man q : Int) (um : U64 man) (q1 : -32768 ≤ q) (q2 : q ≤ 32767) (h1 : man ≤ 16777216) (h2 : -10 ≤ q) (h3 : q ≤ 10) (h4 : 0 ≤ q) : ∃ r, U64 r ∧ ∀ tb, DFT tb 107 #[fmt 8 23, .int .u64 man, .int .i16 q] (.tuple #[.int .u64 r, .bool true]) := by
  obtain ⟨c, m, e, hc, hr, hm, hT⟩ := ten32_ex q
  obtain ⟨r, hq, hrl⟩ := fb_mul (int_nn .f32 man) hr hm
  have hrun : ∀ w, (binOp .mul 213 (.float .f32 (floatOfInt .f32 man)) (.float .f32 c)).run Oaag.prog w = .ok (.float .f32 r) w := fun w => run_float_arith w .mul 213 .f32 _ _ r hq
  have hrl' : r < 4294967296 := by
    have := w32
    rw [this] at hrl
    exact hrl
  have HT1 := hide hT
  clear hT hq hr hm hc
  refine ⟨(r : Int), ⟨by omega, by omega⟩, fun tb w K ho hK => ?_⟩
  have HK := hide hK
  clear hK
  have f1 : decide (man ≤ 16777216) = true := by simp; omega
  have f2 : decide (-10 ≤ q) = true := by simp; omega
  have f3 : decide (q ≤ 10) = true := by simp; omega
  obtain ⟨wb, x0, hwb, r0, hB, hZ⟩ := boxes1 w #[.int .u8 8, .int .u8 23] 23
  have c00 : ∀ x : Later wb, _ = some (.int .u8 8 : Value) := Later.cell r0 0 _ rfl
  have c01 : ∀ x : Later wb, _ = some (.int .u8 23 : Value) := Later.cell r0 1 _ rfl
  have hne : Nonempty (Later wb) := ⟨x0⟩
  clear r0 ho
  go_enter Oaag.func107, Oaag.ntmps107
  go_wp2_with fail
  refine Go.LaxQ.region_guarded _ 16 3 [4, 5, 8, 9, 12, 13] [(1, fun v => v = .agg #[.int .u8 11, .int .u8 52]), (6, fun v => v = .bool false), (10, fun v => v = .bool false), (14, fun v => v = .bool false)] [] (fun _ => True) (by kernel_rfl) (by kernel_rfl) (by kernel_rfl) (by kernel_rfl) trivial (fun _ _ _ _ => trivial) (fun _ h => by cases h) (List.forall_mem_cons.2 ⟨⟨_, rfl⟩, List.forall_mem_cons.2 ⟨⟨_, rfl⟩, List.forall_mem_cons.2 ⟨⟨_, rfl⟩, List.forall_mem_cons.2 ⟨⟨_, rfl⟩, fun _ h => by cases h⟩⟩⟩⟩) ?_
  (refine Go.LaxQ.walk_det rfl rfl rfl rfl rfl ?_; go_big_quiet_want; go_big_quiet_op; go_big_quiet_on; refine wpQuiet_nil ?_)
  refine Go.LaxQ.q_call rfl rfl rfl rfl (fun _ _ _ _ => trivial) ?_ (fun y K hI hG hK => by
      go_wp2_with fail
      refine fmt74_ret _ _ ?_
      rintro _ w' rfl hb
      have hh := Go.Proofs.YgcoaaGreat.NatW.hide (hK _ w' rfl trivial hb)
      clear hK
      go_wp2_with fail
      exact Eq.mp (by kernel_rfl) (Go.Proofs.YgcoaaGreat.NatW.unhide hh))
  rintro v9 rfl
  ((try dsimp only); go_big_quiet_want; go_big_quiet_op; go_big_quiet_on; refine wpQuiet_nil ?_)
  (refine Go.LaxQ.walk_det rfl rfl rfl rfl rfl ?_; go_big_quiet_want; go_big_quiet_op; go_big_quiet_on; refine wpQuiet_nil ?_)
  (refine Go.LaxQ.walk_det rfl rfl rfl rfl rfl ?_; go_big_quiet_want; go_big_quiet_op; go_big_quiet_on; refine wpQuiet_nil ?_)
  (refine Go.LaxQ.walk_skip_mv rfl rfl ?_; (try dsimp only); go_big_quiet_want; go_big_quiet_op; go_big_quiet_on; refine wpQuiet_nil ?_)
  (refine Go.LaxQ.walk_skip_mv rfl rfl ?_; (try dsimp only); go_big_quiet_want; go_big_quiet_op; go_big_quiet_on; refine wpQuiet_nil ?_)
  refine Go.LaxQ.q_call rfl rfl rfl rfl (fun _ _ _ _ => trivial) ?_ (fun y K hI hG hK => by
      have HK := hide hK
      clear hK
      go_wp2_with fail
      exact unhide HK _ _ rfl trivial (Below.refl _ _))
  rintro v9 rfl
  ((try dsimp only); go_big_quiet_want; go_big_quiet_op; go_big_quiet_on; refine wpQuiet_nil ?_)
  (refine Go.LaxQ.walk_det rfl rfl rfl rfl rfl ?_; go_big_quiet_want; go_big_quiet_op; go_big_quiet_on; refine wpQuiet_nil ?_)
  (refine Go.LaxQ.walk_skip_mv rfl rfl ?_; (try dsimp only); go_big_quiet_want; go_big_quiet_op; go_big_quiet_on; refine wpQuiet_nil ?_)
  (refine Go.LaxQ.walk_skip_mv rfl rfl ?_; (try dsimp only); go_big_quiet_want; go_big_quiet_op; go_big_quiet_on; refine wpQuiet_nil ?_)
  refine Go.LaxQ.q_call rfl rfl rfl rfl (fun _ _ _ _ => trivial) ?_ (fun y K hI hG hK => by
      have HK := hide hK
      clear hK
      go_wp2_with fail
      exact unhide HK _ _ rfl trivial (Below.refl _ _))
  rintro v9 rfl
  ((try dsimp only); go_big_quiet_want; go_big_quiet_op; go_big_quiet_on; refine wpQuiet_nil ?_)
  (refine Go.LaxQ.walk_det rfl rfl rfl rfl rfl ?_; go_big_quiet_want; go_big_quiet_op; go_big_quiet_on; refine wpQuiet_nil ?_)
  (refine Go.LaxQ.walk_skip_mv rfl rfl ?_; (try dsimp only); go_big_quiet_want; go_big_quiet_op; go_big_quiet_on; refine wpQuiet_nil ?_)
  (refine Go.LaxQ.walk_skip_mv rfl rfl ?_; (try dsimp only); go_big_quiet_want; go_big_quiet_op; go_big_quiet_on; refine wpQuiet_nil ?_)
  refine Go.LaxQ.q_call rfl rfl rfl rfl (fun _ _ _ _ => trivial) ?_ (fun y K hI hG hK => by
      have HK := hide hK
      clear hK
      go_wp2_with fail
      exact unhide HK _ _ rfl trivial (Below.refl _ _))
  rintro v9 rfl
  ((try dsimp only); go_big_quiet_want; go_big_quiet_op; go_big_quiet_on; refine wpQuiet_nil ?_)
  (refine Go.LaxQ.walk_det rfl rfl rfl rfl rfl ?_; go_big_quiet_want; go_big_quiet_op; go_big_quiet_on; refine wpQuiet_nil ?_)
  refine Go.LaxQ.q_end ?_
  intro y hI hG
  clear hI hG
  go_wp2_with fail
  refine Go.LaxQ.region_guarded _ 16 3 [] [(1, fun v => v = .agg #[.int .u8 8, .int .u8 23]), (5, fun v => v = .bool true), (6, fun v => v = .bool true), (9, fun v => v = .bool true), (10, fun v => v = .bool true), (13, fun v => v = .bool true), (14, fun v => v = .bool true)] [] (fun _ => True) (by kernel_rfl) (by kernel_rfl) (by kernel_rfl) (by kernel_rfl) trivial (fun _ _ _ _ => trivial) (fun _ h => by cases h) (List.forall_mem_cons.2 ⟨⟨_, rfl⟩, List.forall_mem_cons.2 ⟨⟨_, rfl⟩, List.forall_mem_cons.2 ⟨⟨_, rfl⟩, List.forall_mem_cons.2 ⟨⟨_, rfl⟩, List.forall_mem_cons.2 ⟨⟨_, rfl⟩, List.forall_mem_cons.2 ⟨⟨_, rfl⟩, List.forall_mem_cons.2 ⟨⟨_, rfl⟩, fun _ h => by cases h⟩⟩⟩⟩⟩⟩⟩) ?_
  (refine Go.LaxQ.walk_det rfl rfl rfl rfl rfl ?_; go_big_quiet_want; go_big_quiet_op; go_big_quiet_on; refine wpQuiet_nil ?_)
  refine Go.LaxQ.q_call rfl rfl rfl rfl (fun _ _ _ _ => trivial) ?_ (fun y K hI hG hK => by
      go_wp2_with fail
      refine fmt73_ret _ _ ?_
      rintro _ w' rfl hb
      have hh := Go.Proofs.YgcoaaGreat.NatW.hide (hK _ w' rfl trivial hb)
      clear hK
      go_wp2_with fail
      exact Eq.mp (by kernel_rfl) (Go.Proofs.YgcoaaGreat.NatW.unhide hh))
  rintro v9 rfl
  ((try dsimp only); go_big_quiet_want; go_big_quiet_op; go_big_quiet_on; refine wpQuiet_nil ?_)
  (refine Go.LaxQ.walk_det rfl rfl rfl rfl rfl ?_; go_big_quiet_want; go_big_quiet_op; go_big_quiet_on; refine wpQuiet_nil ?_)
  (refine Go.LaxQ.walk_det rfl rfl rfl rfl rfl ?_; go_big_quiet_want; go_big_quiet_op; go_big_quiet_on; refine wpQuiet_nil ?_)
  (refine Go.LaxQ.walk_det rfl rfl rfl rfl rfl ?_; go_big_quiet_want; go_big_quiet_op; go_big_quiet_on; refine wpQuiet_nil ?_)
  refine Go.LaxQ.q_call rfl rfl rfl rfl (fun _ _ _ _ => trivial) ?_ (fun y K hI hG hK => by
      have HK := hide hK
      clear hK
      go_wp2_with fail
      exact unhide HK _ _ rfl trivial (Below.refl _ _))
  rintro v9 rfl
  ((try dsimp only); go_big_quiet_want; go_big_quiet_op; go_big_quiet_on; refine wpQuiet_nil ?_)
  refine Go.LaxQ.q_call rfl rfl rfl rfl (fun _ _ _ _ => trivial) ?_ (fun y K hI hG hK => by
      have HK := hide hK
      clear hK
      go_wp2_with fail
      exact unhide HK _ _ rfl trivial (Below.refl _ _))
  rintro v9 rfl
  ((try dsimp only); go_big_quiet_want; go_big_quiet_op; go_big_quiet_on; refine wpQuiet_nil ?_)
  (refine Go.LaxQ.walk_det rfl rfl rfl rfl rfl ?_; go_big_quiet_want; go_big_quiet_op; go_big_quiet_on; refine wpQuiet_nil ?_)
  (refine Go.LaxQ.walk_det rfl rfl rfl rfl rfl ?_; go_big_quiet_want; go_big_quiet_op; go_big_quiet_on; refine wpQuiet_nil ?_)
  refine Go.LaxQ.q_call rfl rfl rfl rfl (fun _ _ _ _ => trivial) ?_ (fun y K hI hG hK => by
      have HK := hide hK
      clear hK
      go_wp2_with fail
      exact unhide HK _ _ rfl trivial (Below.refl _ _))
  rintro v9 rfl
  ((try dsimp only); go_big_quiet_want; go_big_quiet_op; go_big_quiet_on; refine wpQuiet_nil ?_)
  refine Go.LaxQ.q_call rfl rfl rfl rfl (fun _ _ _ _ => trivial) ?_ (fun y K hI hG hK => by
      have HK := hide hK
      clear hK
      go_wp2_with fail
      exact unhide HK _ _ rfl trivial (Below.refl _ _))
  rintro v9 rfl
  ((try dsimp only); go_big_quiet_want; go_big_quiet_op; go_big_quiet_on; refine wpQuiet_nil ?_)
  (refine Go.LaxQ.walk_det rfl rfl rfl rfl rfl ?_; go_big_quiet_want; go_big_quiet_op; go_big_quiet_on; refine wpQuiet_nil ?_)
  (refine Go.LaxQ.walk_det rfl rfl rfl rfl rfl ?_; go_big_quiet_want; go_big_quiet_op; go_big_quiet_on; refine wpQuiet_nil ?_)
  refine Go.LaxQ.q_call rfl rfl rfl rfl (fun _ _ _ _ => trivial) ?_ (fun y K hI hG hK => by
      have HK := hide hK
      clear hK
      go_wp2_with fail
      exact unhide HK _ _ rfl trivial (Below.refl _ _))
  rintro v9 rfl
  ((try dsimp only); go_big_quiet_want; go_big_quiet_op; go_big_quiet_on; refine wpQuiet_nil ?_)
  refine Go.LaxQ.q_call rfl rfl rfl rfl (fun _ _ _ _ => trivial) ?_ (fun y K hI hG hK => by
      have HK := hide hK
      clear hK
      go_wp2_with fail
      exact unhide HK _ _ rfl trivial (Below.refl _ _))
  rintro v9 rfl
  ((try dsimp only); go_big_quiet_want; go_big_quiet_op; go_big_quiet_on; refine wpQuiet_nil ?_)
  (refine Go.LaxQ.walk_det rfl rfl rfl rfl rfl ?_; go_big_quiet_want; go_big_quiet_op; go_big_quiet_on; refine wpQuiet_nil ?_)
  refine Go.LaxQ.q_end ?_
  intro y hI hG
  clear hI hG
  go_wp2_with (first
    | ((with_reducible refine at_later 201 ?_); refine Ret.run (NRet.ret (unhide HT1)) _ ?_; rintro _ y__ rfl)
    | ((with_reducible refine at_later 200 ?_); refine Ret.run (NRet.ret (cbits32 r)) _ ?_; rintro _ y__ rfl)
    | fail)
  all_goals exact unhide HK _ (hB _)

set_option maxHeartbeats 2000000 in
theorem cl_8_no1 (man q : Int) (um : U64 man) (q1 : -32768 ≤ q) (q2 : q ≤ 32767) (h1 : 16777216 < man) : ∃ r, U64 r ∧ ∀ tb, DFT tb 107 #[fmt 8 23, .int .u64 man, .int .i16 q] (.tuple #[.int .u64 r, .bool false]) := by
  refine ⟨0, u64_zero, fun tb w K ho hK => ?_⟩
  have HK := hide hK
  clear hK
  have f1 : decide (man ≤ 16777216) = false := by simp; omega
  obtain ⟨wb, x0, hwb, r0, hB, hZ⟩ := boxes1 w #[.int .u8 8, .int .u8 23] 23
  have c00 : ∀ x : Later wb, _ = some (.int .u8 8 : Value) := Later.cell r0 0 _ rfl
  have c01 : ∀ x : Later wb, _ = some (.int .u8 23 : Value) := Later.cell r0 1 _ rfl
  have hne : Nonempty (Later wb) := ⟨x0⟩
  clear r0 ho
  go_enter Oaag.func107, Oaag.ntmps107
  go_wp2_with fail
  refine Go.LaxQ.region_guarded _ 16 3 [4, 5, 8, 9, 12, 13] [(1, fun v => v = .agg #[.int .u8 11, .int .u8 52]), (6, fun v => v = .bool false), (10, fun v => v = .bool false), (14, fun v => v = .bool false)] [] (fun _ => True) (by kernel_rfl) (by kernel_rfl) (by kernel_rfl) (by kernel_rfl) trivial (fun _ _ _ _ => trivial) (fun _ h => by cases h) (List.forall_mem_cons.2 ⟨⟨_, rfl⟩, List.forall_mem_cons.2 ⟨⟨_, rfl⟩, List.forall_mem_cons.2 ⟨⟨_, rfl⟩, List.forall_mem_cons.2 ⟨⟨_, rfl⟩, fun _ h => by cases h⟩⟩⟩⟩) ?_
  (refine Go.LaxQ.walk_det rfl rfl rfl rfl rfl ?_; go_big_quiet_want; go_big_quiet_op; go_big_quiet_on; refine wpQuiet_nil ?_)
  refine Go.LaxQ.q_call rfl rfl rfl rfl (fun _ _ _ _ => trivial) ?_ (fun y K hI hG hK => by
      go_wp2_with fail
      refine fmt74_ret _ _ ?_
      rintro _ w' rfl hb
      have hh := Go.Proofs.YgcoaaGreat.NatW.hide (hK _ w' rfl trivial hb)
      clear hK
      go_wp2_with fail
      exact Eq.mp (by kernel_rfl) (Go.Proofs.YgcoaaGreat.NatW.unhide hh))
  rintro v9 rfl
  ((try dsimp only); go_big_quiet_want; go_big_quiet_op; go_big_quiet_on; refine wpQuiet_nil ?_)
  (refine Go.LaxQ.walk_det rfl rfl rfl rfl rfl ?_; go_big_quiet_want; go_big_quiet_op; go_big_quiet_on; refine wpQuiet_nil ?_)
  (refine Go.LaxQ.walk_det rfl rfl rfl rfl rfl ?_; go_big_quiet_want; go_big_quiet_op; go_big_quiet_on; refine wpQuiet_nil ?_)
  (refine Go.LaxQ.walk_skip_mv rfl rfl ?_; (try dsimp only); go_big_quiet_want; go_big_quiet_op; go_big_quiet_on; refine wpQuiet_nil ?_)
  (refine Go.LaxQ.walk_skip_mv rfl rfl ?_; (try dsimp only); go_big_quiet_want; go_big_quiet_op; go_big_quiet_on; refine wpQuiet_nil ?_)
  refine Go.LaxQ.q_call rfl rfl rfl rfl (fun _ _ _ _ => trivial) ?_ (fun y K hI hG hK => by
      have HK := hide hK
      clear hK
      go_wp2_with fail
      exact unhide HK _ _ rfl trivial (Below.refl _ _))
  rintro v9 rfl
  ((try dsimp only); go_big_quiet_want; go_big_quiet_op; go_big_quiet_on; refine wpQuiet_nil ?_)
  (refine Go.LaxQ.walk_det rfl rfl rfl rfl rfl ?_; go_big_quiet_want; go_big_quiet_op; go_big_quiet_on; refine wpQuiet_nil ?_)
  (refine Go.LaxQ.walk_skip_mv rfl rfl ?_; (try dsimp only); go_big_quiet_want; go_big_quiet_op; go_big_quiet_on; refine wpQuiet_nil ?_)
  (refine Go.LaxQ.walk_skip_mv rfl rfl ?_; (try dsimp only); go_big_quiet_want; go_big_quiet_op; go_big_quiet_on; refine wpQuiet_nil ?_)
  refine Go.LaxQ.q_call rfl rfl rfl rfl (fun _ _ _ _ => trivial) ?_ (fun y K hI hG hK => by
      have HK := hide hK
      clear hK
      go_wp2_with fail
      exact unhide HK _ _ rfl trivial (Below.refl _ _))
  rintro v9 rfl
  ((try dsimp only); go_big_quiet_want; go_big_quiet_op; go_big_quiet_on; refine wpQuiet_nil ?_)
  (refine Go.LaxQ.walk_det rfl rfl rfl rfl rfl ?_; go_big_quiet_want; go_big_quiet_op; go_big_quiet_on; refine wpQuiet_nil ?_)
  (refine Go.LaxQ.walk_skip_mv rfl rfl ?_; (try dsimp only); go_big_quiet_want; go_big_quiet_op; go_big_quiet_on; refine wpQuiet_nil ?_)
  (refine Go.LaxQ.walk_skip_mv rfl rfl ?_; (try dsimp only); go_big_quiet_want; go_big_quiet_op; go_big_quiet_on; refine wpQuiet_nil ?_)
  refine Go.LaxQ.q_call rfl rfl rfl rfl (fun _ _ _ _ => trivial) ?_ (fun y K hI hG hK => by
      have HK := hide hK
      clear hK
      go_wp2_with fail
      exact unhide HK _ _ rfl trivial (Below.refl _ _))
  rintro v9 rfl
  ((try dsimp only); go_big_quiet_want; go_big_quiet_op; go_big_quiet_on; refine wpQuiet_nil ?_)
  (refine Go.LaxQ.walk_det rfl rfl rfl rfl rfl ?_; go_big_quiet_want; go_big_quiet_op; go_big_quiet_on; refine wpQuiet_nil ?_)
  refine Go.LaxQ.q_end ?_
  intro y hI hG
  clear hI hG
  go_wp2_with fail
  refine Go.LaxQ.region_guarded _ 16 3 [8, 9, 12, 13] [(1, fun v => v = .agg #[.int .u8 8, .int .u8 23]), (5, fun v => v = .bool false), (6, fun v => v = .bool false), (10, fun v => v = .bool false), (14, fun v => v = .bool false)] [] (fun _ => True) (by kernel_rfl) (by kernel_rfl) (by kernel_rfl) (by kernel_rfl) trivial (fun _ _ _ _ => trivial) (fun _ h => by cases h) (List.forall_mem_cons.2 ⟨⟨_, rfl⟩, List.forall_mem_cons.2 ⟨⟨_, rfl⟩, List.forall_mem_cons.2 ⟨⟨_, rfl⟩, List.forall_mem_cons.2 ⟨⟨_, rfl⟩, List.forall_mem_cons.2 ⟨⟨_, rfl⟩, fun _ h => by cases h⟩⟩⟩⟩⟩) ?_
  (refine Go.LaxQ.walk_det rfl rfl rfl rfl rfl ?_; go_big_quiet_want; go_big_quiet_op; go_big_quiet_on; refine wpQuiet_nil ?_)
  refine Go.LaxQ.q_call rfl rfl rfl rfl (fun _ _ _ _ => trivial) ?_ (fun y K hI hG hK => by
      go_wp2_with fail
      refine fmt73_ret _ _ ?_
      rintro _ w' rfl hb
      have hh := Go.Proofs.YgcoaaGreat.NatW.hide (hK _ w' rfl trivial hb)
      clear hK
      go_wp2_with fail
      exact Eq.mp (by kernel_rfl) (Go.Proofs.YgcoaaGreat.NatW.unhide hh))
  rintro v9 rfl
  ((try dsimp only); go_big_quiet_want; go_big_quiet_op; go_big_quiet_on; refine wpQuiet_nil ?_)
  (refine Go.LaxQ.walk_det rfl rfl rfl rfl rfl ?_; go_big_quiet_want; go_big_quiet_op; go_big_quiet_on; refine wpQuiet_nil ?_)
  (refine Go.LaxQ.walk_det rfl rfl rfl rfl rfl ?_; go_big_quiet_want; go_big_quiet_op; go_big_quiet_on; refine wpQuiet_nil ?_)
  (refine Go.LaxQ.walk_det rfl rfl rfl rfl rfl ?_; go_big_quiet_want; go_big_quiet_op; go_big_quiet_on; refine wpQuiet_nil ?_)
  refine Go.LaxQ.q_call rfl rfl rfl rfl (fun _ _ _ _ => trivial) ?_ (fun y K hI hG hK => by
      have HK := hide hK
      clear hK
      go_wp2_with fail
      exact unhide HK _ _ rfl trivial (Below.refl _ _))
  rintro v9 rfl
  ((try dsimp only); go_big_quiet_want; go_big_quiet_op; go_big_quiet_on; refine wpQuiet_nil ?_)
  refine Go.LaxQ.q_call rfl rfl rfl rfl (fun _ _ _ _ => trivial) ?_ (fun y K hI hG hK => by
      have HK := hide hK
      clear hK
      go_wp2_with fail
      exact unhide HK _ _ rfl trivial (Below.refl _ _))
  rintro v9 rfl
  ((try dsimp only); go_big_quiet_want; go_big_quiet_op; go_big_quiet_on; refine wpQuiet_nil ?_)
  (refine Go.LaxQ.walk_det rfl rfl rfl rfl rfl ?_; go_big_quiet_want; go_big_quiet_op; go_big_quiet_on; refine wpQuiet_nil ?_)
  (refine Go.LaxQ.walk_skip_mv rfl rfl ?_; (try dsimp only); go_big_quiet_want; go_big_quiet_op; go_big_quiet_on; refine wpQuiet_nil ?_)
  (refine Go.LaxQ.walk_skip_mv rfl rfl ?_; (try dsimp only); go_big_quiet_want; go_big_quiet_op; go_big_quiet_on; refine wpQuiet_nil ?_)
  refine Go.LaxQ.q_call rfl rfl rfl rfl (fun _ _ _ _ => trivial) ?_ (fun y K hI hG hK => by
      have HK := hide hK
      clear hK
      go_wp2_with fail
      exact unhide HK _ _ rfl trivial (Below.refl _ _))
  rintro v9 rfl
  ((try dsimp only); go_big_quiet_want; go_big_quiet_op; go_big_quiet_on; refine wpQuiet_nil ?_)
  (refine Go.LaxQ.walk_det rfl rfl rfl rfl rfl ?_; go_big_quiet_want; go_big_quiet_op; go_big_quiet_on; refine wpQuiet_nil ?_)
  (refine Go.LaxQ.walk_skip_mv rfl rfl ?_; (try dsimp only); go_big_quiet_want; go_big_quiet_op; go_big_quiet_on; refine wpQuiet_nil ?_)
  (refine Go.LaxQ.walk_skip_mv rfl rfl ?_; (try dsimp only); go_big_quiet_want; go_big_quiet_op; go_big_quiet_on; refine wpQuiet_nil ?_)
  refine Go.LaxQ.q_call rfl rfl rfl rfl (fun _ _ _ _ => trivial) ?_ (fun y K hI hG hK => by
      have HK := hide hK
      clear hK
      go_wp2_with fail
      exact unhide HK _ _ rfl trivial (Below.refl _ _))
  rintro v9 rfl
  ((try dsimp only); go_big_quiet_want; go_big_quiet_op; go_big_quiet_on; refine wpQuiet_nil ?_)
  (refine Go.LaxQ.walk_det rfl rfl rfl rfl rfl ?_; go_big_quiet_want; go_big_quiet_op; go_big_quiet_on; refine wpQuiet_nil ?_)
  refine Go.LaxQ.q_end ?_
  intro y hI hG
  clear hI hG
  go_wp2_with fail
  all_goals exact unhide HK _ (hB _)

set_option maxHeartbeats 2000000 in
theorem cl_8_no2 (man q : Int) (um : U64 man) (q1 : -32768 ≤ q) (q2 : q ≤ 32767) (h1 : man ≤ 16777216) (h2 : q < -10) : ∃ r, U64 r ∧ ∀ tb, DFT tb 107 #[fmt 8 23, .int .u64 man, .int .i16 q] (.tuple #[.int .u64 r, .bool false]) := by
  refine ⟨0, u64_zero, fun tb w K ho hK => ?_⟩
  have HK := hide hK
  clear hK
  have f1 : decide (man ≤ 16777216) = true := by simp; omega
  have f2 : decide (-10 ≤ q) = false := by simp; omega
  obtain ⟨wb, x0, hwb, r0, hB, hZ⟩ := boxes1 w #[.int .u8 8, .int .u8 23] 23
  have c00 : ∀ x : Later wb, _ = some (.int .u8 8 : Value) := Later.cell r0 0 _ rfl
  have c01 : ∀ x : Later wb, _ = some (.int .u8 23 : Value) := Later.cell r0 1 _ rfl
  have hne : Nonempty (Later wb) := ⟨x0⟩
  clear r0 ho
  go_enter Oaag.func107, Oaag.ntmps107
  go_wp2_with fail
  refine Go.LaxQ.region_guarded _ 16 3 [4, 5, 8, 9, 12, 13] [(1, fun v => v = .agg #[.int .u8 11, .int .u8 52]), (6, fun v => v = .bool false), (10, fun v => v = .bool false), (14, fun v => v = .bool false)] [] (fun _ => True) (by kernel_rfl) (by kernel_rfl) (by kernel_rfl) (by kernel_rfl) trivial (fun _ _ _ _ => trivial) (fun _ h => by cases h) (List.forall_mem_cons.2 ⟨⟨_, rfl⟩, List.forall_mem_cons.2 ⟨⟨_, rfl⟩, List.forall_mem_cons.2 ⟨⟨_, rfl⟩, List.forall_mem_cons.2 ⟨⟨_, rfl⟩, fun _ h => by cases h⟩⟩⟩⟩) ?_
  (refine Go.LaxQ.walk_det rfl rfl rfl rfl rfl ?_; go_big_quiet_want; go_big_quiet_op; go_big_quiet_on; refine wpQuiet_nil ?_)
  refine Go.LaxQ.q_call rfl rfl rfl rfl (fun _ _ _ _ => trivial) ?_ (fun y K hI hG hK => by
      go_wp2_with fail
      refine fmt74_ret _ _ ?_
      rintro _ w' rfl hb
      have hh := Go.Proofs.YgcoaaGreat.NatW.hide (hK _ w' rfl trivial hb)
      clear hK
      go_wp2_with fail
      exact Eq.mp (by kernel_rfl) (Go.Proofs.YgcoaaGreat.NatW.unhide hh))
  rintro v9 rfl
  ((try dsimp only); go_big_quiet_want; go_big_quiet_op; go_big_quiet_on; refine wpQuiet_nil ?_)
  (refine Go.LaxQ.walk_det rfl rfl rfl rfl rfl ?_; go_big_quiet_want; go_big_quiet_op; go_big_quiet_on; refine wpQuiet_nil ?_)
  (refine Go.LaxQ.walk_det rfl rfl rfl rfl rfl ?_; go_big_quiet_want; go_big_quiet_op; go_big_quiet_on; refine wpQuiet_nil ?_)
  (refine Go.LaxQ.walk_skip_mv rfl rfl ?_; (try dsimp only); go_big_quiet_want; go_big_quiet_op; go_big_quiet_on; refine wpQuiet_nil ?_)
  (refine Go.LaxQ.walk_skip_mv rfl rfl ?_; (try dsimp only); go_big_quiet_want; go_big_quiet_op; go_big_quiet_on; refine wpQuiet_nil ?_)
  refine Go.LaxQ.q_call rfl rfl rfl rfl (fun _ _ _ _ => trivial) ?_ (fun y K hI hG hK => by
      have HK := hide hK
      clear hK
      go_wp2_with fail
      exact unhide HK _ _ rfl trivial (Below.refl _ _))
  rintro v9 rfl
  ((try dsimp only); go_big_quiet_want; go_big_quiet_op; go_big_quiet_on; refine wpQuiet_nil ?_)
  (refine Go.LaxQ.walk_det rfl rfl rfl rfl rfl ?_; go_big_quiet_want; go_big_quiet_op; go_big_quiet_on; refine wpQuiet_nil ?_)
  (refine Go.LaxQ.walk_skip_mv rfl rfl ?_; (try dsimp only); go_big_quiet_want; go_big_quiet_op; go_big_quiet_on; refine wpQuiet_nil ?_)
  (refine Go.LaxQ.walk_skip_mv rfl rfl ?_; (try dsimp only); go_big_quiet_want; go_big_quiet_op; go_big_quiet_on; refine wpQuiet_nil ?_)
  refine Go.LaxQ.q_call rfl rfl rfl rfl (fun _ _ _ _ => trivial) ?_ (fun y K hI hG hK => by
      have HK := hide hK
      clear hK
      go_wp2_with fail
      exact unhide HK _ _ rfl trivial (Below.refl _ _))
  rintro v9 rfl
  ((try dsimp only); go_big_quiet_want; go_big_quiet_op; go_big_quiet_on; refine wpQuiet_nil ?_)
  (refine Go.LaxQ.walk_det rfl rfl rfl rfl rfl ?_; go_big_quiet_want; go_big_quiet_op; go_big_quiet_on; refine wpQuiet_nil ?_)
  (refine Go.LaxQ.walk_skip_mv rfl rfl ?_; (try dsimp only); go_big_quiet_want; go_big_quiet_op; go_big_quiet_on; refine wpQuiet_nil ?_)
  (refine Go.LaxQ.walk_skip_mv rfl rfl ?_; (try dsimp only); go_big_quiet_want; go_big_quiet_op; go_big_quiet_on; refine wpQuiet_nil ?_)
  refine Go.LaxQ.q_call rfl rfl rfl rfl (fun _ _ _ _ => trivial) ?_ (fun y K hI hG hK => by
      have HK := hide hK
      clear hK
      go_wp2_with fail
      exact unhide HK _ _ rfl trivial (Below.refl _ _))
  rintro v9 rfl
  ((try dsimp only); go_big_quiet_want; go_big_quiet_op; go_big_quiet_on; refine wpQuiet_nil ?_)
  (refine Go.LaxQ.walk_det rfl rfl rfl rfl rfl ?_; go_big_quiet_want; go_big_quiet_op; go_big_quiet_on; refine wpQuiet_nil ?_)
  refine Go.LaxQ.q_end ?_
  intro y hI hG
  clear hI hG
  go_wp2_with fail
  refine Go.LaxQ.region_guarded _ 16 3 [12, 13] [(1, fun v => v = .agg #[.int .u8 8, .int .u8 23]), (5, fun v => v = .bool true), (6, fun v => v = .bool true), (9, fun v => v = .bool false), (10, fun v => v = .bool false), (14, fun v => v = .bool false)] [] (fun _ => True) (by kernel_rfl) (by kernel_rfl) (by kernel_rfl) (by kernel_rfl) trivial (fun _ _ _ _ => trivial) (fun _ h => by cases h) (List.forall_mem_cons.2 ⟨⟨_, rfl⟩, List.forall_mem_cons.2 ⟨⟨_, rfl⟩, List.forall_mem_cons.2 ⟨⟨_, rfl⟩, List.forall_mem_cons.2 ⟨⟨_, rfl⟩, List.forall_mem_cons.2 ⟨⟨_, rfl⟩, List.forall_mem_cons.2 ⟨⟨_, rfl⟩, fun _ h => by cases h⟩⟩⟩⟩⟩⟩) ?_
  (refine Go.LaxQ.walk_det rfl rfl rfl rfl rfl ?_; go_big_quiet_want; go_big_quiet_op; go_big_quiet_on; refine wpQuiet_nil ?_)
  refine Go.LaxQ.q_call rfl rfl rfl rfl (fun _ _ _ _ => trivial) ?_ (fun y K hI hG hK => by
      go_wp2_with fail
      refine fmt73_ret _ _ ?_
      rintro _ w' rfl hb
      have hh := Go.Proofs.YgcoaaGreat.NatW.hide (hK _ w' rfl trivial hb)
      clear hK
      go_wp2_with fail
      exact Eq.mp (by kernel_rfl) (Go.Proofs.YgcoaaGreat.NatW.unhide hh))
  rintro v9 rfl
  ((try dsimp only); go_big_quiet_want; go_big_quiet_op; go_big_quiet_on; refine wpQuiet_nil ?_)
  (refine Go.LaxQ.walk_det rfl rfl rfl rfl rfl ?_; go_big_quiet_want; go_big_quiet_op; go_big_quiet_on; refine wpQuiet_nil ?_)
  (refine Go.LaxQ.walk_det rfl rfl rfl rfl rfl ?_; go_big_quiet_want; go_big_quiet_op; go_big_quiet_on; refine wpQuiet_nil ?_)
  (refine Go.LaxQ.walk_det rfl rfl rfl rfl rfl ?_; go_big_quiet_want; go_big_quiet_op; go_big_quiet_on; refine wpQuiet_nil ?_)
  refine Go.LaxQ.q_call rfl rfl rfl rfl (fun _ _ _ _ => trivial) ?_ (fun y K hI hG hK => by
      have HK := hide hK
      clear hK
      go_wp2_with fail
      exact unhide HK _ _ rfl trivial (Below.refl _ _))
  rintro v9 rfl
  ((try dsimp only); go_big_quiet_want; go_big_quiet_op; go_big_quiet_on; refine wpQuiet_nil ?_)
  refine Go.LaxQ.q_call rfl rfl rfl rfl (fun _ _ _ _ => trivial) ?_ (fun y K hI hG hK => by
      have HK := hide hK
      clear hK
      go_wp2_with fail
      exact unhide HK _ _ rfl trivial (Below.refl _ _))
  rintro v9 rfl
  ((try dsimp only); go_big_quiet_want; go_big_quiet_op; go_big_quiet_on; refine wpQuiet_nil ?_)
  (refine Go.LaxQ.walk_det rfl rfl rfl rfl rfl ?_; go_big_quiet_want; go_big_quiet_op; go_big_quiet_on; refine wpQuiet_nil ?_)
  (refine Go.LaxQ.walk_det rfl rfl rfl rfl rfl ?_; go_big_quiet_want; go_big_quiet_op; go_big_quiet_on; refine wpQuiet_nil ?_)
  refine Go.LaxQ.q_call rfl rfl rfl rfl (fun _ _ _ _ => trivial) ?_ (fun y K hI hG hK => by
      have HK := hide hK
      clear hK
      go_wp2_with fail
      exact unhide HK _ _ rfl trivial (Below.refl _ _))
  rintro v9 rfl
  ((try dsimp only); go_big_quiet_want; go_big_quiet_op; go_big_quiet_on; refine wpQuiet_nil ?_)
  refine Go.LaxQ.q_call rfl rfl rfl rfl (fun _ _ _ _ => trivial) ?_ (fun y K hI hG hK => by
      have HK := hide hK
      clear hK
      go_wp2_with fail
      exact unhide HK _ _ rfl trivial (Below.refl _ _))
  rintro v9 rfl
  ((try dsimp only); go_big_quiet_want; go_big_quiet_op; go_big_quiet_on; refine wpQuiet_nil ?_)
  (refine Go.LaxQ.walk_det rfl rfl rfl rfl rfl ?_; go_big_quiet_want; go_big_quiet_op; go_big_quiet_on; refine wpQuiet_nil ?_)
  (refine Go.LaxQ.walk_skip_mv rfl rfl ?_; (try dsimp only); go_big_quiet_want; go_big_quiet_op; go_big_quiet_on; refine wpQuiet_nil ?_)
  (refine Go.LaxQ.walk_skip_mv rfl rfl ?_; (try dsimp only); go_big_quiet_want; go_big_quiet_op; go_big_quiet_on; refine wpQuiet_nil ?_)
  refine Go.LaxQ.q_call rfl rfl rfl rfl (fun _ _ _ _ => trivial) ?_ (fun y K hI hG hK => by
      have HK := hide hK
      clear hK
      go_wp2_with fail
      exact unhide HK _ _ rfl trivial (Below.refl _ _))
  rintro v9 rfl
  ((try dsimp only); go_big_quiet_want; go_big_quiet_op; go_big_quiet_on; refine wpQuiet_nil ?_)
  (refine Go.LaxQ.walk_det rfl rfl rfl rfl rfl ?_; go_big_quiet_want; go_big_quiet_op; go_big_quiet_on; refine wpQuiet_nil ?_)
  refine Go.LaxQ.q_end ?_
  intro y hI hG
  clear hI hG
  go_wp2_with fail
  all_goals exact unhide HK _ (hB _)

set_option maxHeartbeats 2000000 in
theorem cl_8_no3 (man q : Int) (um : U64 man) (q1 : -32768 ≤ q) (q2 : q ≤ 32767) (h1 : man ≤ 16777216) (h2 : -10 ≤ q) (h3 : 10 < q) : ∃ r, U64 r ∧ ∀ tb, DFT tb 107 #[fmt 8 23, .int .u64 man, .int .i16 q] (.tuple #[.int .u64 r, .bool false]) := by
  refine ⟨0, u64_zero, fun tb w K ho hK => ?_⟩
  have HK := hide hK
  clear hK
  have f1 : decide (man ≤ 16777216) = true := by simp; omega
  have f2 : decide (-10 ≤ q) = true := by simp; omega
  have f3 : decide (q ≤ 10) = false := by simp; omega
  obtain ⟨wb, x0, hwb, r0, hB, hZ⟩ := boxes1 w #[.int .u8 8, .int .u8 23] 23
  have c00 : ∀ x : Later wb, _ = some (.int .u8 8 : Value) := Later.cell r0 0 _ rfl
  have c01 : ∀ x : Later wb, _ = some (.int .u8 23 : Value) := Later.cell r0 1 _ rfl
  have hne : Nonempty (Later wb) := ⟨x0⟩
  clear r0 ho
  go_enter Oaag.func107, Oaag.ntmps107
  go_wp2_with fail
  refine Go.LaxQ.region_guarded _ 16 3 [4, 5, 8, 9, 12, 13] [(1, fun v => v = .agg #[.int .u8 11, .int .u8 52]), (6, fun v => v = .bool false), (10, fun v => v = .bool false), (14, fun v => v = .bool false)] [] (fun _ => True) (by kernel_rfl) (by kernel_rfl) (by kernel_rfl) (by kernel_rfl) trivial (fun _ _ _ _ => trivial) (fun _ h => by cases h) (List.forall_mem_cons.2 ⟨⟨_, rfl⟩, List.forall_mem_cons.2 ⟨⟨_, rfl⟩, List.forall_mem_cons.2 ⟨⟨_, rfl⟩, List.forall_mem_cons.2 ⟨⟨_, rfl⟩, fun _ h => by cases h⟩⟩⟩⟩) ?_
  (refine Go.LaxQ.walk_det rfl rfl rfl rfl rfl ?_; go_big_quiet_want; go_big_quiet_op; go_big_quiet_on; refine wpQuiet_nil ?_)
  refine Go.LaxQ.q_call rfl rfl rfl rfl (fun _ _ _ _ => trivial) ?_ (fun y K hI hG hK => by
      go_wp2_with fail
      refine fmt74_ret _ _ ?_
      rintro _ w' rfl hb
      have hh := Go.Proofs.YgcoaaGreat.NatW.hide (hK _ w' rfl trivial hb)
      clear hK
      go_wp2_with fail
      exact Eq.mp (by kernel_rfl) (Go.Proofs.YgcoaaGreat.NatW.unhide hh))
  rintro v9 rfl
  ((try dsimp only); go_big_quiet_want; go_big_quiet_op; go_big_quiet_on; refine wpQuiet_nil ?_)
  (refine Go.LaxQ.walk_det rfl rfl rfl rfl rfl ?_; go_big_quiet_want; go_big_quiet_op; go_big_quiet_on; refine wpQuiet_nil ?_)
  (refine Go.LaxQ.walk_det rfl rfl rfl rfl rfl ?_; go_big_quiet_want; go_big_quiet_op; go_big_quiet_on; refine wpQuiet_nil ?_)
  (refine Go.LaxQ.walk_skip_mv rfl rfl ?_; (try dsimp only); go_big_quiet_want; go_big_quiet_op; go_big_quiet_on; refine wpQuiet_nil ?_)
  (refine Go.LaxQ.walk_skip_mv rfl rfl ?_; (try dsimp only); go_big_quiet_want; go_big_quiet_op; go_big_quiet_on; refine wpQuiet_nil ?_)
  refine Go.LaxQ.q_call rfl rfl rfl rfl (fun _ _ _ _ => trivial) ?_ (fun y K hI hG hK => by
      have HK := hide hK
      clear hK
      go_wp2_with fail
      exact unhide HK _ _ rfl trivial (Below.refl _ _))
  rintro v9 rfl
  ((try dsimp only); go_big_quiet_want; go_big_quiet_op; go_big_quiet_on; refine wpQuiet_nil ?_)
  (refine Go.LaxQ.walk_det rfl rfl rfl rfl rfl ?_; go_big_quiet_want; go_big_quiet_op; go_big_quiet_on; refine wpQuiet_nil ?_)
  (refine Go.LaxQ.walk_skip_mv rfl rfl ?_; (try dsimp only); go_big_quiet_want; go_big_quiet_op; go_big_quiet_on; refine wpQuiet_nil ?_)
  (refine Go.LaxQ.walk_skip_mv rfl rfl ?_; (try dsimp only); go_big_quiet_want; go_big_quiet_op; go_big_quiet_on; refine wpQuiet_nil ?_)
  refine Go.LaxQ.q_call rfl rfl rfl rfl (fun _ _ _ _ => trivial) ?_ (fun y K hI hG hK => by
      have HK := hide hK
      clear hK
      go_wp2_with fail
      exact unhide HK _ _ rfl trivial (Below.refl _ _))
  rintro v9 rfl
  ((try dsimp only); go_big_quiet_want; go_big_quiet_op; go_big_quiet_on; refine wpQuiet_nil ?_)
  (refine Go.LaxQ.walk_det rfl rfl rfl rfl rfl ?_; go_big_quiet_want; go_big_quiet_op; go_big_quiet_on; refine wpQuiet_nil ?_)
  (refine Go.LaxQ.walk_skip_mv rfl rfl ?_; (try dsimp only); go_big_quiet_want; go_big_quiet_op; go_big_quiet_on; refine wpQuiet_nil ?_)
  (refine Go.LaxQ.walk_skip_mv rfl rfl ?_; (try dsimp only); go_big_quiet_want; go_big_quiet_op; go_big_quiet_on; refine wpQuiet_nil ?_)
  refine Go.LaxQ.q_call rfl rfl rfl rfl (fun _ _ _ _ => trivial) ?_ (fun y K hI hG hK => by
      have HK := hide hK
      clear hK
      go_wp2_with fail
      exact unhide HK _ _ rfl trivial (Below.refl _ _))
  rintro v9 rfl
  ((try dsimp only); go_big_quiet_want; go_big_quiet_op; go_big_quiet_on; refine wpQuiet_nil ?_)
  (refine Go.LaxQ.walk_det rfl rfl rfl rfl rfl ?_; go_big_quiet_want; go_big_quiet_op; go_big_quiet_on; refine wpQuiet_nil ?_)
  refine Go.LaxQ.q_end ?_
  intro y hI hG
  clear hI hG
  go_wp2_with fail
  refine Go.LaxQ.region_guarded _ 16 3 [] [(1, fun v => v = .agg #[.int .u8 8, .int .u8 23]), (5, fun v => v = .bool true), (6, fun v => v = .bool true), (9, fun v => v = .bool true), (10, fun v => v = .bool true), (13, fun v => v = .bool false), (14, fun v => v = .bool false)] [] (fun _ => True) (by kernel_rfl) (by kernel_rfl) (by kernel_rfl) (by kernel_rfl) trivial (fun _ _ _ _ => trivial) (fun _ h => by cases h) (List.forall_mem_cons.2 ⟨⟨_, rfl⟩, List.forall_mem_cons.2 ⟨⟨_, rfl⟩, List.forall_mem_cons.2 ⟨⟨_, rfl⟩, List.forall_mem_cons.2 ⟨⟨_, rfl⟩, List.forall_mem_cons.2 ⟨⟨_, rfl⟩, List.forall_mem_cons.2 ⟨⟨_, rfl⟩, List.forall_mem_cons.2 ⟨⟨_, rfl⟩, fun _ h => by cases h⟩⟩⟩⟩⟩⟩⟩) ?_
  (refine Go.LaxQ.walk_det rfl rfl rfl rfl rfl ?_; go_big_quiet_want; go_big_quiet_op; go_big_quiet_on; refine wpQuiet_nil ?_)
  refine Go.LaxQ.q_call rfl rfl rfl rfl (fun _ _ _ _ => trivial) ?_ (fun y K hI hG hK => by
      go_wp2_with fail
      refine fmt73_ret _ _ ?_
      rintro _ w' rfl hb
      have hh := Go.Proofs.YgcoaaGreat.NatW.hide (hK _ w' rfl trivial hb)
      clear hK
      go_wp2_with fail
      exact Eq.mp (by kernel_rfl) (Go.Proofs.YgcoaaGreat.NatW.unhide hh))
  rintro v9 rfl
  ((try dsimp only); go_big_quiet_want; go_big_quiet_op; go_big_quiet_on; refine wpQuiet_nil ?_)
  (refine Go.LaxQ.walk_det rfl rfl rfl rfl rfl ?_; go_big_quiet_want; go_big_quiet_op; go_big_quiet_on; refine wpQuiet_nil ?_)
  (refine Go.LaxQ.walk_det rfl rfl rfl rfl rfl ?_; go_big_quiet_want; go_big_quiet_op; go_big_quiet_on; refine wpQuiet_nil ?_)
  (refine Go.LaxQ.walk_det rfl rfl rfl rfl rfl ?_; go_big_quiet_want; go_big_quiet_op; go_big_quiet_on; refine wpQuiet_nil ?_)
  refine Go.LaxQ.q_call rfl rfl rfl rfl (fun _ _ _ _ => trivial) ?_ (fun y K hI hG hK => by
      have HK := hide hK
      clear hK
      go_wp2_with fail
      exact unhide HK _ _ rfl trivial (Below.refl _ _))
  rintro v9 rfl
  ((try dsimp only); go_big_quiet_want; go_big_quiet_op; go_big_quiet_on; refine wpQuiet_nil ?_)
  refine Go.LaxQ.q_call rfl rfl rfl rfl (fun _ _ _ _ => trivial) ?_ (fun y K hI hG hK => by
      have HK := hide hK
      clear hK
      go_wp2_with fail
      exact unhide HK _ _ rfl trivial (Below.refl _ _))
  rintro v9 rfl
  ((try dsimp only); go_big_quiet_want; go_big_quiet_op; go_big_quiet_on; refine wpQuiet_nil ?_)
  (refine Go.LaxQ.walk_det rfl rfl rfl rfl rfl ?_; go_big_quiet_want; go_big_quiet_op; go_big_quiet_on; refine wpQuiet_nil ?_)
  (refine Go.LaxQ.walk_det rfl rfl rfl rfl rfl ?_; go_big_quiet_want; go_big_quiet_op; go_big_quiet_on; refine wpQuiet_nil ?_)
  refine Go.LaxQ.q_call rfl rfl rfl rfl (fun _ _ _ _ => trivial) ?_ (fun y K hI hG hK => by
      have HK := hide hK
      clear hK
      go_wp2_with fail
      exact unhide HK _ _ rfl trivial (Below.refl _ _))
  rintro v9 rfl
  ((try dsimp only); go_big_quiet_want; go_big_quiet_op; go_big_quiet_on; refine wpQuiet_nil ?_)
  refine Go.LaxQ.q_call rfl rfl rfl rfl (fun _ _ _ _ => trivial) ?_ (fun y K hI hG hK => by
      have HK := hide hK
      clear hK
      go_wp2_with fail
      exact unhide HK _ _ rfl trivial (Below.refl _ _))
  rintro v9 rfl
  ((try dsimp only); go_big_quiet_want; go_big_quiet_op; go_big_quiet_on; refine wpQuiet_nil ?_)
  (refine Go.LaxQ.walk_det rfl rfl rfl rfl rfl ?_; go_big_quiet_want; go_big_quiet_op; go_big_quiet_on; refine wpQuiet_nil ?_)
  (refine Go.LaxQ.walk_det rfl rfl rfl rfl rfl ?_; go_big_quiet_want; go_big_quiet_op; go_big_quiet_on; refine wpQuiet_nil ?_)
  refine Go.LaxQ.q_call rfl rfl rfl rfl (fun _ _ _ _ => trivial) ?_ (fun y K hI hG hK => by
      have HK := hide hK
      clear hK
      go_wp2_with fail
      exact unhide HK _ _ rfl trivial (Below.refl _ _))
  rintro v9 rfl
  ((try dsimp only); go_big_quiet_want; go_big_quiet_op; go_big_quiet_on; refine wpQuiet_nil ?_)
  refine Go.LaxQ.q_call rfl rfl rfl rfl (fun _ _ _ _ => trivial) ?_ (fun y K hI hG hK => by
      have HK := hide hK
      clear hK
      go_wp2_with fail
      exact unhide HK _ _ rfl trivial (Below.refl _ _))
  rintro v9 rfl
  ((try dsimp only); go_big_quiet_want; go_big_quiet_op; go_big_quiet_on; refine wpQuiet_nil ?_)
  (refine Go.LaxQ.walk_det rfl rfl rfl rfl rfl ?_; go_big_quiet_want; go_big_quiet_op; go_big_quiet_on; refine wpQuiet_nil ?_)
  refine Go.LaxQ.q_end ?_
  intro y hI hG
  clear hI hG
  go_wp2_with fail
  all_goals exact unhide HK _ (hB _)

theorem clinger_11 (man q : Int) (um : U64 man) (q1 : -32768 ≤ q) (q2 : q ≤ 32767) : ∃ r b, U64 r ∧ ∀ tb, DFT tb 107 #[fmt 11 52, .int .u64 man, .int .i16 q] (.tuple #[.int .u64 r, .bool b]) := by
  by_cases h1 : man ≤ 9007199254740992
  · by_cases h2 : -22 ≤ q
    · by_cases h3 : q ≤ 22
      · by_cases h4 : q < 0
        · obtain ⟨r, u, h⟩ := cl_11_neg man q um q1 q2 h1 h2 h3 h4
          exact ⟨r, _, u, h⟩
        · obtain ⟨r, u, h⟩ := cl_11_pos man q um q1 q2 h1 h2 h3 (by omega)
          exact ⟨r, _, u, h⟩
      · obtain ⟨r, u, h⟩ := cl_11_no3 man q um q1 q2 h1 h2 (by omega)
        exact ⟨r, _, u, h⟩
    · obtain ⟨r, u, h⟩ := cl_11_no2 man q um q1 q2 h1 (by omega)
      exact ⟨r, _, u, h⟩
  · obtain ⟨r, u, h⟩ := cl_11_no1 man q um q1 q2 (by omega)
    exact ⟨r, _, u, h⟩

theorem clinger_8 (man q : Int) (um : U64 man) (q1 : -32768 ≤ q) (q2 : q ≤ 32767) : ∃ r b, U64 r ∧ ∀ tb, DFT tb 107 #[fmt 8 23, .int .u64 man, .int .i16 q] (.tuple #[.int .u64 r, .bool b]) := by
  by_cases h1 : man ≤ 16777216
  · by_cases h2 : -10 ≤ q
    · by_cases h3 : q ≤ 10
      · by_cases h4 : q < 0
        · obtain ⟨r, u, h⟩ := cl_8_neg man q um q1 q2 h1 h2 h3 h4
          exact ⟨r, _, u, h⟩
        · obtain ⟨r, u, h⟩ := cl_8_pos man q um q1 q2 h1 h2 h3 (by omega)
          exact ⟨r, _, u, h⟩
      · obtain ⟨r, u, h⟩ := cl_8_no3 man q um q1 q2 h1 h2 (by omega)
        exact ⟨r, _, u, h⟩
    · obtain ⟨r, u, h⟩ := cl_8_no2 man q um q1 q2 h1 (by omega)
      exact ⟨r, _, u, h⟩
  · obtain ⟨r, u, h⟩ := cl_8_no1 man q um q1 q2 (by omega)
    exact ⟨r, _, u, h⟩
end Go.Proofs.YgcoaaGreat.NatW
