/-
  The top: calc.Allowed, law.allowed: their values.
-/
import Derived.Test.YgcoaaGreatSlO
import Derived.Test.YgcoaaGreatNbH
import Derived.Test.YgcoaaGreatFmts
import Derived.Test.YgcoaaGreatDetX
import Derived.Test.YgcoaaGreatMxA
set_option linter.unusedVariables false
set_option linter.unusedSimpArgs false
set_option maxRecDepth 20000
namespace Go.Proofs.YgcoaaGreat.NatW
open Go.RowKit
open Go.Proofs.YgcoaaGreat.Det
open Go.Proofs.YgcoaaGreat.Limbs Go.Proofs.YgcoaaGreat.Bits
attribute [local go_sem] Go.Instr.field Go.asAgg

theorem ok_val (E M : Nat) (b : Bool) (h : fok E M = b) : Ret 67 #[fmt E M] (fun u => u = .bool b) := by
  have := fmtOk_i (E : Int) (M : Int) (by omega) (by omega)
  simp only [Int.toNat_natCast] at this
  rw [h] at this
  exact this
theorem ok_val' (E M : Nat) (b : Bool) (h : fok E M = b) : Ret 67 #[.agg #[.int .u8 E, .int .u8 M]] (fun u => u = .bool b) := ok_val E M b h
def BvR (b : Bool) (v : Value) : Prop := v = .bool b

set_option maxHeartbeats 1000000 in
theorem al_no (w : World) (tb : Nat) (E M : Nat) (eng : Int) (md : Int) (hok : fok E M = false)  (ht : w.tape = fun _ _ => 0) : Calls Oaag.prog 159 #[.pointer (some ⟨tb, 0, none⟩), .int .u8 eng, fmt E M, .int .u8 md] w (fun e w' => ∃ v, e = .returned v ∧ BvR false v) := by
  have HT := hide ht
  clear ht
  go_enter Oaag.func159, Oaag.ntmps159
  go_wp2_with (first
    | (with_reducible refine at_fn 67 ?_
       refine gen_calls ?_
       intro W hW
       have S : RoS w E M W := by rw [← hW]; exact RoS.new E M (unhide HT)
       clear hW HT
       refine (ok_val E M _ hok) W _ ?_
       rintro _ W2 rfl hb
       have S2 := S.later hb
       clear S hb
       have k0 := cellr S2.h0 0 _ rfl
       have k1 := cellr S2.h0 1 _ rfl)
    | (with_reducible refine at_reg 3 ?_
       have S3 := S2.later (drew_below _)
       clear k0 k1
       refine wp_region_zero_list S2.tape (by kernel_rfl) ?_
       clear S2
       generalize W2.drew = W3 at *
       have k0 := cellr S3.h0 0 _ rfl
       have k1 := cellr S3.h0 1 _ rfl)
    | (with_reducible refine at_fn 73 ?_
       refine fmt73_ret _ _ ?_
       rintro _ W4 rfl hb
       have S4 := S3.later hb
       clear S3 hb k0 k1
       have k0 := cellr S4.h0 0 _ rfl
       have k1 := cellr S4.h0 1 _ rfl)
    | (with_reducible refine at_fn 74 ?_
       refine fmt74_ret _ _ ?_
       rintro _ W5 rfl hb
       clear hb)
    | fail)
  all_goals first
    | (go_ret; exact ⟨_, rfl, rfl⟩)
    | (go_ret; exact ⟨_, rfl, congrArg Value.bool (decide_eq_false (by omega))⟩)
    | (go_ret; exact ⟨_, rfl, congrArg Value.bool (decide_eq_true (by omega))⟩)

set_option maxHeartbeats 1000000 in
theorem al_big (w : World) (tb : Nat) (E M : Nat) (eng : Int) (md : Int) (hok : fok E M = true) (h2 : 2 < eng) (ht : w.tape = fun _ _ => 0) : Calls Oaag.prog 159 #[.pointer (some ⟨tb, 0, none⟩), .int .u8 eng, fmt E M, .int .u8 md] w (fun e w' => ∃ v, e = .returned v ∧ BvR false v) := by
  have HT := hide ht
  clear ht
  go_enter Oaag.func159, Oaag.ntmps159
  go_wp2_with (first
    | (with_reducible refine at_fn 67 ?_
       refine gen_calls ?_
       intro W hW
       have S : RoS w E M W := by rw [← hW]; exact RoS.new E M (unhide HT)
       clear hW HT
       refine (ok_val E M _ hok) W _ ?_
       rintro _ W2 rfl hb
       have S2 := S.later hb
       clear S hb
       have k0 := cellr S2.h0 0 _ rfl
       have k1 := cellr S2.h0 1 _ rfl)
    | (with_reducible refine at_reg 3 ?_
       have S3 := S2.later (drew_below _)
       clear k0 k1
       refine wp_region_zero_list S2.tape (by kernel_rfl) ?_
       clear S2
       generalize W2.drew = W3 at *
       have k0 := cellr S3.h0 0 _ rfl
       have k1 := cellr S3.h0 1 _ rfl)
    | (with_reducible refine at_fn 73 ?_
       refine fmt73_ret _ _ ?_
       rintro _ W4 rfl hb
       have S4 := S3.later hb
       clear S3 hb k0 k1
       have k0 := cellr S4.h0 0 _ rfl
       have k1 := cellr S4.h0 1 _ rfl)
    | (with_reducible refine at_fn 74 ?_
       refine fmt74_ret _ _ ?_
       rintro _ W5 rfl hb
       clear hb)
    | fail)
  all_goals first
    | (go_ret; exact ⟨_, rfl, rfl⟩)
    | (go_ret; exact ⟨_, rfl, congrArg Value.bool (decide_eq_false (by omega))⟩)
    | (go_ret; exact ⟨_, rfl, congrArg Value.bool (decide_eq_true (by omega))⟩)

set_option maxHeartbeats 1000000 in
theorem al_e0 (w : World) (tb : Nat) (E M : Nat) (md : Int) (hok : fok E M = true)  (ht : w.tape = fun _ _ => 0) : Calls Oaag.prog 159 #[.pointer (some ⟨tb, 0, none⟩), .int .u8 0, fmt E M, .int .u8 md] w (fun e w' => ∃ v, e = .returned v ∧ BvR true v) := by
  have HT := hide ht
  clear ht
  go_enter Oaag.func159, Oaag.ntmps159
  go_wp2_with (first
    | (with_reducible refine at_fn 67 ?_
       refine gen_calls ?_
       intro W hW
       have S : RoS w E M W := by rw [← hW]; exact RoS.new E M (unhide HT)
       clear hW HT
       refine (ok_val E M _ hok) W _ ?_
       rintro _ W2 rfl hb
       have S2 := S.later hb
       clear S hb
       have k0 := cellr S2.h0 0 _ rfl
       have k1 := cellr S2.h0 1 _ rfl)
    | (with_reducible refine at_reg 3 ?_
       have S3 := S2.later (drew_below _)
       clear k0 k1
       refine wp_region_zero_list S2.tape (by kernel_rfl) ?_
       clear S2
       generalize W2.drew = W3 at *
       have k0 := cellr S3.h0 0 _ rfl
       have k1 := cellr S3.h0 1 _ rfl)
    | (with_reducible refine at_fn 73 ?_
       refine fmt73_ret _ _ ?_
       rintro _ W4 rfl hb
       have S4 := S3.later hb
       clear S3 hb k0 k1
       have k0 := cellr S4.h0 0 _ rfl
       have k1 := cellr S4.h0 1 _ rfl)
    | (with_reducible refine at_fn 74 ?_
       refine fmt74_ret _ _ ?_
       rintro _ W5 rfl hb
       clear hb)
    | fail)
  all_goals first
    | (go_ret; exact ⟨_, rfl, rfl⟩)
    | (go_ret; exact ⟨_, rfl, congrArg Value.bool (decide_eq_false (by omega))⟩)
    | (go_ret; exact ⟨_, rfl, congrArg Value.bool (decide_eq_true (by omega))⟩)

set_option maxHeartbeats 1000000 in
theorem al_e1 (w : World) (tb : Nat) (E M : Nat) (md : Int) (hok : fok E M = true)  (ht : w.tape = fun _ _ => 0) : Calls Oaag.prog 159 #[.pointer (some ⟨tb, 0, none⟩), .int .u8 1, fmt E M, .int .u8 md] w (fun e w' => ∃ v, e = .returned v ∧ BvR true v) := by
  have HT := hide ht
  clear ht
  go_enter Oaag.func159, Oaag.ntmps159
  go_wp2_with (first
    | (with_reducible refine at_fn 67 ?_
       refine gen_calls ?_
       intro W hW
       have S : RoS w E M W := by rw [← hW]; exact RoS.new E M (unhide HT)
       clear hW HT
       refine (ok_val E M _ hok) W _ ?_
       rintro _ W2 rfl hb
       have S2 := S.later hb
       clear S hb
       have k0 := cellr S2.h0 0 _ rfl
       have k1 := cellr S2.h0 1 _ rfl)
    | (with_reducible refine at_reg 3 ?_
       have S3 := S2.later (drew_below _)
       clear k0 k1
       refine wp_region_zero_list S2.tape (by kernel_rfl) ?_
       clear S2
       generalize W2.drew = W3 at *
       have k0 := cellr S3.h0 0 _ rfl
       have k1 := cellr S3.h0 1 _ rfl)
    | (with_reducible refine at_fn 73 ?_
       refine fmt73_ret _ _ ?_
       rintro _ W4 rfl hb
       have S4 := S3.later hb
       clear S3 hb k0 k1
       have k0 := cellr S4.h0 0 _ rfl
       have k1 := cellr S4.h0 1 _ rfl)
    | (with_reducible refine at_fn 74 ?_
       refine fmt74_ret _ _ ?_
       rintro _ W5 rfl hb
       clear hb)
    | fail)
  all_goals first
    | (go_ret; exact ⟨_, rfl, rfl⟩)
    | (go_ret; exact ⟨_, rfl, congrArg Value.bool (decide_eq_false (by omega))⟩)
    | (go_ret; exact ⟨_, rfl, congrArg Value.bool (decide_eq_true (by omega))⟩)

set_option maxHeartbeats 1000000 in
theorem al_8z (w : World) (tb : Nat) (md : Int) (hm : md = 0) (ht : w.tape = fun _ _ => 0) : Calls Oaag.prog 159 #[.pointer (some ⟨tb, 0, none⟩), .int .u8 2, fmt 8 23, .int .u8 md] w (fun e w' => ∃ v, e = .returned v ∧ BvR true v) := by
  have hok : fok 8 23 = true := rfl
  have HT := hide ht
  clear ht
  subst hm
  go_enter Oaag.func159, Oaag.ntmps159
  go_wp2_with (first
    | (with_reducible refine at_fn 67 ?_
       refine gen_calls ?_
       intro W hW
       have S : RoS w 8 23 W := by rw [← hW]; exact RoS.new 8 23 (unhide HT)
       clear hW HT
       refine (ok_val 8 23 _ hok) W _ ?_
       rintro _ W2 rfl hb
       have S2 := S.later hb
       clear S hb
       have k0 := cellr S2.h0 0 _ rfl
       have k1 := cellr S2.h0 1 _ rfl)
    | (with_reducible refine at_reg 3 ?_
       have S3 := S2.later (drew_below _)
       clear k0 k1
       refine wp_region_zero_list S2.tape (by kernel_rfl) ?_
       clear S2
       generalize W2.drew = W3 at *
       have k0 := cellr S3.h0 0 _ rfl
       have k1 := cellr S3.h0 1 _ rfl)
    | (with_reducible refine at_fn 73 ?_
       refine fmt73_ret _ _ ?_
       rintro _ W4 rfl hb
       have S4 := S3.later hb
       clear S3 hb k0 k1
       have k0 := cellr S4.h0 0 _ rfl
       have k1 := cellr S4.h0 1 _ rfl)
    | (with_reducible refine at_fn 74 ?_
       refine fmt74_ret _ _ ?_
       rintro _ W5 rfl hb
       clear hb)
    | fail)
  all_goals first
    | (go_ret; exact ⟨_, rfl, rfl⟩)
    | (go_ret; exact ⟨_, rfl, congrArg Value.bool (decide_eq_false (by omega))⟩)
    | (go_ret; exact ⟨_, rfl, congrArg Value.bool (decide_eq_true (by omega))⟩)

set_option maxHeartbeats 1000000 in
theorem al_8g (w : World) (tb : Nat) (md : Int) (hm : 4 < md) (ht : w.tape = fun _ _ => 0) : Calls Oaag.prog 159 #[.pointer (some ⟨tb, 0, none⟩), .int .u8 2, fmt 8 23, .int .u8 md] w (fun e w' => ∃ v, e = .returned v ∧ BvR true v) := by
  have hok : fok 8 23 = true := rfl
  have HT := hide ht
  clear ht
  have hb0 : (md == 0) = false := beq_eq_false_iff_ne.2 (by omega)
  go_enter Oaag.func159, Oaag.ntmps159
  go_wp2_with (first
    | (with_reducible refine at_fn 67 ?_
       refine gen_calls ?_
       intro W hW
       have S : RoS w 8 23 W := by rw [← hW]; exact RoS.new 8 23 (unhide HT)
       clear hW HT
       refine (ok_val 8 23 _ hok) W _ ?_
       rintro _ W2 rfl hb
       have S2 := S.later hb
       clear S hb
       have k0 := cellr S2.h0 0 _ rfl
       have k1 := cellr S2.h0 1 _ rfl)
    | (with_reducible refine at_reg 3 ?_
       have S3 := S2.later (drew_below _)
       clear k0 k1
       refine wp_region_zero_list S2.tape (by kernel_rfl) ?_
       clear S2
       generalize W2.drew = W3 at *
       have k0 := cellr S3.h0 0 _ rfl
       have k1 := cellr S3.h0 1 _ rfl)
    | (with_reducible refine at_fn 73 ?_
       refine fmt73_ret _ _ ?_
       rintro _ W4 rfl hb
       have S4 := S3.later hb
       clear S3 hb k0 k1
       have k0 := cellr S4.h0 0 _ rfl
       have k1 := cellr S4.h0 1 _ rfl)
    | (with_reducible refine at_fn 74 ?_
       refine fmt74_ret _ _ ?_
       rintro _ W5 rfl hb
       clear hb)
    | fail)
  all_goals first
    | (go_ret; exact ⟨_, rfl, rfl⟩)
    | (go_ret; exact ⟨_, rfl, congrArg Value.bool (decide_eq_false (by omega))⟩)
    | (go_ret; exact ⟨_, rfl, congrArg Value.bool (decide_eq_true (by omega))⟩)

set_option maxHeartbeats 1000000 in
theorem al_8b (w : World) (tb : Nat) (md : Int) (hm0 : md ≠ 0) (hm : md ≤ 4) (ht : w.tape = fun _ _ => 0) : Calls Oaag.prog 159 #[.pointer (some ⟨tb, 0, none⟩), .int .u8 2, fmt 8 23, .int .u8 md] w (fun e w' => ∃ v, e = .returned v ∧ BvR false v) := by
  have hok : fok 8 23 = true := rfl
  have HT := hide ht
  clear ht
  have hb0 : (md == 0) = false := beq_eq_false_iff_ne.2 hm0
  go_enter Oaag.func159, Oaag.ntmps159
  go_wp2_with (first
    | (with_reducible refine at_fn 67 ?_
       refine gen_calls ?_
       intro W hW
       have S : RoS w 8 23 W := by rw [← hW]; exact RoS.new 8 23 (unhide HT)
       clear hW HT
       refine (ok_val 8 23 _ hok) W _ ?_
       rintro _ W2 rfl hb
       have S2 := S.later hb
       clear S hb
       have k0 := cellr S2.h0 0 _ rfl
       have k1 := cellr S2.h0 1 _ rfl)
    | (with_reducible refine at_reg 3 ?_
       have S3 := S2.later (drew_below _)
       clear k0 k1
       refine wp_region_zero_list S2.tape (by kernel_rfl) ?_
       clear S2
       generalize W2.drew = W3 at *
       have k0 := cellr S3.h0 0 _ rfl
       have k1 := cellr S3.h0 1 _ rfl)
    | (with_reducible refine at_fn 73 ?_
       refine fmt73_ret _ _ ?_
       rintro _ W4 rfl hb
       have S4 := S3.later hb
       clear S3 hb k0 k1
       have k0 := cellr S4.h0 0 _ rfl
       have k1 := cellr S4.h0 1 _ rfl)
    | (with_reducible refine at_fn 74 ?_
       refine fmt74_ret _ _ ?_
       rintro _ W5 rfl hb
       clear hb)
    | fail)
  all_goals first
    | (go_ret; exact ⟨_, rfl, rfl⟩)
    | (go_ret; exact ⟨_, rfl, congrArg Value.bool (decide_eq_false (by omega))⟩)
    | (go_ret; exact ⟨_, rfl, congrArg Value.bool (decide_eq_true (by omega))⟩)

set_option maxHeartbeats 1000000 in
theorem al_11z (w : World) (tb : Nat) (md : Int) (hm : md = 0) (ht : w.tape = fun _ _ => 0) : Calls Oaag.prog 159 #[.pointer (some ⟨tb, 0, none⟩), .int .u8 2, fmt 11 52, .int .u8 md] w (fun e w' => ∃ v, e = .returned v ∧ BvR true v) := by
  have hok : fok 11 52 = true := rfl
  have HT := hide ht
  clear ht
  subst hm
  go_enter Oaag.func159, Oaag.ntmps159
  go_wp2_with (first
    | (with_reducible refine at_fn 67 ?_
       refine gen_calls ?_
       intro W hW
       have S : RoS w 11 52 W := by rw [← hW]; exact RoS.new 11 52 (unhide HT)
       clear hW HT
       refine (ok_val 11 52 _ hok) W _ ?_
       rintro _ W2 rfl hb
       have S2 := S.later hb
       clear S hb
       have k0 := cellr S2.h0 0 _ rfl
       have k1 := cellr S2.h0 1 _ rfl)
    | (with_reducible refine at_reg 3 ?_
       have S3 := S2.later (drew_below _)
       clear k0 k1
       refine wp_region_zero_list S2.tape (by kernel_rfl) ?_
       clear S2
       generalize W2.drew = W3 at *
       have k0 := cellr S3.h0 0 _ rfl
       have k1 := cellr S3.h0 1 _ rfl)
    | (with_reducible refine at_fn 73 ?_
       refine fmt73_ret _ _ ?_
       rintro _ W4 rfl hb
       have S4 := S3.later hb
       clear S3 hb k0 k1
       have k0 := cellr S4.h0 0 _ rfl
       have k1 := cellr S4.h0 1 _ rfl)
    | (with_reducible refine at_fn 74 ?_
       refine fmt74_ret _ _ ?_
       rintro _ W5 rfl hb
       clear hb)
    | fail)
  all_goals first
    | (go_ret; exact ⟨_, rfl, rfl⟩)
    | (go_ret; exact ⟨_, rfl, congrArg Value.bool (decide_eq_false (by omega))⟩)
    | (go_ret; exact ⟨_, rfl, congrArg Value.bool (decide_eq_true (by omega))⟩)

set_option maxHeartbeats 1000000 in
theorem al_11g (w : World) (tb : Nat) (md : Int) (hm : 4 < md) (ht : w.tape = fun _ _ => 0) : Calls Oaag.prog 159 #[.pointer (some ⟨tb, 0, none⟩), .int .u8 2, fmt 11 52, .int .u8 md] w (fun e w' => ∃ v, e = .returned v ∧ BvR true v) := by
  have hok : fok 11 52 = true := rfl
  have HT := hide ht
  clear ht
  have hb0 : (md == 0) = false := beq_eq_false_iff_ne.2 (by omega)
  go_enter Oaag.func159, Oaag.ntmps159
  go_wp2_with (first
    | (with_reducible refine at_fn 67 ?_
       refine gen_calls ?_
       intro W hW
       have S : RoS w 11 52 W := by rw [← hW]; exact RoS.new 11 52 (unhide HT)
       clear hW HT
       refine (ok_val 11 52 _ hok) W _ ?_
       rintro _ W2 rfl hb
       have S2 := S.later hb
       clear S hb
       have k0 := cellr S2.h0 0 _ rfl
       have k1 := cellr S2.h0 1 _ rfl)
    | (with_reducible refine at_reg 3 ?_
       have S3 := S2.later (drew_below _)
       clear k0 k1
       refine wp_region_zero_list S2.tape (by kernel_rfl) ?_
       clear S2
       generalize W2.drew = W3 at *
       have k0 := cellr S3.h0 0 _ rfl
       have k1 := cellr S3.h0 1 _ rfl)
    | (with_reducible refine at_fn 73 ?_
       refine fmt73_ret _ _ ?_
       rintro _ W4 rfl hb
       have S4 := S3.later hb
       clear S3 hb k0 k1
       have k0 := cellr S4.h0 0 _ rfl
       have k1 := cellr S4.h0 1 _ rfl)
    | (with_reducible refine at_fn 74 ?_
       refine fmt74_ret _ _ ?_
       rintro _ W5 rfl hb
       clear hb)
    | fail)
  all_goals first
    | (go_ret; exact ⟨_, rfl, rfl⟩)
    | (go_ret; exact ⟨_, rfl, congrArg Value.bool (decide_eq_false (by omega))⟩)
    | (go_ret; exact ⟨_, rfl, congrArg Value.bool (decide_eq_true (by omega))⟩)

set_option maxHeartbeats 1000000 in
theorem al_11b (w : World) (tb : Nat) (md : Int) (hm0 : md ≠ 0) (hm : md ≤ 4) (ht : w.tape = fun _ _ => 0) : Calls Oaag.prog 159 #[.pointer (some ⟨tb, 0, none⟩), .int .u8 2, fmt 11 52, .int .u8 md] w (fun e w' => ∃ v, e = .returned v ∧ BvR false v) := by
  have hok : fok 11 52 = true := rfl
  have HT := hide ht
  clear ht
  have hb0 : (md == 0) = false := beq_eq_false_iff_ne.2 hm0
  go_enter Oaag.func159, Oaag.ntmps159
  go_wp2_with (first
    | (with_reducible refine at_fn 67 ?_
       refine gen_calls ?_
       intro W hW
       have S : RoS w 11 52 W := by rw [← hW]; exact RoS.new 11 52 (unhide HT)
       clear hW HT
       refine (ok_val 11 52 _ hok) W _ ?_
       rintro _ W2 rfl hb
       have S2 := S.later hb
       clear S hb
       have k0 := cellr S2.h0 0 _ rfl
       have k1 := cellr S2.h0 1 _ rfl)
    | (with_reducible refine at_reg 3 ?_
       have S3 := S2.later (drew_below _)
       clear k0 k1
       refine wp_region_zero_list S2.tape (by kernel_rfl) ?_
       clear S2
       generalize W2.drew = W3 at *
       have k0 := cellr S3.h0 0 _ rfl
       have k1 := cellr S3.h0 1 _ rfl)
    | (with_reducible refine at_fn 73 ?_
       refine fmt73_ret _ _ ?_
       rintro _ W4 rfl hb
       have S4 := S3.later hb
       clear S3 hb k0 k1
       have k0 := cellr S4.h0 0 _ rfl
       have k1 := cellr S4.h0 1 _ rfl)
    | (with_reducible refine at_fn 74 ?_
       refine fmt74_ret _ _ ?_
       rintro _ W5 rfl hb
       clear hb)
    | fail)
  all_goals first
    | (go_ret; exact ⟨_, rfl, rfl⟩)
    | (go_ret; exact ⟨_, rfl, congrArg Value.bool (decide_eq_false (by omega))⟩)
    | (go_ret; exact ⟨_, rfl, congrArg Value.bool (decide_eq_true (by omega))⟩)

set_option maxHeartbeats 1000000 in
theorem al_oth (w : World) (tb : Nat) (E M : Nat) (md : Int) (hok : fok E M = true) (h64 : ¬ (E = 11 ∧ M = 52)) (h32 : ¬ (E = 8 ∧ M = 23)) (ht : w.tape = fun _ _ => 0) : Calls Oaag.prog 159 #[.pointer (some ⟨tb, 0, none⟩), .int .u8 2, fmt E M, .int .u8 md] w (fun e w' => ∃ v, e = .returned v ∧ BvR false v) := by
  have HT := hide ht
  clear ht
  have hn1 := fmt_eql (E : Int) (M : Int) 11 52 (fun h => h64 ⟨by omega, by omega⟩)
  have hn2 := fmt_eql (E : Int) (M : Int) 8 23 (fun h => h32 ⟨by omega, by omega⟩)
  go_enter Oaag.func159, Oaag.ntmps159
  go_wp2_with (first
    | (with_reducible refine at_fn 67 ?_
       refine gen_calls ?_
       intro W hW
       have S : RoS w E M W := by rw [← hW]; exact RoS.new E M (unhide HT)
       clear hW HT
       refine (ok_val E M _ hok) W _ ?_
       rintro _ W2 rfl hb
       have S2 := S.later hb
       clear S hb
       have k0 := cellr S2.h0 0 _ rfl
       have k1 := cellr S2.h0 1 _ rfl)
    | (with_reducible refine at_reg 3 ?_
       have S3 := S2.later (drew_below _)
       clear k0 k1
       refine wp_region_zero_list S2.tape (by kernel_rfl) ?_
       clear S2
       generalize W2.drew = W3 at *
       have k0 := cellr S3.h0 0 _ rfl
       have k1 := cellr S3.h0 1 _ rfl)
    | (with_reducible refine at_fn 73 ?_
       refine fmt73_ret _ _ ?_
       rintro _ W4 rfl hb
       have S4 := S3.later hb
       clear S3 hb k0 k1
       have k0 := cellr S4.h0 0 _ rfl
       have k1 := cellr S4.h0 1 _ rfl)
    | (with_reducible refine at_fn 74 ?_
       refine fmt74_ret _ _ ?_
       rintro _ W5 rfl hb
       clear hb)
    | fail)
  all_goals first
    | (go_ret; exact ⟨_, rfl, rfl⟩)
    | (go_ret; exact ⟨_, rfl, congrArg Value.bool (decide_eq_false (by omega))⟩)
    | (go_ret; exact ⟨_, rfl, congrArg Value.bool (decide_eq_true (by omega))⟩)
end Go.Proofs.YgcoaaGreat.NatW
