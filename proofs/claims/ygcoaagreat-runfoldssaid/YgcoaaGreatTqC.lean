/-
  The top: law.allowed: its value; one answer of both in every memory.
-/
import Derived.Test.YgcoaaGreatTqB
import Derived.Test.YgcoaaGreatDetY
set_option linter.unusedVariables false
set_option linter.unusedSimpArgs false
set_option maxRecDepth 20000
namespace Go.Proofs.YgcoaaGreat.NatW
open Go.RowKit
open Go.Proofs.YgcoaaGreat.Det
open Go.Proofs.YgcoaaGreat.Limbs Go.Proofs.YgcoaaGreat.Bits
attribute [local go_sem] Go.Instr.field Go.asAgg

theorem folds_ret (md : Int) (b : Bool) (hb : decide (md = 0 ∨ 4 < md) = b) : Ret 160 #[.int .u8 md] (fun u => u = .bool b) := by
  subst hb
  intro w K hK
  have HK := hide hK
  clear hK
  by_cases h0 : md = 0
  · subst h0
    go_enter Oaag.func160, Oaag.ntmps160
    go_wp2_with (fail)
    all_goals exact unhide HK _ _ (by simp) (Below.refl _ _)
  · have hb0 : (md == 0) = false := beq_eq_false_iff_ne.2 h0
    go_enter Oaag.func160, Oaag.ntmps160
    go_wp2_with (fail)
    all_goals exact unhide HK _ _ (by simp [h0]) (Below.refl _ _)

set_option maxHeartbeats 1000000 in
theorem aw_big (w : World) (E M : Nat) (eng : Int) (md : Int) (h2 : 2 < eng) (ht : w.tape = fun _ _ => 0) : Calls Oaag.prog 88 #[.int .u8 eng, fmt E M, .int .u8 md] w (fun e w' => ∃ v, e = .returned v ∧ BvR false v) := by
  have HT := hide ht
  clear ht
  have e0 : (eng == 0) = false := beq_eq_false_iff_ne.2 (by omega)
  have e1 : (eng == 1) = false := beq_eq_false_iff_ne.2 (by omega)
  have e2 : (eng == 2) = false := beq_eq_false_iff_ne.2 (by omega)
  go_enter Oaag.func88, Oaag.ntmps88
  go_wp2_with (first
    | (with_reducible refine at_fn 67 ?_
       refine gen_calls ?_
       intro W hW
       clear hW HT
       refine (ok_val E M _ hok) W _ ?_
       rintro _ W2 rfl hb
       clear hb)
    | (with_reducible refine at_reg 6 ?_
       refine gen_wp ?_
       intro W hW
       have S2 : RoS w E M W := by rw [← hW]; exact RoS.new E M (unhide HT)
       clear hW HT
       have S3 := S2.later (drew_below _)
       refine wp_region_zero_list S2.tape (by kernel_rfl) ?_
       clear S2
       generalize W.drew = W3 at *
       have k0 := cellr S3.h0 0 _ rfl
       have k1 := cellr S3.h0 1 _ rfl)
    | (with_reducible refine at_fn 160 ?_
       refine folds_ret _ _ hfo _ _ ?_
       rintro _ W4 rfl hb
       have S4 := S3.later hb
       clear S3 hb k0 k1
       have k0 := cellr S4.h0 0 _ rfl
       have k1 := cellr S4.h0 1 _ rfl)
    | (with_reducible refine at_fn 73 ?_
       refine fmt73_ret _ _ ?_
       rintro _ W5 rfl hb
       have S5 := S4.later hb
       clear S4 hb k0 k1
       have k0 := cellr S5.h0 0 _ rfl
       have k1 := cellr S5.h0 1 _ rfl)
    | (with_reducible refine at_fn 74 ?_
       refine fmt74_ret _ _ ?_
       rintro _ W6 rfl hb
       clear hb)
    | fail)
  all_goals first
    | (go_ret; exact ⟨_, rfl, rfl⟩)
    | fail

set_option maxHeartbeats 1000000 in
theorem aw_e0 (w : World) (E M : Nat) (md : Int) (b : Bool) (hok : fok E M = b)  (ht : w.tape = fun _ _ => 0) : Calls Oaag.prog 88 #[.int .u8 0, fmt E M, .int .u8 md] w (fun e w' => ∃ v, e = .returned v ∧ BvR b v) := by
  have HT := hide ht
  clear ht
  go_enter Oaag.func88, Oaag.ntmps88
  go_wp2_with (first
    | (with_reducible refine at_fn 67 ?_
       refine gen_calls ?_
       intro W hW
       clear hW HT
       refine (ok_val E M _ hok) W _ ?_
       rintro _ W2 rfl hb
       clear hb)
    | (with_reducible refine at_reg 6 ?_
       refine gen_wp ?_
       intro W hW
       have S2 : RoS w E M W := by rw [← hW]; exact RoS.new E M (unhide HT)
       clear hW HT
       have S3 := S2.later (drew_below _)
       refine wp_region_zero_list S2.tape (by kernel_rfl) ?_
       clear S2
       generalize W.drew = W3 at *
       have k0 := cellr S3.h0 0 _ rfl
       have k1 := cellr S3.h0 1 _ rfl)
    | (with_reducible refine at_fn 160 ?_
       refine folds_ret _ _ hfo _ _ ?_
       rintro _ W4 rfl hb
       have S4 := S3.later hb
       clear S3 hb k0 k1
       have k0 := cellr S4.h0 0 _ rfl
       have k1 := cellr S4.h0 1 _ rfl)
    | (with_reducible refine at_fn 73 ?_
       refine fmt73_ret _ _ ?_
       rintro _ W5 rfl hb
       have S5 := S4.later hb
       clear S4 hb k0 k1
       have k0 := cellr S5.h0 0 _ rfl
       have k1 := cellr S5.h0 1 _ rfl)
    | (with_reducible refine at_fn 74 ?_
       refine fmt74_ret _ _ ?_
       rintro _ W6 rfl hb
       clear hb)
    | fail)
  all_goals first
    | (go_ret; exact ⟨_, rfl, rfl⟩)
    | fail

set_option maxHeartbeats 1000000 in
theorem aw_e1 (w : World) (E M : Nat) (md : Int) (b : Bool) (hok : fok E M = b)  (ht : w.tape = fun _ _ => 0) : Calls Oaag.prog 88 #[.int .u8 1, fmt E M, .int .u8 md] w (fun e w' => ∃ v, e = .returned v ∧ BvR b v) := by
  have HT := hide ht
  clear ht
  go_enter Oaag.func88, Oaag.ntmps88
  go_wp2_with (first
    | (with_reducible refine at_fn 67 ?_
       refine gen_calls ?_
       intro W hW
       clear hW HT
       refine (ok_val E M _ hok) W _ ?_
       rintro _ W2 rfl hb
       clear hb)
    | (with_reducible refine at_reg 6 ?_
       refine gen_wp ?_
       intro W hW
       have S2 : RoS w E M W := by rw [← hW]; exact RoS.new E M (unhide HT)
       clear hW HT
       have S3 := S2.later (drew_below _)
       refine wp_region_zero_list S2.tape (by kernel_rfl) ?_
       clear S2
       generalize W.drew = W3 at *
       have k0 := cellr S3.h0 0 _ rfl
       have k1 := cellr S3.h0 1 _ rfl)
    | (with_reducible refine at_fn 160 ?_
       refine folds_ret _ _ hfo _ _ ?_
       rintro _ W4 rfl hb
       have S4 := S3.later hb
       clear S3 hb k0 k1
       have k0 := cellr S4.h0 0 _ rfl
       have k1 := cellr S4.h0 1 _ rfl)
    | (with_reducible refine at_fn 73 ?_
       refine fmt73_ret _ _ ?_
       rintro _ W5 rfl hb
       have S5 := S4.later hb
       clear S4 hb k0 k1
       have k0 := cellr S5.h0 0 _ rfl
       have k1 := cellr S5.h0 1 _ rfl)
    | (with_reducible refine at_fn 74 ?_
       refine fmt74_ret _ _ ?_
       rintro _ W6 rfl hb
       clear hb)
    | fail)
  all_goals first
    | (go_ret; exact ⟨_, rfl, rfl⟩)
    | fail

set_option maxHeartbeats 1000000 in
theorem aw_2n (w : World) (E M : Nat) (md : Int) (hm : decide (md = 0 ∨ 4 < md) = false) (ht : w.tape = fun _ _ => 0) : Calls Oaag.prog 88 #[.int .u8 2, fmt E M, .int .u8 md] w (fun e w' => ∃ v, e = .returned v ∧ BvR false v) := by
  have HT := hide ht
  clear ht
  have hfo := hm
  go_enter Oaag.func88, Oaag.ntmps88
  go_wp2_with (first
    | (with_reducible refine at_fn 67 ?_
       refine gen_calls ?_
       intro W hW
       clear hW HT
       refine (ok_val E M _ hok) W _ ?_
       rintro _ W2 rfl hb
       clear hb)
    | (with_reducible refine at_reg 6 ?_
       refine gen_wp ?_
       intro W hW
       have S2 : RoS w E M W := by rw [← hW]; exact RoS.new E M (unhide HT)
       clear hW HT
       have S3 := S2.later (drew_below _)
       refine wp_region_zero_list S2.tape (by kernel_rfl) ?_
       clear S2
       generalize W.drew = W3 at *
       have k0 := cellr S3.h0 0 _ rfl
       have k1 := cellr S3.h0 1 _ rfl)
    | (with_reducible refine at_fn 160 ?_
       refine folds_ret _ _ hfo _ _ ?_
       rintro _ W4 rfl hb
       have S4 := S3.later hb
       clear S3 hb k0 k1
       have k0 := cellr S4.h0 0 _ rfl
       have k1 := cellr S4.h0 1 _ rfl)
    | (with_reducible refine at_fn 73 ?_
       refine fmt73_ret _ _ ?_
       rintro _ W5 rfl hb
       have S5 := S4.later hb
       clear S4 hb k0 k1
       have k0 := cellr S5.h0 0 _ rfl
       have k1 := cellr S5.h0 1 _ rfl)
    | (with_reducible refine at_fn 74 ?_
       refine fmt74_ret _ _ ?_
       rintro _ W6 rfl hb
       clear hb)
    | fail)
  all_goals first
    | (go_ret; exact ⟨_, rfl, rfl⟩)
    | fail

set_option maxHeartbeats 1000000 in
theorem aw_8 (w : World) (md : Int) (hm : decide (md = 0 ∨ 4 < md) = true) (ht : w.tape = fun _ _ => 0) : Calls Oaag.prog 88 #[.int .u8 2, fmt 8 23, .int .u8 md] w (fun e w' => ∃ v, e = .returned v ∧ BvR true v) := by
  have HT := hide ht
  clear ht
  have hfo := hm
  go_enter Oaag.func88, Oaag.ntmps88
  go_wp2_with (first
    | (with_reducible refine at_fn 67 ?_
       refine gen_calls ?_
       intro W hW
       clear hW HT
       refine (ok_val 8 23 _ hok) W _ ?_
       rintro _ W2 rfl hb
       clear hb)
    | (with_reducible refine at_reg 6 ?_
       refine gen_wp ?_
       intro W hW
       have S2 : RoS w 8 23 W := by rw [← hW]; exact RoS.new 8 23 (unhide HT)
       clear hW HT
       have S3 := S2.later (drew_below _)
       refine wp_region_zero_list S2.tape (by kernel_rfl) ?_
       clear S2
       generalize W.drew = W3 at *
       have k0 := cellr S3.h0 0 _ rfl
       have k1 := cellr S3.h0 1 _ rfl)
    | (with_reducible refine at_fn 160 ?_
       refine folds_ret _ _ hfo _ _ ?_
       rintro _ W4 rfl hb
       have S4 := S3.later hb
       clear S3 hb k0 k1
       have k0 := cellr S4.h0 0 _ rfl
       have k1 := cellr S4.h0 1 _ rfl)
    | (with_reducible refine at_fn 73 ?_
       refine fmt73_ret _ _ ?_
       rintro _ W5 rfl hb
       have S5 := S4.later hb
       clear S4 hb k0 k1
       have k0 := cellr S5.h0 0 _ rfl
       have k1 := cellr S5.h0 1 _ rfl)
    | (with_reducible refine at_fn 74 ?_
       refine fmt74_ret _ _ ?_
       rintro _ W6 rfl hb
       clear hb)
    | fail)
  all_goals first
    | (go_ret; exact ⟨_, rfl, rfl⟩)
    | fail

set_option maxHeartbeats 1000000 in
theorem aw_11 (w : World) (md : Int) (hm : decide (md = 0 ∨ 4 < md) = true) (ht : w.tape = fun _ _ => 0) : Calls Oaag.prog 88 #[.int .u8 2, fmt 11 52, .int .u8 md] w (fun e w' => ∃ v, e = .returned v ∧ BvR true v) := by
  have HT := hide ht
  clear ht
  have hfo := hm
  go_enter Oaag.func88, Oaag.ntmps88
  go_wp2_with (first
    | (with_reducible refine at_fn 67 ?_
       refine gen_calls ?_
       intro W hW
       clear hW HT
       refine (ok_val 11 52 _ hok) W _ ?_
       rintro _ W2 rfl hb
       clear hb)
    | (with_reducible refine at_reg 6 ?_
       refine gen_wp ?_
       intro W hW
       have S2 : RoS w 11 52 W := by rw [← hW]; exact RoS.new 11 52 (unhide HT)
       clear hW HT
       have S3 := S2.later (drew_below _)
       refine wp_region_zero_list S2.tape (by kernel_rfl) ?_
       clear S2
       generalize W.drew = W3 at *
       have k0 := cellr S3.h0 0 _ rfl
       have k1 := cellr S3.h0 1 _ rfl)
    | (with_reducible refine at_fn 160 ?_
       refine folds_ret _ _ hfo _ _ ?_
       rintro _ W4 rfl hb
       have S4 := S3.later hb
       clear S3 hb k0 k1
       have k0 := cellr S4.h0 0 _ rfl
       have k1 := cellr S4.h0 1 _ rfl)
    | (with_reducible refine at_fn 73 ?_
       refine fmt73_ret _ _ ?_
       rintro _ W5 rfl hb
       have S5 := S4.later hb
       clear S4 hb k0 k1
       have k0 := cellr S5.h0 0 _ rfl
       have k1 := cellr S5.h0 1 _ rfl)
    | (with_reducible refine at_fn 74 ?_
       refine fmt74_ret _ _ ?_
       rintro _ W6 rfl hb
       clear hb)
    | fail)
  all_goals first
    | (go_ret; exact ⟨_, rfl, rfl⟩)
    | fail

set_option maxHeartbeats 1000000 in
theorem aw_oth (w : World) (E M : Nat) (md : Int) (h64 : ¬ (E = 11 ∧ M = 52)) (h32 : ¬ (E = 8 ∧ M = 23)) (hm : decide (md = 0 ∨ 4 < md) = true) (ht : w.tape = fun _ _ => 0) : Calls Oaag.prog 88 #[.int .u8 2, fmt E M, .int .u8 md] w (fun e w' => ∃ v, e = .returned v ∧ BvR false v) := by
  have HT := hide ht
  clear ht
  have hfo := hm
  have hn1 := fmt_eql (E : Int) (M : Int) 11 52 (fun h => h64 ⟨by omega, by omega⟩)
  have hn2 := fmt_eql (E : Int) (M : Int) 8 23 (fun h => h32 ⟨by omega, by omega⟩)
  go_enter Oaag.func88, Oaag.ntmps88
  go_wp2_with (first
    | (with_reducible refine at_fn 67 ?_
       refine gen_calls ?_
       intro W hW
       clear hW HT
       refine (ok_val E M _ hok) W _ ?_
       rintro _ W2 rfl hb
       clear hb)
    | (with_reducible refine at_reg 6 ?_
       refine gen_wp ?_
       intro W hW
       have S2 : RoS w E M W := by rw [← hW]; exact RoS.new E M (unhide HT)
       clear hW HT
       have S3 := S2.later (drew_below _)
       refine wp_region_zero_list S2.tape (by kernel_rfl) ?_
       clear S2
       generalize W.drew = W3 at *
       have k0 := cellr S3.h0 0 _ rfl
       have k1 := cellr S3.h0 1 _ rfl)
    | (with_reducible refine at_fn 160 ?_
       refine folds_ret _ _ hfo _ _ ?_
       rintro _ W4 rfl hb
       have S4 := S3.later hb
       clear S3 hb k0 k1
       have k0 := cellr S4.h0 0 _ rfl
       have k1 := cellr S4.h0 1 _ rfl)
    | (with_reducible refine at_fn 73 ?_
       refine fmt73_ret _ _ ?_
       rintro _ W5 rfl hb
       have S5 := S4.later hb
       clear S4 hb k0 k1
       have k0 := cellr S5.h0 0 _ rfl
       have k1 := cellr S5.h0 1 _ rfl)
    | (with_reducible refine at_fn 74 ?_
       refine fmt74_ret _ _ ?_
       rintro _ W6 rfl hb
       clear hb)
    | fail)
  all_goals first
    | (go_ret; exact ⟨_, rfl, rfl⟩)
    | fail

/-- What both say. -/
def alwB (eng : Int) (E M : Nat) (md : Int) : Bool :=
  if eng < 2 then fok E M else if eng = 2 then (if (E = 11 ∧ M = 52) ∨ (E = 8 ∧ M = 23) then decide (md = 0 ∨ 4 < md) else false) else false

theorem al_run (w : World) (tb : Nat) (eng : Int) (E M : Nat) (md : Int) (h0 : 0 ≤ eng) (ht : w.tape = fun _ _ => 0) : Calls Oaag.prog 159 #[.pointer (some ⟨tb, 0, none⟩), .int .u8 eng, fmt E M, .int .u8 md] w (fun e w' => ∃ v, e = .returned v ∧ BvR (alwB eng E M md) v) := by
  unfold alwB
  split
  · rename_i h2
    by_cases hok : fok E M = true
    · rw [hok]
      rcases (by omega : eng = 0 ∨ eng = 1) with rfl | rfl
      · exact al_e0 w tb E M md hok ht
      · exact al_e1 w tb E M md hok ht
    · rw [Bool.not_eq_true] at hok
      rw [hok]
      exact al_no w tb E M eng md hok ht
  split
  · rename_i h2
    subst h2
    split
    · rename_i hh
      rcases hh with ⟨rfl, rfl⟩ | ⟨rfl, rfl⟩
      · by_cases hz : md = 0
        · rw [decide_eq_true (Or.inl hz)]; exact al_11z w tb md hz ht
        by_cases hg : 4 < md
        · rw [decide_eq_true (Or.inr hg)]; exact al_11g w tb md hg ht
        · rw [decide_eq_false (by omega)]; exact al_11b w tb md hz (by omega) ht
      · by_cases hz : md = 0
        · rw [decide_eq_true (Or.inl hz)]; exact al_8z w tb md hz ht
        by_cases hg : 4 < md
        · rw [decide_eq_true (Or.inr hg)]; exact al_8g w tb md hg ht
        · rw [decide_eq_false (by omega)]; exact al_8b w tb md hz (by omega) ht
    · rename_i hh
      by_cases hok : fok E M = true
      · exact al_oth w tb E M md hok (fun h => hh (Or.inl h)) (fun h => hh (Or.inr h)) ht
      · rw [Bool.not_eq_true] at hok
        exact al_no w tb E M 2 md hok ht
  · by_cases hok : fok E M = true
    · exact al_big w tb E M eng md hok (by omega) ht
    · rw [Bool.not_eq_true] at hok
      exact al_no w tb E M eng md hok ht
theorem aw_run (w : World) (eng : Int) (E M : Nat) (md : Int) (h0 : 0 ≤ eng) (ht : w.tape = fun _ _ => 0) : Calls Oaag.prog 88 #[.int .u8 eng, fmt E M, .int .u8 md] w (fun e w' => ∃ v, e = .returned v ∧ BvR (alwB eng E M md) v) := by
  unfold alwB
  split
  · rcases (by omega : eng = 0 ∨ eng = 1) with rfl | rfl
    · exact aw_e0 w E M md _ rfl ht
    · exact aw_e1 w E M md _ rfl ht
  split
  · rename_i h2
    subst h2
    by_cases hm : decide (md = 0 ∨ 4 < md) = true
    · rw [hm]
      split
      · rename_i hh
        rcases hh with ⟨rfl, rfl⟩ | ⟨rfl, rfl⟩
        · exact aw_11 w md hm ht
        · exact aw_8 w md hm ht
      · rename_i hh
        exact aw_oth w E M md (fun h => hh (Or.inl h)) (fun h => hh (Or.inr h)) hm ht
    · rw [Bool.not_eq_true] at hm
      rw [hm, ite_self]
      exact aw_2n w E M md hm ht
  · exact aw_big w E M eng md (by omega) ht

theorem al_x (eng : Int) (E M : Nat) (md : Int) (h0 : 0 ≤ eng) : ∃ v, BvR (alwB eng E M md) v ∧ DR 159 (argsAt [.tab, .v (.int .u8 eng), .v (fmt E M), .v (.int .u8 md)]) v :=
  detP [.tab, .v (.int .u8 eng), .v (fmt E M), .v (.int .u8 md)] 4 (by decide) rfl (by kernel_rfl) (by kernel_rfl) (by simp [Arg.ok, selfV, selfC, fmt]) (al_run w0 1 eng E M md h0 rfl) (by rintro _ rfl; rfl)
theorem aw_x (eng : Int) (E M : Nat) (md : Int) (h0 : 0 ≤ eng) : ∃ v, BvR (alwB eng E M md) v ∧ DR 88 (argsAt [.v (.int .u8 eng), .v (fmt E M), .v (.int .u8 md)]) v :=
  detP [.v (.int .u8 eng), .v (fmt E M), .v (.int .u8 md)] 3 (by decide) rfl (by kernel_rfl) (by kernel_rfl) (by simp [Arg.ok, selfV, selfC, fmt]) (aw_run w0 eng E M md h0 rfl) (by rintro _ rfl; rfl)
theorem al_dft (eng : Int) (E M : Nat) (md : Int) (h0 : 0 ≤ eng) (tb : Nat) : DFT tb 159 #[.pointer (some ⟨tb, 0, none⟩), .int .u8 eng, fmt E M, .int .u8 md] (.bool (alwB eng E M md)) := by
  obtain ⟨v, rfl, hd⟩ := al_x eng E M md h0
  exact fun w K ho hK => hd w tb K ho hK
theorem aw_dft (eng : Int) (E M : Nat) (md : Int) (h0 : 0 ≤ eng) (tb : Nat) : DFT tb 88 #[.int .u8 eng, fmt E M, .int .u8 md] (.bool (alwB eng E M md)) := by
  obtain ⟨v, rfl, hd⟩ := aw_x eng E M md h0
  exact fun w K ho hK => hd w tb K ho hK
end Go.Proofs.YgcoaaGreat.NatW
