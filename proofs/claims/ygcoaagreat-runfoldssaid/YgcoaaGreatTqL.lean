/-
  The top: runFolds, RunFolds.
-/
import Derived.Test.YgcoaaGreatTqK
import Derived.Test.YgcoaaGreatTabE
set_option linter.unusedVariables false
set_option linter.unusedSimpArgs false
set_option maxRecDepth 20000
namespace Go.Proofs.YgcoaaGreat.NatW
open Go.RowKit
open Go.Proofs.YgcoaaGreat.Det
open Go.Proofs.YgcoaaGreat.Limbs Go.Proofs.YgcoaaGreat.Bits
attribute [local go_sem] Go.Instr.field Go.asAgg

theorem rfo_all (eng : Int) (h0 : 0 ≤ eng) (E M : Nat) (md : Int) (hm0 : 0 ≤ md) (hm1 : md ≤ 255) (tb : Nat) (v : Value) (ops : List OpT) (hok : ∀ o ∈ ops, o.Ok) (w : World) (ho : On tb w) (hs : Scr w.heap.size w v ops) :
    Calls Oaag.prog 46 #[.pointer (some ⟨tb, 0, none⟩), .int .u8 eng, fmt E M, .int .u8 md, v] w fun e w' => e = .returned (.bool true) ∧ Below w.heap.size w w' := by
  by_cases ha : alwB eng E M md = true
  · obtain ⟨S, h1, h2⟩ := trace_t eng E M md h0 hm0 hm1 ha ops hok
    by_cases hl : ops.length ≤ 256
    · exact rfo_C eng h0 E M md tb v ops ha hl S h1 h2 w ho hs
    · exact rfo_T eng h0 E M md tb v ops ha (by omega) S h1 w ho hs
  · rw [Bool.not_eq_true] at ha
    exact rfo_F eng h0 E M md tb v ops ha _ (trace_f eng E M md h0 ha ops) (fun _ => rfl) w ho hs

set_option maxHeartbeats 4000000 in
theorem rf_run (eng : Int) (h0 : 0 ≤ eng) (E M : Nat) (md : Int) (hm0 : 0 ≤ md) (hm1 : md ≤ 255) (tb : Nat) (v : Value) (ops : List OpT) (hok : ∀ o ∈ ops, o.Ok) (w : World) (hp : 0 < tb) (ht : Tab w tb (fun _ => True)) (hs : Scr w.heap.size w v ops) :
    Calls Oaag.prog 18 #[.pointer (some ⟨tb, 0, none⟩), .int .u8 eng, fmt E M, .int .u8 md, v] w fun e w' => e = .returned (.bool true) ∧ Below w.heap.size w w' := by
  have HT := hide ht
  have HS := hide hs
  have HOK := hide hok
  obtain ⟨a, cap, rfl, -⟩ := hs
  clear ht hok
  go_enter Oaag.func18, Oaag.ntmps18
  go_wp2_with (first
    | (with_reducible refine at_fn 23 ?_
       refine gen_calls ?_
       intro W1 hW1
       have hb1 : Below w.heap.size w W1 := by rw [← hW1]; exact (Below.refl _ _).alloc (Nat.le_refl _) _
       have hr1 : W1.heap[w.heap.size]? = some (.cells #[.int .u8 E, .int .u8 M] 23 (0, 0)) := by rw [← hW1]; exact row_new _ _ _ rfl
       clear hW1
       refine (ok_yes W1 tb ((unhide HT).later hb1)).mono ?_
       rintro _ W2 ⟨rfl, hb2⟩
       have hr2 := (hb2.block w.heap.size (Array.getElem?_eq_some_iff.1 hr1).1).trans hr1
       have k0 := cellr hr2 0 _ rfl
       have k1 := cellr hr2 1 _ rfl
       have hbw := hb1.trans (hb2.mono hb1.size)
       have HB := hide hbw
       clear hr1 hr2 hb1 hb2 hbw)
    | (with_reducible refine at_fn 46 ?_
       refine (rfo_all eng h0 E M md hm0 hm1 tb _ ops (unhide HOK) _ (on_tab hp ((unhide HT).later (unhide HB))) (((unhide HS).kept (unhide HB) (Nat.le_refl _)).up (unhide HB).size)).mono ?_
       rintro _ W3 ⟨rfl, hb3⟩
       have HB3 := hide ((unhide HB).trans (hb3.mono (unhide HB).size))
       clear hb3)
    | fail)
  go_ret
  exact ⟨rfl, unhide HB3⟩

set_option maxHeartbeats 4000000 in
theorem runFolds_any (eng : Int) (h0 : 0 ≤ eng) (E M : Nat) (md : Int) (hm0 : 0 ≤ md) (hm1 : md ≤ 255) (v : Value) (ops : List OpT) (hok : ∀ o ∈ ops, o.Ok) (w : World) (hs : Scr w.heap.size w v ops) :
    Calls Oaag.prog 5 #[.int .u8 eng, fmt E M, .int .u8 md, v] w fun e w' => e = .returned (.bool true) ∧ Below w.heap.size w w' := by
  have HS := hide hs
  have HOK := hide hok
  obtain ⟨a, cap, rfl, -⟩ := hs
  clear hok
  go_enter Oaag.func5, Oaag.ntmps5
  go_wp2_with (fail)
  refine gen_wp ?_
  intro W1 hW1
  obtain ⟨W0, x0, hx0, hb1, hr1⟩ : ∃ (W0 : World) (x0 : Later W0), W1 = x0.at_ ∧ Below w.heap.size w W0 ∧ W0.heap[w.heap.size]? = some (.cells #[.int .u8 E, .int .u8 M] 23 (0, 0)) := by
    refine ⟨W1, ⟨W1, Below.refl _ _⟩, rfl, ?_, ?_⟩
    · rw [← hW1]; exact (Below.refl _ _).alloc (Nat.le_refl _) _
    · rw [← hW1]; exact row_new _ _ _ rfl
  clear hW1
  subst hx0
  have hpos : 0 < W0.heap.size := by have := (Array.getElem?_eq_some_iff.1 hr1).1; omega
  have c00 : ∀ x : Later W0, _ = some (.int .u8 E : Value) := Later.cell hr1 0 _ rfl
  have c01 : ∀ x : Later W0, _ = some (.int .u8 M : Value) := Later.cell hr1 1 _ rfl
  have hne : Nonempty (Later W0) := ⟨x0⟩
  have HB1 := hide hb1
  clear hr1 hb1
  (with_reducible refine at_reg 1 ?_)
  refine Go.LaxS.region_gen _ 5 4 [(0, fun v => ∃ q, v = .pointer (some ⟨q, 0, none⟩))] [(0, fun v w' => ∃ q, v = .pointer (some ⟨q, 0, none⟩) ∧ 0 < q ∧ Tab w' q (fun _ => True))] [] (fun _ => True) (by kernel_rfl) (by kernel_rfl) (by kernel_rfl) (by kernel_rfl) trivial (fun _ _ _ _ => trivial) (List.forall_mem_cons.2 ⟨fun v w1 w2 h hb => by
    obtain ⟨q, h1, h2, h3⟩ := h
    exact ⟨q, h1, h2, h3.later hb⟩, fun _ h => by cases h⟩) (List.forall_mem_cons.2 ⟨⟨_, 0, rfl⟩, fun _ h => by cases h⟩) ?_
  refine Go.LaxS.gen_call rfl rfl rfl (fun _ _ _ _ => trivial) ?_ (fun y K hI hG hK => by
    go_wp2_with fail
    refine (build_any y.at_).mono ?_
    rintro e w' ⟨rfl, hT, hb⟩
    have hh := Go.Proofs.YgcoaaGreat.NatW.hide (hK _ w' ⟨_, rfl⟩ ⟨_, rfl, by have := y.ok.size; omega, hT⟩ hb)
    clear hK
    go_wp2_with fail
    exact Eq.mp (by kernel_rfl) (Go.Proofs.YgcoaaGreat.NatW.unhide hh))
  rintro v9 ⟨q, rfl⟩
  ((try dsimp only); go_big_quiet_want; go_big_quiet_op; go_big_quiet_on; refine wpQuiet_nil ?_)
  iterate 4 (refine Go.LaxS.walk_det rfl rfl rfl rfl ?_; go_big_quiet_want; go_big_quiet_op; go_big_quiet_on; refine wpQuiet_nil ?_)
  refine Go.LaxS.gen_end ?_
  intro y hI hG
  obtain ⟨q', e9, hq0, hT⟩ : ∃ q', _ = Value.pointer (some ⟨q', 0, none⟩) ∧ 0 < q' ∧ Tab y.at_ q' (fun _ => True) := hG (0, _) (by (repeat (first | exact List.Mem.head _ | apply List.Mem.tail)))
  cases e9
  clear hG
  have HT := hide hT
  have hby := (unhide HB1).trans (y.ok.mono (unhide HB1).size)
  have HBY := hide hby
  clear hT hby
  go_wp2_with (first
    | (with_reducible refine at_fn 18 ?_
       refine (rf_run eng h0 E M md hm0 hm1 q _ ops (unhide HOK) _ hq0 (unhide HT) (((unhide HS).kept (unhide HBY) (Nat.le_refl _)).up (unhide HBY).size)).mono ?_
       rintro _ W3 ⟨rfl, hb3⟩
       have HB3 := hide ((unhide HBY).trans (hb3.mono (unhide HBY).size))
       clear hb3)
    | fail)
  go_ret
  exact ⟨rfl, unhide HB3⟩
end Go.Proofs.YgcoaaGreat.NatW
