/-
  A table of zeros: At.
-/
import Derived.Test.YgcoaaGreatDecC
import Derived.Test.YgcoaaGreatSoftF
set_option linter.unusedVariables false
set_option linter.unusedSimpArgs false
namespace Go.Proofs.YgcoaaGreat.NatW
attribute [local go_sem] Go.Instr.field Go.asAgg
open Go.RowKit

/-- Block tb is a table of zeros. -/
def TabZ (tb : Nat) (w : World) : Prop := (∀ i, i < 1392 → w.cell? ⟨tb, i, none⟩ = some (.int .u64 0)) ∧ ∀ i, i < 696 → w.cell? ⟨tb, 1392 + i, none⟩ = some (.int .i16 0)
theorem TabZ.lt {tb : Nat} {w : World} (h : TabZ tb w) : tb < w.heap.size := World.block_lt_of_cell? _ ⟨tb, 0, none⟩ (h.1 0 (by omega))
theorem TabZ.kept {tb B : Nat} {w w' : World} (h : TabZ tb w) (hb : Below B w w') (hB : tb < B) : TabZ tb w' := ⟨fun i hi => (hb.cell (p := ⟨tb, i, none⟩) hB).trans (h.1 i hi), fun i hi => (hb.cell (p := ⟨tb, 1392 + i, none⟩) hB).trans (h.2 i hi)⟩

/-- The same, of a function that reads the table. -/
def RetT (tb n : Nat) (args : Array Value) (Ψ : Value → Prop) : Prop := ∀ (w : World) (K : Ending → World → Prop), TabZ tb w → (∀ v w', Ψ v → Below w.heap.size w w' → K (.returned v) w') → Calls Oaag.prog n args w K

theorem RetT.at_ {tb n : Nat} {args : Array Value} {Ψ : Value → Prop} (h : RetT tb n args Ψ) {wb : World} (hT : ∀ x : Later wb, TabZ tb x.at_) (x : Later wb) (K : Ending → World → Prop) (hK : ∀ v w', Ψ v → Below x.at_.heap.size x.at_ w' → K (.returned v) w') : Calls Oaag.prog n args x.at_ K := h x.at_ K (hT x) hK
theorem RetT.run {tb n : Nat} {args : Array Value} {Ψ : Value → Prop} (h : RetT tb n args Ψ) {wb : World} (hT : ∀ x : Later wb, TabZ tb x.at_) (x : Later wb) {K : Ending → World → Prop} (hK : ∀ v (y : Later wb), Ψ v → K (.returned v) y.at_) : Calls Oaag.prog n args x.at_ K :=
  h x.at_ K (hT x) fun v w' hv hb => hK v ⟨w', x.ok.trans (hb.mono x.ok.size)⟩ hv





def Box0 (b : Nat) (w : World) : Prop := w.heap[b]? = some (.cells #[.int .u64 0, .int .u64 0] 47 (0, 0))
theorem Box0.later {b : Nat} (w w' : World) (h : Box0 b w) (hb : Below w.heap.size w w') : Box0 b w' := by
  have hlt : b < w.heap.size := (Array.getElem?_eq_some_iff.1 h).1
  unfold Box0
  rw [hb.block b hlt]; exact h
theorem Box0.set {b : Nat} {w : World} (hr : Box0 b w) : Box0 b ((w.setCell ⟨b, 0, none⟩ (.int .u64 0)).setCell ⟨b, 1, none⟩ (.int .u64 0)) := by
  unfold Box0 at *
  simp [heap_set, setc, hr]

theorem boxr (w : World) (xs : Array Value) (r : TypeId) : ∃ (wb : World) (x0 : Later wb), w.alloc (.cells xs r) = x0.at_ ∧ wb = w ∧ x0.at_.heap[w.heap.size]? = some (.cells xs r (0, 0)) ∧ (∀ x : Later wb, Below w.heap.size w x.at_) :=
  ⟨w, ⟨_, (Below.refl _ _).alloc (Nat.le_refl _) _⟩, rfl, rfl, heap_alloc_new _ _, fun x => x.ok⟩

set_option maxRecDepth 20000 in
set_option maxHeartbeats 1000000 in
theorem at_zero (tb : Nat) (q : Int) (h1 : -32768 ≤ q) (h2 : q ≤ 32767) : RetT tb 191 #[.pointer (some ⟨tb, 0, none⟩), .int .i16 q] (fun v => ∃ b, v = .tuple #[.agg #[.int .u64 0, .int .u64 0], .int .i16 0, .bool b]) := by
  intro w K hT hK
  have HK := hide hK
  clear hK
  obtain ⟨wb, x0, hwb, hww, r0, hB⟩ := boxr w #[.int .u64 0, .int .u64 0] 47
  have hT' : ∀ x : Later wb, TabZ tb x.at_ := fun x => hT.kept (hB x) hT.lt
  have hI0 : Box0 w.heap.size x0.at_ := r0
  have HI0 := hide hI0
  have hsz : wb.heap.size = w.heap.size := by rw [hww]
  have hne : Nonempty (Later wb) := ⟨x0⟩
  have k0 : x0.at_.cell? ⟨w.heap.size, 0, none⟩ = some (.int .u64 0) := by rw [cell_of_row _ _ _ _ _ _ r0]; rfl
  have k1 : x0.at_.cell? ⟨w.heap.size, 1, none⟩ = some (.int .u64 0) := by rw [cell_of_row _ _ _ _ _ _ r0]; rfl
  have fr0 := frozen_of_row x0.at_ w.heap.size 0 _ _ r0
  have fr1 := frozen_of_row x0.at_ w.heap.size 1 _ _ r0
  clear r0 hI0 hww
  go_enter Oaag.func191, Oaag.ntmps191
  by_cases hq : -348 ≤ q ∧ q ≤ 347
  · obtain ⟨hq1, hq2⟩ := hq
    obtain ⟨i, hi⟩ : ∃ i : Nat, q = (i : Int) - 348 := ⟨(q + 348).toNat, by omega⟩
    subst hi
    have t0 : ∀ x : Later wb, x.at_.cell? ⟨tb, i * 2, none⟩ = some (.int .u64 0) := fun x => (hT' x).1 _ (by omega)
    have t1 : ∀ x : Later wb, x.at_.cell? ⟨tb, i * 2 + 1, none⟩ = some (.int .u64 0) := fun x => (hT' x).1 _ (by omega)
    have t2 : ∀ x : Later wb, x.at_.cell? ⟨tb, 1392 + i, none⟩ = some (.int .i16 0) := fun x => (hT' x).2 _ (by omega)
    clear hT hT'
    go_wp2_with fail
    clear k0 k1 fr0 fr1
    (repeat (first | (rewrite [Go.Proofs.YgcoaaGreat.NatW.frz_ite]; generalize Go.Proofs.YgcoaaGreat.NatW.frzI _ = x__) | (rewrite [Go.Proofs.YgcoaaGreat.NatW.frz_dec]; generalize Go.Proofs.YgcoaaGreat.NatW.frzB _ = x__) | (rewrite [Go.Proofs.YgcoaaGreat.NatW.frz_beq]; generalize Go.Proofs.YgcoaaGreat.NatW.frzB _ = x__) | (rewrite [Go.Proofs.YgcoaaGreat.NatW.frz_not]; generalize Go.Proofs.YgcoaaGreat.NatW.frzB _ = x__) | (rewrite [Go.Proofs.YgcoaaGreat.NatW.frz_and]; generalize Go.Proofs.YgcoaaGreat.NatW.frzB _ = x__) | (rewrite [Go.Proofs.YgcoaaGreat.NatW.frz_or]; generalize Go.Proofs.YgcoaaGreat.NatW.frzB _ = x__)))
    refine Go.LaxS.region_stores _ 13 2 [(2, fun v => v = .pointer (some ⟨tb, 0, none⟩)), (8, fun v => v = .pointer (some ⟨tb, 0, none⟩))] [12] (Box0 w.heap.size) (by kernel_rfl) (by kernel_rfl) (by kernel_rfl) (by kernel_rfl) (unhide HI0) Box0.later (List.forall_mem_cons.2 ⟨⟨_, rfl⟩, List.forall_mem_cons.2 ⟨⟨_, rfl⟩, fun _ h => by cases h⟩⟩) ?_
    iterate 2 (refine Go.LaxS.walk_det rfl rfl rfl rfl ?_; go_big_quiet_want; go_big_quiet_op; go_big_quiet_on; refine wpQuiet_nil ?_)
    refine Go.LaxS.call_at rfl rfl rfl Box0.later ?_ (fun y__ K__ hK__ => by (have HK__ := Go.Proofs.YgcoaaGreat.NatW.hide hK__; clear hK__; go_wp2_with fail; exact Go.Proofs.YgcoaaGreat.NatW.unhide HK__ _ _ rfl (Below.refl _ _)))
    rintro v rfl
    ((try dsimp only); go_big_quiet_want; go_big_quiet_op; go_big_quiet_on; refine wpQuiet_nil ?_)
    iterate 5 (refine Go.LaxS.walk_det rfl rfl rfl rfl ?_; go_big_quiet_want; go_big_quiet_op; go_big_quiet_on; refine wpQuiet_nil ?_)
    refine Go.LaxS.call_at rfl rfl rfl Box0.later ?_ (fun y__ K__ hK__ => by (have HK__ := Go.Proofs.YgcoaaGreat.NatW.hide hK__; clear hK__; go_wp2_with fail; exact Go.Proofs.YgcoaaGreat.NatW.unhide HK__ _ _ rfl (Below.refl _ _)))
    rintro v rfl
    ((try dsimp only); go_big_quiet_want; go_big_quiet_op; go_big_quiet_on; refine wpQuiet_nil ?_)
    iterate 3 (refine Go.LaxS.walk_det rfl rfl rfl rfl ?_; go_big_quiet_want; go_big_quiet_op; go_big_quiet_on; refine wpQuiet_nil ?_)
    refine Go.LaxS.store_at rfl rfl rfl rfl ?_ (fun y K hI hK2 => by
      have k0 : y.at_.cell? ⟨w.heap.size, 0, none⟩ = some (.int .u64 0) := by rw [cell_of_row _ _ _ _ _ _ hI]; rfl
      have k1 : y.at_.cell? ⟨w.heap.size, 1, none⟩ = some (.int .u64 0) := by rw [cell_of_row _ _ _ _ _ _ hI]; rfl
      have fr0 := frozen_of_row y.at_ w.heap.size 0 _ _ hI
      have fr1 := frozen_of_row y.at_ w.heap.size 1 _ _ hI
      have HR := hide hI
      have HK2 := hide hK2
      clear hI hK2
      go_wp2_with fail
      exact unhide HK2 _ (below_store (below_store y.ok (by omega) _) (by omega) _) (Box0.set (unhide HR)))
    refine Go.LaxS.end_at ?_
    intro y hI hG
    clear hG
    have k0 : y.at_.cell? ⟨w.heap.size, 0, none⟩ = some (.int .u64 0) := by rw [cell_of_row _ _ _ _ _ _ hI]; rfl
    have k1 : y.at_.cell? ⟨w.heap.size, 1, none⟩ = some (.int .u64 0) := by rw [cell_of_row _ _ _ _ _ _ hI]; rfl
    clear hI
    go_wp2_with fail
    refine bodyPost_box rfl ?_
    intro r hr
    simp [results, Oaag.results191, go_sem, k0, k1] at hr
    subst hr
    refine ⟨_, rfl, ?_⟩
    exact unhide HK _ _ ⟨_, rfl⟩ (hB _)
  · have HQ := hide hq
    clear hq
    go_wp2_with (fail)
    all_goals first
      | (refine bodyPost_box rfl ?_
         intro r hr
         simp [results, Oaag.results191, go_sem, k0, k1] at hr
         subst hr
         refine ⟨_, rfl, ?_⟩
         exact unhide HK _ _ ⟨_, rfl⟩ (by (repeat ((with_reducible refine Go.Proofs.YgcoaaGreat.NatW.at_setb ?_); refine below_store ?_ (by omega) _)); exact hB _))
      | (exfalso; have := unhide HQ; omega)
      | skip

end Go.Proofs.YgcoaaGreat.NatW
