/-
  Package exact: whole.
-/
import Derived.Test.YgcoaaGreatExA
import Derived.Test.YgcoaaGreatTacB
set_option linter.unusedVariables false
set_option linter.unusedSimpArgs false
namespace Go.Proofs.YgcoaaGreat.NatW
attribute [local go_sem] Go.Instr.field Go.asAgg
open Go.RowKit
open Go.Proofs.YgcoaaGreat.Limbs

set_option maxRecDepth 20000 in
set_option maxHeartbeats 1000000 in
theorem exwhole_any (w : World) (neg : Bool) (a : Option Addr) (n cap : Nat) :
    Calls Oaag.prog 69 #[.bool neg, .slice a n cap] w fun e w' => ∃ a' cap', e = .returned (.agg #[.bool neg, .slice a n cap, .slice a' (lim 1).length cap']) ∧ Res w.heap.size w' a' cap' 1 ∧ Below w.heap.size w w' := by
  go_enter Oaag.func69, Oaag.ntmps69
  go_wp2_with fail
  obtain ⟨w0, hw0⟩ : ∃ w0, w0 = w.alloc (.cells #[.bool false, .slice none 0 0, .slice none 0 0] 67) := ⟨_, rfl⟩
  have hb0 : Below w.heap.size w w0 := by rw [hw0]; exact (Below.refl _ _).alloc (Nat.le_refl _) _
  have r0 : w0.heap[w.heap.size]? = some (.cells #[.bool false, .slice none 0 0, .slice none 0 0] 67 (0, 0)) := by rw [hw0, heap_alloc_new]
  have hz0 : w.heap.size < w0.heap.size := by rw [hw0]; simp
  rw [← hw0]
  clear hw0
  refine (fromU64_any w0 1 (by omega)).mono ?_
  rintro e w1 ⟨a1, cap1, rfl, hres, hb1⟩
  have r1 : w1.heap[w.heap.size]? = some (.cells #[.bool false, .slice none 0 0, .slice none 0 0] 67 (0, 0)) := by rw [hb1.block _ hz0]; exact r0
  have k0 := cell_of_row w1 w.heap.size 0 _ _ _ r1
  have k1 := cell_of_row w1 w.heap.size 1 _ _ _ r1
  have k2 := cell_of_row w1 w.heap.size 2 _ _ _ r1
  have f0 := frozen_of_row w1 w.heap.size 0 _ _ r1
  have f1 := frozen_of_row w1 w.heap.size 1 _ _ r1
  have f2 := frozen_of_row w1 w.heap.size 2 _ _ r1
  simp at k0 k1 k2
  have hb : Below w.heap.size w w1 := hb0.trans (hb1.mono hb0.size)
  have HR := hide hres
  have HB := hide hb
  clear hres hb hb0 hb1 r0 r1
  go_wp2_with fail
  refine bodyPost_box rfl ?_
  intro r hr
  simp [results, Oaag.results69, go_sem, k0, k1, k2] at hr
  subst hr
  refine ⟨_, rfl, a1, cap1, rfl, ?_, ?_⟩
  · have h := unhide HR
    rcases h with ⟨h0, _⟩ | ⟨h0, g, l, e1, hB, hr, r⟩
    · cases h0
    · refine .inr ⟨h0, g, l, e1, by omega, ?_, r⟩
      exact ((hr.other (p := ⟨w.heap.size, 0, none⟩) (by simp; omega) _).other (p := ⟨w.heap.size, 1, none⟩) (by simp; omega) _).other (p := ⟨w.heap.size, 2, none⟩) (by simp; omega) _
  · exact below_store (below_store (below_store (unhide HB) (Nat.le_refl _) _) (Nat.le_refl _) _) (Nat.le_refl _) _

end Go.Proofs.YgcoaaGreat.NatW
