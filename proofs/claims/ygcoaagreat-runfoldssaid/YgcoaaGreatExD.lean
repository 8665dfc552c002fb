/-
  Package exact: scaled, on.
-/
import Derived.Test.YgcoaaGreatExC
set_option linter.unusedVariables false
set_option linter.unusedSimpArgs false
namespace Go.Proofs.YgcoaaGreat.NatW
attribute [local go_sem] Go.Instr.field Go.asAgg
open Go.RowKit
open Go.Proofs.YgcoaaGreat.Limbs

theorem Res.block {B : Nat} {w : World} {a : Option Addr} {cap n : Nat} (h : Res B w a cap n) (g : Nat) (hg : a = some ⟨g, 0, none⟩) : B ≤ g ∧ g < w.heap.size := by
  rcases h with ⟨_, h1, _⟩ | ⟨_, g', l, e1, hB, hr, _⟩
  · rw [h1] at hg; cases hg
  · rw [e1] at hg; cases hg; exact ⟨hB, hr.size⟩

set_option maxRecDepth 20000 in
set_option maxHeartbeats 1000000 in
theorem scaled_pos (w : World) (neg : Bool) (a : Option Addr) (cap x B : Nat) (h : Res B w a cap x) (hB : B ≤ w.heap.size) (hlen : (lim x).length ≤ 100000) (k : Nat) (hk : k < 65536) :
    Calls Oaag.prog 70 #[.bool neg, .slice a (lim x).length cap, .int .i64 (k : Int)] w fun e w' => ∃ v, e = .returned v ∧ Frac B w' v ∧ Below w.heap.size w w' := by
  have H := hide h
  clear h
  go_enter Oaag.func70, Oaag.ntmps70
  go_wp2_with fail
  obtain ⟨w0, hw0, hb0, r0, hz0⟩ := boxq w
  rw [← hw0]
  clear hw0
  refine (shl_any w0 a cap (lim x) x (val_lim _) ((unhide H).sl.later hb0) k hk (by omega)).mono ?_
  rintro e w1 ⟨a1, cap1, rfl, hres1, hb1⟩
  have hz1 := hb1.size
  have r1 : w1.heap[w.heap.size]? = some (.cells #[.bool false, .slice none 0 0, .slice none 0 0] 67 (0, 0)) := by rw [hb1.block _ (by omega)]; exact r0
  have HR1 := hide hres1
  have HB1 := hide (hb0.trans (hb1.mono hb0.size))
  have R1 := hide r1
  clear hres1 hb1 hb0 r0 r1 H
  go_wp2_with fail
  refine (exwhole_any w1 neg a1 (lim (x * 2 ^ k)).length cap1).mono ?_
  rintro e w2 ⟨a2, cap2, rfl, hres2, hb2⟩
  have r2 : w2.heap[w.heap.size]? = some (.cells #[.bool false, .slice none 0 0, .slice none 0 0] 67 (0, 0)) := by rw [hb2.block _ (by omega)]; exact unhide R1
  have k0 := cell_of_row w2 w.heap.size 0 _ _ _ r2
  have k1 := cell_of_row w2 w.heap.size 1 _ _ _ r2
  have k2 := cell_of_row w2 w.heap.size 2 _ _ _ r2
  have f0 := frozen_of_row w2 w.heap.size 0 _ _ r2
  have f1 := frozen_of_row w2 w.heap.size 1 _ _ r2
  have f2 := frozen_of_row w2 w.heap.size 2 _ _ r2
  simp at k0 k1 k2
  have hb : Below w.heap.size w w2 := (unhide HB1).trans (hb2.mono (unhide HB1).size)
  have HR := hide hres2
  have HN := hide ((unhide HR1).later hb2)
  have HB := hide hb
  clear hres2 hb hb2 r2 R1 HB1 HR1
  go_wp2_with fail
  refine bodyPost_box rfl ?_
  intro r hr
  simp [results, Oaag.results70, go_sem, k0, k1, k2] at hr
  subst hr
  refine ⟨_, rfl, _, rfl, ⟨neg, a1, cap1, x * 2 ^ k, a2, cap2, 1, rfl, ?_, ?_, ⟨by decide, by have := lenM x (2 ^ k); have := len2 k; omega, by decide⟩⟩, ?_⟩
  · have h2 : Res B w2 a1 cap1 (x * 2 ^ k) := (unhide HN).lower (by omega)
    have hne : ∀ g, a1 = some ⟨g, 0, none⟩ → g ≠ w.heap.size := fun g hg => by have := ((unhide HN).block g hg).1; omega
    exact ((h2.away _ hne).away _ hne).away _ hne
  · have h2 : Res B w2 a2 cap2 1 := (unhide HR).lower (by omega)
    have hne : ∀ g, a2 = some ⟨g, 0, none⟩ → g ≠ w.heap.size := fun g hg => by have := ((unhide HR).block g hg).1; omega
    exact ((h2.away _ hne).away _ hne).away _ hne
  · exact below_store (below_store (below_store (unhide HB) (Nat.le_refl _) _) (Nat.le_refl _) _) (Nat.le_refl _) _

end Go.Proofs.YgcoaaGreat.NatW
