/-
  Package exact: scaled: a small fraction.
-/
import Derived.Test.YgcoaaGreatExD
set_option linter.unusedVariables false
set_option linter.unusedSimpArgs false
namespace Go.Proofs.YgcoaaGreat.NatW
attribute [local go_sem] Go.Instr.field Go.asAgg
open Go.RowKit
open Go.Proofs.YgcoaaGreat.Limbs

theorem len2s (k : Nat) : (lim (2 ^ k)).length ≤ k / 32 + 1 := by
  refine lim_length_le _ _ ?_
  have e : (4294967296 : Nat) = 2 ^ 32 := by decide
  rw [e, ← Nat.pow_mul]
  exact Nat.pow_lt_pow_right (by decide) (by omega)
def FrOs (xN xD : Nat) : Prop := xD ≠ 0 ∧ (lim xN).length ≤ 2100 ∧ (lim xD).length ≤ 2100
/-- A small fraction in memory of its own. -/
def Fras (B : Nat) (w : World) (v : Value) : Prop := ∃ neg aN cN xN aD cD xD, v = .agg #[.bool neg, .slice aN (lim xN).length cN, .slice aD (lim xD).length cD] ∧ Res B w aN cN xN ∧ Res B w aD cD xD ∧ FrOs xN xD

set_option maxRecDepth 20000 in
set_option maxHeartbeats 1000000 in
theorem scaleds_neg (w : World) (neg : Bool) (a : Option Addr) (cap x B : Nat) (h : Res B w a cap x) (hB : B ≤ w.heap.size) (hlen : (lim x).length ≤ 10) (k : Nat) (hk1 : 1 ≤ k) (hk : k < 65536) :
    Calls Oaag.prog 70 #[.bool neg, .slice a (lim x).length cap, .int .i64 (-(k : Int))] w fun e w' => ∃ v, e = .returned v ∧ Fras B w' v ∧ Below w.heap.size w w' := by
  have H := hide h
  have hal : ∀ g, a = some ⟨g, 0, none⟩ → g < w.heap.size := by
    intro g hg
    rcases h with ⟨_, h1, _⟩ | ⟨_, g', l, e1, _, hr, _⟩
    · rw [h1] at hg; cases hg
    · rw [e1] at hg; cases hg; exact hr.size
  clear h
  go_enter Oaag.func70, Oaag.ntmps70
  go_wp2_with fail
  obtain ⟨w0, hw0, hb0, r0, hz0⟩ := boxq w
  rw [← hw0]
  clear hw0
  refine (fromU64_any w0 1 (by omega)).mono ?_
  rintro e w1 ⟨a1, cap1, rfl, hres1, hb1⟩
  have hz1 := hb1.size
  have hs := shl_any w1 a1 cap1 (lim 1) 1 (val_lim _) hres1.sl k hk (by have := lim_length_le 1 1 (by decide); omega)
  have r1 : w1.heap[w.heap.size]? = some (.cells #[.bool false, .slice none 0 0, .slice none 0 0] 67 (0, 0)) := by rw [hb1.block _ (by omega)]; exact r0
  have HS := hide hs
  have HB1 := hide (hb0.trans (hb1.mono hb0.size))
  have R1 := hide r1
  clear hs hres1 hb1 hb0 r0 r1
  go_wp2_with fail
  refine (unhide HS).mono ?_
  rintro e w2 ⟨a2, cap2, rfl, hres2, hb2⟩
  have r2 : w2.heap[w.heap.size]? = some (.cells #[.bool false, .slice none 0 0, .slice none 0 0] 67 (0, 0)) := by rw [hb2.block _ (by omega)]; exact unhide R1
  have k0 := cell_of_row w2 w.heap.size 0 _ _ _ r2
  have k1 := cell_of_row w2 w.heap.size 1 _ _ _ r2
  have k2 := cell_of_row w2 w.heap.size 2 _ _ _ r2
  have f0 := frozen_of_row w2 w.heap.size 0 _ _ r2
  have f1 := frozen_of_row w2 w.heap.size 1 _ _ r2
  have f2 := frozen_of_row w2 w.heap.size 2 _ _ r2
  simp at k0 k1 k2
  have hb : Below w.heap.size w w2 := (unhide HB1).trans (hb2.mono (unhide HB1).size)
  have HR := hide hres2
  have HB := hide hb
  clear hres2 hb hb2 r2 R1 HB1 HS
  go_wp2_with fail
  refine bodyPost_box rfl ?_
  intro r hr
  simp [results, Oaag.results70, go_sem, k0, k1, k2] at hr
  subst hr
  refine ⟨_, rfl, _, rfl, ⟨neg, a, cap, x, a2, cap2, 2 ^ k, rfl, ?_, ?_, ?_⟩, ?_⟩
  · have h2 : Res B w2 a cap x := (unhide H).later (unhide HB)
    exact ((h2.away _ fun g hg => by have := hal g hg; omega).away _ fun g hg => by have := hal g hg; omega).away _ fun g hg => by have := hal g hg; omega
  · have h2 : Res B w2 a2 cap2 (2 ^ k) := by
      have := (unhide HR).lower (B' := B) (by omega)
      rwa [Nat.one_mul] at this
    have hne : ∀ g, a2 = some ⟨g, 0, none⟩ → g ≠ w.heap.size := by
      intro g hg
      rcases unhide HR with ⟨_, h1, _⟩ | ⟨_, g', l, e1, hBg, _⟩
      · rw [h1] at hg; cases hg
      · rw [e1] at hg; cases hg; omega
    exact ((h2.away _ hne).away _ hne).away _ hne
  · have := Nat.one_le_two_pow (n := k)
    have := len2s k
    exact ⟨by omega, by omega, by omega⟩
  · exact below_store (below_store (below_store (unhide HB) (Nat.le_refl _) _) (Nat.le_refl _) _) (Nat.le_refl _) _

set_option maxRecDepth 20000 in
set_option maxHeartbeats 1000000 in
theorem scaleds_pos (w : World) (neg : Bool) (a : Option Addr) (cap x B : Nat) (h : Res B w a cap x) (hB : B ≤ w.heap.size) (hlen : (lim x).length ≤ 10) (k : Nat) (hk : k < 65536) :
    Calls Oaag.prog 70 #[.bool neg, .slice a (lim x).length cap, .int .i64 (k : Int)] w fun e w' => ∃ v, e = .returned v ∧ Fras B w' v ∧ Below w.heap.size w w' := by
  have H := hide h
  clear h
  go_enter Oaag.func70, Oaag.ntmps70
  go_wp2_with fail
  obtain ⟨w0, hw0, hb0, r0, hz0⟩ := boxq w
  rw [← hw0]
  clear hw0
  refine (shl_any w0 a cap (lim x) x (val_lim _) ((unhide H).sl.later hb0) k hk (by omega)).mono ?_
  rintro e w1 ⟨a1, cap1, rfl, hres1, hb1⟩
  have hz1 := hb1.size
  have r1 : w1.heap[w.heap.size]? = some (.cells #[.bool false, .slice none 0 0, .slice none 0 0] 67 (0, 0)) := by rw [hb1.block _ (by omega)]; exact r0
  have HR1 := hide hres1
  have HB1 := hide (hb0.trans (hb1.mono hb0.size))
  have R1 := hide r1
  clear hres1 hb1 hb0 r0 r1 H
  go_wp2_with fail
  refine (exwhole_any w1 neg a1 (lim (x * 2 ^ k)).length cap1).mono ?_
  rintro e w2 ⟨a2, cap2, rfl, hres2, hb2⟩
  have r2 : w2.heap[w.heap.size]? = some (.cells #[.bool false, .slice none 0 0, .slice none 0 0] 67 (0, 0)) := by rw [hb2.block _ (by omega)]; exact unhide R1
  have k0 := cell_of_row w2 w.heap.size 0 _ _ _ r2
  have k1 := cell_of_row w2 w.heap.size 1 _ _ _ r2
  have k2 := cell_of_row w2 w.heap.size 2 _ _ _ r2
  have f0 := frozen_of_row w2 w.heap.size 0 _ _ r2
  have f1 := frozen_of_row w2 w.heap.size 1 _ _ r2
  have f2 := frozen_of_row w2 w.heap.size 2 _ _ r2
  simp at k0 k1 k2
  have hb : Below w.heap.size w w2 := (unhide HB1).trans (hb2.mono (unhide HB1).size)
  have HR := hide hres2
  have HN := hide ((unhide HR1).later hb2)
  have HB := hide hb
  clear hres2 hb hb2 r2 R1 HB1 HR1
  go_wp2_with fail
  refine bodyPost_box rfl ?_
  intro r hr
  simp [results, Oaag.results70, go_sem, k0, k1, k2] at hr
  subst hr
  refine ⟨_, rfl, _, rfl, ⟨neg, a1, cap1, x * 2 ^ k, a2, cap2, 1, rfl, ?_, ?_, ⟨by decide, by have := lenM x (2 ^ k); have := len2s k; omega, by decide⟩⟩, ?_⟩
  · have h2 : Res B w2 a1 cap1 (x * 2 ^ k) := (unhide HN).lower (by omega)
    have hne : ∀ g, a1 = some ⟨g, 0, none⟩ → g ≠ w.heap.size := fun g hg => by have := ((unhide HN).block g hg).1; omega
    exact ((h2.away _ hne).away _ hne).away _ hne
  · have h2 : Res B w2 a2 cap2 1 := (unhide HR).lower (by omega)
    have hne : ∀ g, a2 = some ⟨g, 0, none⟩ → g ≠ w.heap.size := fun g hg => by have := ((unhide HR).block g hg).1; omega
    exact ((h2.away _ hne).away _ hne).away _ hne
  · exact below_store (below_store (below_store (unhide HB) (Nat.le_refl _) _) (Nat.le_refl _) _) (Nat.le_refl _) _

end Go.Proofs.YgcoaaGreat.NatW
