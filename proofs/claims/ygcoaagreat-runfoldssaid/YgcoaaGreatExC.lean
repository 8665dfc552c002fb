/-
  Package exact: scaled.
-/
import Derived.Test.YgcoaaGreatExB
set_option linter.unusedVariables false
set_option linter.unusedSimpArgs false
namespace Go.Proofs.YgcoaaGreat.NatW
attribute [local go_sem] Go.Instr.field Go.asAgg
open Go.RowKit
open Go.Proofs.YgcoaaGreat.Limbs

theorem lenM (x y : Nat) : (lim (x * y)).length ≤ (lim x).length + (lim y).length := by
  refine lim_length_le _ _ ?_
  rw [Nat.pow_add]
  exact Nat.mul_lt_mul'' (lt_of_lim_length x) (lt_of_lim_length y)
theorem len2 (k : Nat) : (lim (2 ^ k)).length ≤ k + 1 :=
  lim_length_le _ _ (Nat.lt_of_le_of_lt (Nat.pow_le_pow_left (by decide : 2 ≤ 4294967296) k) (Nat.pow_lt_pow_right (by decide) (by omega)))
def FrOk (xN xD : Nat) : Prop := xD ≠ 0 ∧ (lim xN).length ≤ 1000000 ∧ (lim xD).length ≤ 1000000
/-- A fraction in memory of its own. -/
def Frac (B : Nat) (w : World) (v : Value) : Prop := ∃ neg aN cN xN aD cD xD, v = .agg #[.bool neg, .slice aN (lim xN).length cN, .slice aD (lim xD).length cD] ∧ Res B w aN cN xN ∧ Res B w aD cD xD ∧ FrOk xN xD

theorem Res.away {B : Nat} {w : World} {a : Option Addr} {cap n : Nat} (h : Res B w a cap n) {b i : Nat} (u : Value) (hb : ∀ g, a = some ⟨g, 0, none⟩ → g ≠ b) : Res B (w.setCell ⟨b, i, none⟩ u) a cap n := by
  rcases h with h | ⟨h0, g, l, e1, hB, hr, r⟩
  · exact .inl h
  · exact .inr ⟨h0, g, l, e1, hB, hr.other (p := ⟨b, i, none⟩) (hb g e1) u, r⟩

theorem boxq (w : World) : ∃ w0, w0 = w.alloc (.cells #[.bool false, .slice none 0 0, .slice none 0 0] 67) ∧ Below w.heap.size w w0 ∧ w0.heap[w.heap.size]? = some (.cells #[.bool false, .slice none 0 0, .slice none 0 0] 67 (0, 0)) ∧ w0.heap.size = w.heap.size + 1 :=
  ⟨_, rfl, (Below.refl _ _).alloc (Nat.le_refl _) _, heap_alloc_new _ _, by simp⟩

set_option maxRecDepth 20000 in
set_option maxHeartbeats 1000000 in
theorem scaled_neg (w : World) (neg : Bool) (a : Option Addr) (cap x B : Nat) (h : Res B w a cap x) (hB : B ≤ w.heap.size) (hlen : (lim x).length ≤ 100000) (k : Nat) (hk1 : 1 ≤ k) (hk : k < 65536) :
    Calls Oaag.prog 70 #[.bool neg, .slice a (lim x).length cap, .int .i64 (-(k : Int))] w fun e w' => ∃ v, e = .returned v ∧ Frac B w' v ∧ Below w.heap.size w w' := by
  have H := hide h
  have hal : ∀ g, a = some ⟨g, 0, none⟩ → g < w.heap.size := by
    intro g hg
    rcases h with ⟨_, h1, _⟩ | ⟨_, g', l, e1, _, hr, _⟩
    · rw [h1] at hg; cases hg
    · rw [e1] at hg; cases hg; exact hr.size
  clear h
  go_enter Oaag.func70, Oaag.ntmps70
  go_wp2_with fail
  obtain ⟨w0, hw0, hb0, r0, hz0⟩ := boxq w
  rw [← hw0]
  clear hw0
  refine (fromU64_any w0 1 (by omega)).mono ?_
  rintro e w1 ⟨a1, cap1, rfl, hres1, hb1⟩
  have hz1 := hb1.size
  have hs := shl_any w1 a1 cap1 (lim 1) 1 (val_lim _) hres1.sl k hk (by have := lim_length_le 1 1 (by decide); omega)
  have r1 : w1.heap[w.heap.size]? = some (.cells #[.bool false, .slice none 0 0, .slice none 0 0] 67 (0, 0)) := by rw [hb1.block _ (by omega)]; exact r0
  have HS := hide hs
  have HB1 := hide (hb0.trans (hb1.mono hb0.size))
  have R1 := hide r1
  clear hs hres1 hb1 hb0 r0 r1
  go_wp2_with fail
  refine (unhide HS).mono ?_
  rintro e w2 ⟨a2, cap2, rfl, hres2, hb2⟩
  have r2 : w2.heap[w.heap.size]? = some (.cells #[.bool false, .slice none 0 0, .slice none 0 0] 67 (0, 0)) := by rw [hb2.block _ (by omega)]; exact unhide R1
  have k0 := cell_of_row w2 w.heap.size 0 _ _ _ r2
  have k1 := cell_of_row w2 w.heap.size 1 _ _ _ r2
  have k2 := cell_of_row w2 w.heap.size 2 _ _ _ r2
  have f0 := frozen_of_row w2 w.heap.size 0 _ _ r2
  have f1 := frozen_of_row w2 w.heap.size 1 _ _ r2
  have f2 := frozen_of_row w2 w.heap.size 2 _ _ r2
  simp at k0 k1 k2
  have hb : Below w.heap.size w w2 := (unhide HB1).trans (hb2.mono (unhide HB1).size)
  have HR := hide hres2
  have HB := hide hb
  clear hres2 hb hb2 r2 R1 HB1 HS
  go_wp2_with fail
  refine bodyPost_box rfl ?_
  intro r hr
  simp [results, Oaag.results70, go_sem, k0, k1, k2] at hr
  subst hr
  refine ⟨_, rfl, _, rfl, ⟨neg, a, cap, x, a2, cap2, 2 ^ k, rfl, ?_, ?_, ?_⟩, ?_⟩
  · have h2 : Res B w2 a cap x := (unhide H).later (unhide HB)
    exact ((h2.away _ fun g hg => by have := hal g hg; omega).away _ fun g hg => by have := hal g hg; omega).away _ fun g hg => by have := hal g hg; omega
  · have h2 : Res B w2 a2 cap2 (2 ^ k) := by
      have := (unhide HR).lower (B' := B) (by omega)
      rwa [Nat.one_mul] at this
    have hne : ∀ g, a2 = some ⟨g, 0, none⟩ → g ≠ w.heap.size := by
      intro g hg
      rcases unhide HR with ⟨_, h1, _⟩ | ⟨_, g', l, e1, hBg, _⟩
      · rw [h1] at hg; cases hg
      · rw [e1] at hg; cases hg; omega
    exact ((h2.away _ hne).away _ hne).away _ hne
  · have := Nat.one_le_two_pow (n := k)
    have := len2 k
    exact ⟨by omega, by omega, by omega⟩
  · exact below_store (below_store (below_store (unhide HB) (Nat.le_refl _) _) (Nat.le_refl _) _) (Nat.le_refl _) _

end Go.Proofs.YgcoaaGreat.NatW
