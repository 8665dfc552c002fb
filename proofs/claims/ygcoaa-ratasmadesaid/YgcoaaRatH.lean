/-
  exact.RoundFlags: the walk.
-/
import Derived.Test.YgcoaaRatG
set_option linter.unusedVariables false
set_option linter.unusedSimpArgs false
namespace Go.Proofs.Ygcoaa.NatW
open Go.RowKit
open Go.Proofs.Ygcoaa.Limbs

/-- RoundFlags' two boxes: the format's and the fraction's. -/
structure Boxes (W : World) (bf bq : Nat) (E M : Nat) (neg : Bool) (v1 v2 : Value) : Prop where
  f : W.heap[bf]? = some (.cells #[.int .u8 E, .int .u8 M] 33 (0, 0))
  q : W.heap[bq]? = some (.cells #[.bool neg, v1, v2] 36 (0, 0))
  lf : bf < W.heap.size
  lq : bq < W.heap.size

section
variable {W W' : World} {bf bq E M : Nat} {neg : Bool} {v1 v2 : Value}
theorem Boxes.later (h : Boxes W bf bq E M neg v1 v2) (hb : Below W.heap.size W W') : Boxes W' bf bq E M neg v1 v2 :=
  ⟨(hb.block _ h.lf).trans h.f, (hb.block _ h.lq).trans h.q, by have := hb.size; have := h.lf; omega, by have := hb.size; have := h.lq; omega⟩
theorem Boxes.f0 (h : Boxes W bf bq E M neg v1 v2) : W.cell? ⟨bf, 0, none⟩ = some (.int .u8 E) := by rw [cell_of_row _ _ _ _ _ _ h.f]; rfl
theorem Boxes.f1 (h : Boxes W bf bq E M neg v1 v2) : W.cell? ⟨bf, 1, none⟩ = some (.int .u8 M) := by rw [cell_of_row _ _ _ _ _ _ h.f]; rfl
theorem Boxes.q0 (h : Boxes W bf bq E M neg v1 v2) : W.cell? ⟨bq, 0, none⟩ = some (.bool neg) := by rw [cell_of_row _ _ _ _ _ _ h.q]; rfl
theorem Boxes.q1 (h : Boxes W bf bq E M neg v1 v2) : W.cell? ⟨bq, 1, none⟩ = some v1 := by rw [cell_of_row _ _ _ _ _ _ h.q]; rfl
theorem Boxes.q2 (h : Boxes W bf bq E M neg v1 v2) : W.cell? ⟨bq, 2, none⟩ = some v2 := by rw [cell_of_row _ _ _ _ _ _ h.q]; rfl
theorem Boxes.all (h : Boxes W bf bq E M neg v1 v2) : (∀ z : Later W, z.at_.cell? ⟨bf, 0, none⟩ = some (.int .u8 E)) ∧ (∀ z : Later W, z.at_.cell? ⟨bf, 1, none⟩ = some (.int .u8 M)) ∧ (∀ z : Later W, z.at_.cell? ⟨bq, 0, none⟩ = some (.bool neg)) ∧ (∀ z : Later W, z.at_.cell? ⟨bq, 1, none⟩ = some v1) ∧ (∀ z : Later W, z.at_.cell? ⟨bq, 2, none⟩ = some v2) :=
  ⟨fun z => (h.later z.ok).f0, fun z => (h.later z.ok).f1, fun z => (h.later z.ok).q0, fun z => (h.later z.ok).q1, fun z => (h.later z.ok).q2⟩
theorem Boxes.cells (h : Boxes W bf bq E M neg v1 v2) : W.cell? ⟨bf, 0, none⟩ = some (.int .u8 E) ∧ W.cell? ⟨bf, 1, none⟩ = some (.int .u8 M) ∧ W.cell? ⟨bq, 0, none⟩ = some (.bool neg) ∧ W.cell? ⟨bq, 1, none⟩ = some v1 ∧ W.cell? ⟨bq, 2, none⟩ = some v2 := ⟨h.f0, h.f1, h.q0, h.q1, h.q2⟩
end

/-- RoundFlags' answer. -/
def RoundOf (E M : Nat) (mode : Int) (neg : Bool) (x d : Nat) (r fl : Int) : Prop :=
  ∀ (w : World) (a : Option Addr) (cap : Nat) (l : List Nat), val l = x → Sl w a cap l → ∀ (a2 : Option Addr) (cap2 : Nat) (l2 : List Nat), den1 (val l2) = d → Sl w a2 cap2 l2 → l.length ≤ 35184372088000 → l2.length ≤ 35184372088000 →
    Calls Oaag.prog 43 #[.agg #[.int .u8 E, .int .u8 M], .int .u8 mode, .agg #[.bool neg, .slice a l.length cap, .slice a2 l2.length cap2]] w fun e w' => e = .returned (.tuple #[.int .u64 r, .int .u8 fl]) ∧ Below w.heap.size w w'

set_option maxRecDepth 20000 in
set_option maxHeartbeats 1000000 in
theorem round_bad (E M : Nat) (hf : fok E M = false) (mode : Int) (neg : Bool) (x d : Nat) : RoundOf E M mode neg x d 0 0 := by
  have hk := fun w => fmtOk_any E M w
  rw [hf] at hk
  have HK := hide hk
  clear hk hf
  intro w a cap l hx h a2 cap2 l2 hy h2 hl hl2
  go_enter Oaag.func43, Oaag.ntmps43
  go_wp2_with fail
  refine (unhide HK _).mono ?_
  rintro e w1 ⟨rfl, hb⟩
  have hb1 : Below w.heap.size w w1 := (((Below.refl _ _).alloc (Nat.le_refl _) _).alloc (by simp) _).trans (hb.mono (by simp; omega))
  go_wp2
  go_ret2
  exact ⟨rfl, hb1⟩

/-- The start of RoundFlags, as far as its fraction is made: the walk goes on from there in a world of which this is known. -/
structure Made (w W : World) (E M : Nat) (neg : Bool) (x d : Nat) (a1 : Option Addr) (c1 : Nat) (a3 : Option Addr) (c3 : Nat) : Prop where
  bel : Below w.heap.size w W
  box : Boxes W w.heap.size (w.heap.size + 1) E M neg (.slice a1 (lim x).length c1) (.slice a3 (lim d).length c3)
  num : Sl W a1 c1 (lim x)
  den : Sl W a3 c3 (lim d)
  none : a1.isNone = decide (x = 0)
  lnum : (lim x).length ≤ 35184372088000
  lden : (lim d).length ≤ 35184372088000

theorem den1_len (y : Nat) (n : Nat) (h : (lim y).length ≤ n) (hn : 1 ≤ n) : (lim (den1 y)).length ≤ n := by
  unfold den1
  split
  · rw [lim_one 1 (by omega) (by omega)]; simpa using hn
  · exact h

theorem made_of (w w0 w1 w2 : World) (E M : Nat) (neg : Bool) (x d : Nat) (v1 v2 : Value) (a1 : Option Addr) (c1 : Nat) (a3 : Option Addr) (c3 : Nat)
    (h0 : w0 = (w.alloc (.cells #[.int .u8 E, .int .u8 M] 33)).alloc (.cells #[.bool neg, v1, v2] 36)) (hb1 : Below w0.heap.size w0 w1) (hb2 : Below w1.heap.size w1 w2) (hr1 : Res w1.heap.size w2 a1 c1 x) (hr3 : Res w1.heap.size w2 a3 c3 d)
    (hlx : (lim x).length ≤ 35184372088000) (hly : (lim d).length ≤ 35184372088000) :
    Made w (((w2.setCell ⟨w.heap.size + 1, 0, none⟩ (.bool neg)).setCell ⟨w.heap.size + 1, 1, none⟩ (.slice a1 (lim x).length c1)).setCell ⟨w.heap.size + 1, 2, none⟩ (.slice a3 (lim d).length c3)) E M neg x d a1 c1 a3 c3 := by
  have hz0 : w0.heap.size = w.heap.size + 2 := by rw [h0]; simp
  have hb0 : Below w.heap.size w w0 := by rw [h0]; exact ((Below.refl _ _).alloc (Nat.le_refl _) _).alloc (by simp) _
  have hf0 : w0.heap[w.heap.size]? = some (.cells #[.int .u8 E, .int .u8 M] 33 (0, 0)) := by
    rw [h0, Below.heap_alloc _ _ _ (by simp), heap_alloc_new]
  have hq0 : w0.heap[w.heap.size + 1]? = some (.cells #[.bool neg, v1, v2] 36 (0, 0)) := by
    rw [h0]
    have := heap_alloc_new (w.alloc (.cells #[.int .u8 E, .int .u8 M] 33)) (.cells #[.bool neg, v1, v2] 36)
    simpa using this
  have hz1 := hb1.size
  have hz2 := hb2.size
  have hb02 : Below w0.heap.size w0 w2 := hb1.trans (hb2.mono hz1)
  have hf2 := (hb02.block w.heap.size (by omega)).trans hf0
  have hq2 := (hb02.block (w.heap.size + 1) (by omega)).trans hq0
  have hbw2 : Below w.heap.size w w2 := hb0.trans (hb02.mono (by omega))
  have hq3 := heap_setCell_same _ _ 2 _ _ (.slice a3 (lim d).length c3) (heap_setCell_same _ _ 1 _ _ (.slice a1 (lim x).length c1) (heap_setCell_same w2 _ 0 _ _ (.bool neg) hq2))
  have hsz : (((w2.setCell ⟨w.heap.size + 1, 0, none⟩ (.bool neg)).setCell ⟨w.heap.size + 1, 1, none⟩ (.slice a1 (lim x).length c1)).setCell ⟨w.heap.size + 1, 2, none⟩ (.slice a3 (lim d).length c3)).heap.size = w2.heap.size := by simp [World.setCell]
  refine ⟨below_store (below_store (below_store hbw2 (by omega) _) (by omega) _) (by omega) _, ⟨?_, hq3, by rw [hsz]; omega, by rw [hsz]; omega⟩, ?_, ?_, ?_, hlx, hly⟩
  · rw [heap_setCell_other _ _ _ _ (by simp), heap_setCell_other _ _ _ _ (by simp), heap_setCell_other _ _ _ _ (by simp)]; exact hf2
  · exact (((hr1.oth (k := w.heap.size + 1) (by omega) 0 _).oth (k := w.heap.size + 1) (by omega) 1 _).oth (k := w.heap.size + 1) (by omega) 2 _).sl
  · exact (((hr3.oth (k := w.heap.size + 1) (by omega) 0 _).oth (k := w.heap.size + 1) (by omega) 1 _).oth (k := w.heap.size + 1) (by omega) 2 _).sl
  · have := hr1.nil_iff
    rw [Bool.eq_iff_iff, Option.isNone_iff_eq_none, this]; simp

set_option maxRecDepth 20000 in
set_option maxHeartbeats 1000000 in
theorem round_zero (E M : Nat) (hf : fok E M = true) (mode : Int) (neg : Bool) (d : Nat) : ∃ r fl, RoundOf E M mode neg 0 d r fl := by
  have hk := fun w => fmtOk_yes E M hf w
  obtain ⟨rz, h4⟩ := zero_any E M hf neg
  have HK := hide hk
  have H4 := hide h4
  clear hk hf h4
  refine ⟨rz, 0, ?_⟩
  have q24 := eqnil24
  intro w a cap l hx h a2 cap2 l2 hy h2 hl hl2
  have hlx := lim_length_le' l h.lt
  have hly := lim_length_le' l2 h2.lt
  rw [hx] at hlx
  have hld : (lim d).length ≤ 35184372088000 := by rw [← hy]; exact den1_len _ _ (by omega) (by omega)
  go_enter Oaag.func43, Oaag.ntmps43
  go_wp2_with fail
  obtain ⟨w0, hw0⟩ : ∃ w0, w0 = (w.alloc (.cells #[.int .u8 E, .int .u8 M] 33)).alloc (.cells #[.bool neg, .slice a l.length cap, .slice a2 l2.length cap2] 36) := ⟨_, rfl⟩
  have hb0 : Below w.heap.size w w0 := by rw [hw0]; exact ((Below.refl _ _).alloc (Nat.le_refl _) _).alloc (by simp) _
  have hz0 : w.heap.size + 2 ≤ w0.heap.size := by rw [hw0]; simp
  have hbx0 : Boxes w0 w.heap.size (w.heap.size + 1) E M neg (.slice a l.length cap) (.slice a2 l2.length cap2) := by
    refine ⟨?_, ?_, by omega, by omega⟩
    · rw [hw0, Below.heap_alloc _ _ _ (by simp), heap_alloc_new]
    · rw [hw0]
      have := heap_alloc_new (w.alloc (.cells #[.int .u8 E, .int .u8 M] 33)) (.cells #[.bool neg, .slice a l.length cap, .slice a2 l2.length cap2] 36)
      simpa using this
  rw [← hw0]
  have HW0 := hide hw0
  clear hw0
  refine (unhide HK _).mono ?_
  rintro e w1 ⟨rfl, hb1⟩
  have hz1 := hb1.size
  have hb01 : Below w.heap.size w w1 := hb0.trans (hb1.mono (by omega))
  obtain ⟨f0, f1, g0, g1, g2⟩ := (hbx0.later hb1).cells
  have hmr := makeRat_any w1 neg a cap l 0 hx (h.later hb01) a2 cap2 l2 (val l2) rfl (h2.later hb01) (by omega) (by omega)
  rw [hy] at hmr
  have HMR := hide hmr
  have fr0 := frozen_of_row w1 (w.heap.size + 1) 0 _ _ (hbx0.later hb1).q
  have HBX := hide hbx0
  clear hmr hbx0 fr0
  go_wp2_with fail
  refine (unhide HMR).mono ?_
  rintro e w2 ⟨a1, c1, a3, c3, rfl, hr1, hr3, hb2⟩
  have hz2 := hb2.size
  have hmade := made_of w w0 w1 w2 E M neg 0 d _ _ a1 c1 a3 c3 (unhide HW0) hb1 hb2 hr1 hr3 (by omega) hld
  have hbq := (((unhide HBX).later hb1).later hb2)
  obtain ⟨k0, k1, k2, k3, k4⟩ := hbq.cells
  have fr0 := frozen_of_row w2 (w.heap.size + 1) 0 _ _ hbq.q
  have fr1 := frozen_of_row w2 (w.heap.size + 1) 1 _ _ hbq.q
  have fr2 := frozen_of_row w2 (w.heap.size + 1) 2 _ _ hbq.q
  have hn : a1.isNone = true := by have := hmade.none; simpa using this
  have hbe := hmade.bel
  obtain ⟨p0, p1, p2, p3, p4⟩ := hmade.box.cells
  have HM := hide hmade
  clear hmade hbq hr1 hr3 HMR HBX f0 f1 g0 g1 g2
  go_wp2_with fail
  refine (unhide H4 _).mono ?_
  rintro e w3 ⟨rfl, hb3⟩
  have hb03 := hbe.trans (hb3.mono hbe.size)
  clear hbe
  go_wp2
  go_ret2
  exact ⟨rfl, hb03⟩

end Go.Proofs.Ygcoaa.NatW
