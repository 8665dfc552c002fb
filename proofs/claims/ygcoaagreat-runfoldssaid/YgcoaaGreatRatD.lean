/-
  exact.Round's callees, on: MakeRat, Rat.Ok, floor, log2.
-/
import Derived.Test.YgcoaaGreatRatC
set_option linter.unusedVariables false
set_option linter.unusedSimpArgs false
namespace Go.Proofs.YgcoaaGreat.NatW
open Go.RowKit
open Go.Proofs.YgcoaaGreat.Limbs

theorem Res.oth {B : Nat} {w : World} {a : Option Addr} {cap n : Nat} (h : Res B w a cap n) {k : Nat} (hk : k < B) (i : Nat) (u : Value) : Res B (w.setCell ⟨k, i, none⟩ u) a cap n := by
  rcases h with h | ⟨h0, g, l, e, hB, hr, r⟩
  · exact .inl h
  · exact .inr ⟨h0, g, l, e, hB, hr.other (p := ⟨k, i, none⟩) (by simp; omega) u, r⟩

/-- A struct of three, boxed. -/
theorem box3_now (w w1 : World) (u v z : Value) (t : TypeId) (hb : Below (w.heap.size + 1) (w.alloc (.cells #[u, v, z] t)) w1) :
    w1.cell? ⟨w.heap.size, 0, none⟩ = some u ∧ w1.cell? ⟨w.heap.size, 1, none⟩ = some v ∧ w1.cell? ⟨w.heap.size, 2, none⟩ = some z ∧ w1.frozen? ⟨w.heap.size, 0, none⟩ = false ∧ w1.frozen? ⟨w.heap.size, 1, none⟩ = false ∧ w1.frozen? ⟨w.heap.size, 2, none⟩ = false := by
  have h : w1.heap[w.heap.size]? = some (.cells #[u, v, z] t (0, 0)) := by
    rw [hb.block _ (by omega), heap_alloc_new]
  exact ⟨by rw [cell_of_row _ _ _ _ _ _ h]; rfl, by rw [cell_of_row _ _ _ _ _ _ h]; rfl, by rw [cell_of_row _ _ _ _ _ _ h]; rfl, frozen_of_row _ _ _ _ _ h, frozen_of_row _ _ _ _ _ h, frozen_of_row _ _ _ _ _ h⟩

/-- MakeRat's denominator. -/
def den1 (y : Nat) : Nat := if y = 0 then 1 else y

set_option maxRecDepth 20000 in
set_option maxHeartbeats 1000000 in
theorem makeRat_any (w : World) (neg : Bool) (a : Option Addr) (cap : Nat) (l : List Nat) (x : Nat) (hx : val l = x) (h : Sl w a cap l) (a2 : Option Addr) (cap2 : Nat) (l2 : List Nat) (y : Nat) (hy : val l2 = y) (h2 : Sl w a2 cap2 l2)
    (hb : l.length ≤ 70368744170000) (hb2 : l2.length ≤ 70368744170000) :
    Calls Oaag.prog 347 #[.bool neg, .slice a l.length cap, .slice a2 l2.length cap2] w fun e w' => ∃ a1 c1 a3 c3, e = .returned (.agg #[.bool neg, .slice a1 (lim x).length c1, .slice a3 (lim (den1 y)).length c3]) ∧
      Res w.heap.size w' a1 c1 x ∧ Res w.heap.size w' a3 c3 (den1 y) ∧ Below w.heap.size w w' := by
  have q24 := eqnil24
  go_enter Oaag.func347, Oaag.ntmps347
  go_wp2_with fail
  obtain ⟨w0, hw0⟩ : ∃ w0, w0 = w.alloc (Obj.cells #[Value.bool false, Value.slice none 0 0, Value.slice none 0 0] 67) := ⟨_, rfl⟩
  have hb0 : Below w.heap.size w w0 := by rw [hw0]; exact (Below.refl _ _).alloc (Nat.le_refl _) _
  have hs0 : w0.heap.size = w.heap.size + 1 := by rw [hw0]; simp
  rw [← hw0]
  have HW0 := hide hw0
  have HS0 := hide hs0
  have hz0 : w.heap.size + 1 ≤ w0.heap.size := by omega
  clear hw0 hs0
  have htk := take_any w0 a2 cap2 l2 (h2.later hb0) (by omega)
  rw [hy] at htk
  refine htk.mono ?_
  clear htk
  rintro e w1 ⟨ad, cd, rfl, hresd, hb1⟩
  have hz1 := hb1.size
  have hni := hresd.nil_iff
  have fin : ∀ (w2 : World) (ad2 : Option Addr) (cd2 : Nat), Below w0.heap.size w0 w2 → Res w0.heap.size w2 ad2 cd2 (den1 y) →
      Calls Oaag.prog 42 #[.slice a l.length cap] w2 fun e w' => ∃ a1 c1, e = .returned (.slice a1 (lim x).length c1) ∧ Res w0.heap.size w' a1 c1 x ∧ Res w0.heap.size w' ad2 cd2 (den1 y) ∧ Below w0.heap.size w0 w' := by
    intro w2 ad2 cd2 hb02 hr2
    have ht := take_any w2 a cap l ((h.later hb0).later hb02) (by omega)
    rw [hx] at ht
    refine ht.mono ?_
    rintro e w3 ⟨a1, c1, rfl, hr1, hb3⟩
    exact ⟨a1, c1, rfl, hr1.lower hb02.size, hr2.later hb3, hb02.trans (hb3.mono hb02.size)⟩
  have close : ∀ (w3 : World) (a1 : Option Addr) (c1 : Nat) (ad2 : Option Addr) (cd2 : Nat), Below w0.heap.size w0 w3 → Res w0.heap.size w3 a1 c1 x → Res w0.heap.size w3 ad2 cd2 (den1 y) →
      Res w.heap.size (((w3.setCell ⟨w.heap.size, 0, none⟩ (.bool neg)).setCell ⟨w.heap.size, 1, none⟩ (.slice a1 (lim x).length c1)).setCell ⟨w.heap.size, 2, none⟩ (.slice ad2 (lim (den1 y)).length cd2)) a1 c1 x ∧
      Res w.heap.size (((w3.setCell ⟨w.heap.size, 0, none⟩ (.bool neg)).setCell ⟨w.heap.size, 1, none⟩ (.slice a1 (lim x).length c1)).setCell ⟨w.heap.size, 2, none⟩ (.slice ad2 (lim (den1 y)).length cd2)) ad2 cd2 (den1 y) ∧
      Below w.heap.size w (((w3.setCell ⟨w.heap.size, 0, none⟩ (.bool neg)).setCell ⟨w.heap.size, 1, none⟩ (.slice a1 (lim x).length c1)).setCell ⟨w.heap.size, 2, none⟩ (.slice ad2 (lim (den1 y)).length cd2)) := by
    intro w3 a1 c1 ad2 cd2 hb03 hr1 hr2
    exact ⟨(((hr1.oth (k := w.heap.size) (by omega) 0 _).oth (k := w.heap.size) (by omega) 1 _).oth (k := w.heap.size) (by omega) 2 _).lower (by omega), (((hr2.oth (k := w.heap.size) (by omega) 0 _).oth (k := w.heap.size) (by omega) 1 _).oth (k := w.heap.size) (by omega) 2 _).lower (by omega), below_store (below_store (below_store (hb0.trans (hb03.mono (by omega))) (Nat.le_refl _) _) (Nat.le_refl _) _) (Nat.le_refl _) _⟩
  have FIN := hide fin
  have CL := hide close
  have HRD := hide hresd
  clear fin close hresd h h2 hx hy
  by_cases hy0 : y = 0
  · have hn : ad.isNone = true := by rw [Option.isNone_iff_eq_none]; exact hni.2 hy0
    have ed : den1 y = 1 := by unfold den1; rw [if_pos hy0]
    have HD := hide ed
    clear hni hy0 ed
    go_wp2_with fail
    refine (fromU64_any w1 1 (by omega)).mono ?_
    rintro e w2 ⟨a4, c4, rfl, hr4, hb2'⟩
    have hb02 : Below w0.heap.size w0 w2 := hb1.trans (hb2'.mono hz1)
    have hf := unhide FIN w2 a4 c4 hb02 (by rw [unhide HD]; exact hr4.lower hz1)
    have HF := hide hf
    clear hf hr4
    go_wp2_with fail
    refine (unhide HF).mono ?_
    rintro e w3 ⟨a1, c1, rfl, hr1, hr2, hb03⟩
    have hbox := box3_now w w3 (.bool false) (.slice none 0 0) (.slice none 0 0) 67 (by rw [← unhide HW0]; exact hb03.mono hz0)
    obtain ⟨d0, d1, d2, f0, f1, f2⟩ := hbox
    have hcl := unhide CL w3 a1 c1 a4 c4 hb03 hr1 hr2
    have HCL := hide hcl
    clear hcl hr1 hr2 HF FIN CL
    go_wp2
    have hcl := unhide HCL
    rw [unhide HD] at hcl ⊢
    exact bodyPost_ret (v := .agg #[.bool neg, .slice a1 (lim x).length c1, .slice a4 (lim 1).length c4]) (by simp [results, Oaag.results347, go_sem, d0, d1, d2]) rfl ⟨a1, c1, a4, c4, rfl, hcl.1, hcl.2.1, hcl.2.2⟩
  · have hn : ad.isNone = false := by
      cases hh : ad.isNone
      · rfl
      · rw [Option.isNone_iff_eq_none] at hh; exact absurd (hni.1 hh) hy0
    have ed : den1 y = y := by unfold den1; rw [if_neg hy0]
    have HD := hide ed
    clear hni hy0 ed
    have hf := unhide FIN w1 ad cd hb1 (by rw [unhide HD]; exact unhide HRD)
    have HF := hide hf
    clear hf
    go_wp2_with fail
    refine (unhide HF).mono ?_
    rintro e w3 ⟨a1, c1, rfl, hr1, hr2, hb03⟩
    have hbox := box3_now w w3 (.bool false) (.slice none 0 0) (.slice none 0 0) 67 (by rw [← unhide HW0]; exact hb03.mono hz0)
    obtain ⟨d0, d1, d2, f0, f1, f2⟩ := hbox
    have hcl := unhide CL w3 a1 c1 ad cd hb03 hr1 hr2
    have HCL := hide hcl
    clear hcl hr1 hr2 HF FIN CL
    go_wp2
    have hcl := unhide HCL
    rw [unhide HD] at hcl ⊢
    exact bodyPost_ret (v := .agg #[.bool neg, .slice a1 (lim x).length c1, .slice ad (lim y).length cd]) (by simp [results, Oaag.results347, go_sem, d0, d1, d2]) rfl ⟨a1, c1, ad, cd, rfl, hcl.1, hcl.2.1, hcl.2.2⟩

end Go.Proofs.YgcoaaGreat.NatW
