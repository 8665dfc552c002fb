/-
  One run of one text: memory of its kind, under stores by hand.
-/
import Derived.Test.YgcoaaGreatSfT
import Derived.Test.YgcoaaGreatBank
set_option linter.unusedVariables false
set_option linter.unusedSimpArgs false
set_option maxRecDepth 20000
namespace Go.Sf
open Go.RowKit

theorem Ex.cell {Γ : Gam} {w w1 : World} (h : Ex Γ w Γ w1) {b o : Nat} {d : D} (hd : Γ b o = some d) : ∃ v, w1.cell? ⟨b, o, none⟩ = some v ∧ cel Γ d v ∧ w1.frozen? ⟨b, o, none⟩ = false := by
  obtain ⟨cs, e, fz, v, h1, h2, h3, h4⟩ := h.wt.cell b o d hd
  refine ⟨v, by simp [World.cell?, h1, h2], h4, ?_⟩
  obtain ⟨lo, hi⟩ := fz
  simp only [World.frozen?, h1]
  simpa using h3

theorem Ex.drew {Γ : Gam} {w w1 : World} (h : Ex Γ w Γ w1) : Ex Γ w Γ w1.drew := ⟨h.le, ⟨h.wt.cell, h.wt.tape⟩, h.size, h.new, h.old⟩

theorem Ex.lt {Γ : Gam} {w w1 : World} (h : Ex Γ w Γ w1) {b o : Nat} {d : D} (hd : Γ b o = some d) : b < w1.heap.size := by
  obtain ⟨cs, e, fz, v, h1, _⟩ := h.wt.cell b o d hd
  exact (Array.getElem?_eq_some_iff.1 h1).1

theorem Ex.below {Γ : Gam} {w w1 w2 : World} (h : Ex Γ w Γ w1) (hb : Below w1.heap.size w1 w2) : Ex Γ w Γ w2 := by
  refine ⟨h.le, ⟨fun b o d hd => ?_, by rw [hb.tape]; exact h.wt.tape⟩, Nat.le_trans h.size hb.size, h.new, fun b hlt hn => ?_⟩
  · obtain ⟨cs, e, fz, v, h1, h2, h3, h4⟩ := h.wt.cell b o d hd
    exact ⟨cs, e, fz, v, by rw [hb.block b (h.lt hd)]; exact h1, h2, h3, h4⟩
  · rw [hb.block b (Nat.lt_of_lt_of_le hlt h.size)]
    exact h.old b hlt hn

theorem Ex.alloc {Γ : Gam} {w w1 : World} (h : Ex Γ w Γ w1) (o : Obj) : Ex Γ w Γ (w1.alloc o) := h.below ((Below.refl _ _).alloc (Nat.le_refl _) _)

theorem heap_setCell {w : World} {b i : Nat} {v : Value} (k : Nat) : (w.setCell ⟨b, i, none⟩ v).heap[k]? = if b = k then (w.heap[k]?).map (fun | .cells c e f => .cells (c.setIfInBounds i v) e f | o => o) else w.heap[k]? := by
  unfold World.setCell
  show (w.heap.modify b _)[k]? = _
  rw [Array.getElem?_modify]
  split
  · rename_i e
    subst e
    rfl
  · rfl

/-- A store of its kind. -/
theorem Ex.set {Γ : Gam} {w w1 : World} (h : Ex Γ w Γ w1) {b o : Nat} {d : D} (hd : Γ b o = some d) {v : Value} (hv : cel Γ d v) : Ex Γ w Γ (w1.setCell ⟨b, o, none⟩ v) := by
  refine ⟨h.le, ⟨fun b' o' d' hd' => ?_, h.wt.tape⟩, by simpa using h.size, h.new, fun b' hlt hn => ?_⟩
  · obtain ⟨cs, e, fz, u, h1, h2, h3, h4⟩ := h.wt.cell b' o' d' hd'
    rw [heap_setCell]
    by_cases hb : b = b'
    · subst hb
      rw [if_pos rfl, h1]
      by_cases ho : o = o'
      · subst ho
        rw [hd] at hd'
        cases hd'
        refine ⟨cs.setIfInBounds o v, e, fz, v, rfl, ?_, h3, hv⟩
        rw [Array.getElem?_setIfInBounds, if_pos rfl, if_pos (Array.getElem?_eq_some_iff.1 h2).1]
      · exact ⟨cs.setIfInBounds o v, e, fz, u, rfl, by rw [Array.getElem?_setIfInBounds, if_neg ho]; exact h2, h3, h4⟩
    · rw [if_neg hb]
      exact ⟨cs, e, fz, u, h1, h2, h3, h4⟩
  · rw [heap_setCell, if_neg ?_]
    · exact h.old b' hlt hn
    · intro e
      subst e
      rw [hn o] at hd
      cases hd

/-- A store in a block of one's own. -/
theorem Ex.own {Γ : Gam} {w w1 : World} (h : Ex Γ w Γ w1) {b i : Nat} (hb : w.heap.size ≤ b) (hn : ∀ o, Γ b o = none) (v : Value) : Ex Γ w Γ (w1.setCell ⟨b, i, none⟩ v) := by
  refine ⟨h.le, ⟨fun b' o' d' hd' => ?_, h.wt.tape⟩, by simpa using h.size, h.new, fun b' hlt hn => ?_⟩
  · obtain ⟨cs, e, fz, u, h1, h2, h3, h4⟩ := h.wt.cell b' o' d' hd'
    rw [heap_setCell, if_neg (fun e => by subst e; rw [hn o'] at hd'; cases hd')]
    exact ⟨cs, e, fz, u, h1, h2, h3, h4⟩
  · rw [heap_setCell, if_neg (by omega)]
    exact h.old b' hlt hn

theorem Wt.none {Γ : Gam} {w : World} (h : Wt Γ w) {b : Nat} (hb : w.heap.size ≤ b) (o : Nat) : Γ b o = none := by
  cases hd : Γ b o with
  | none => rfl
  | some d =>
    obtain ⟨cs, e, fz, v, h1, _⟩ := h.cell b o d hd
    have := (Array.getElem?_eq_some_iff.1 h1).1
    omega
end Go.Sf

namespace Go.Proofs.YgcoaaGreat.NatW
open Go.RowKit
open Go.Proofs.YgcoaaGreat.Limbs
attribute [local go_sem] Go.Instr.field Go.asAgg

theorem bodyPost_nor {P : Program} {fn : Func} {R : Ending → World → Prop} {a : Act} {w : World} {v : Value} (h : (results fn a.tmps).run P w = .ok v w) (hd : a.defers = []) (hR : R (.returned v) w) : bodyPost P fn R .normal a w := ⟨hd, v, h, hR⟩

def bigL : Sf.D := .cons (.int .i64 0 52) (Sf.D.rep (.int .u64 0 18446744073709551615) 52)

/-- A big of slow's in memory. -/
structure BigT (Γ : Sf.Gam) (B O : Nat) : Prop where
  n : Γ B O = some (.int .i64 0 52)
  w : ∀ j, j < 52 → Γ B (O + 1 + j) = some (.int .u64 0 18446744073709551615)

def MulR (Γ : Sf.Gam) (w : World) (B O n : Nat) (c i : Value) (wr : World) : Prop :=
  ∃ (k : Nat) (C : Int), i = .int .i64 k ∧ k ≤ n ∧ c = .int .u64 C ∧ U64 C ∧ Sf.Ex Γ w Γ wr ∧ wr.cell? ⟨B, O, none⟩ = some (.int .i64 n)

set_option maxHeartbeats 2000000 in
theorem mulAdd_zero (Γ : Sf.Gam) (w : World) (hw : Sf.Wt Γ w) (B O : Nat) (hB : BigT Γ B O) (m c : Int) (hm : U64 m) (hc : U64 c) :
    Calls Oaag.prog 208 #[.pointer (some ⟨B, O, none⟩), .int .u64 m, .int .u64 c] w fun e w' => e = .returned (.tuple #[]) ∧ Sf.Ex Γ w Γ w' := by
  obtain ⟨_, k0, ⟨n0, rfl, hn0, hn52⟩, f0⟩ := (Sf.Ex.refl hw).cell hB.n
  obtain ⟨n, rfl⟩ := Int.eq_ofNat_of_zero_le hn0
  have hn : n ≤ 52 := by omega
  have HX0 := hide (Sf.Ex.refl hw)
  have HM := hide hm
  have HC := hide hc
  clear hm hc
  go_enter Oaag.func208, Oaag.ntmps208
  go_wp2_with fail
  go_loopw [2, 6] (MulR Γ w B O n) (fun c i wr => n - (intOf i).toNat)
  case atStart => exact ⟨0, c, rfl, by omega, rfl, unhide HC, unhide HX0, k0⟩
  case round =>
    obtain ⟨k, C, rfl, hk, rfl, hC, hx, kn⟩ := hrel
    by_cases hlt : k < n
    · obtain ⟨_, kz, ⟨z, rfl, hz0, hz1⟩, fz⟩ := hx.cell (hB.w k (by omega))
      have h1 : ((k : Int) < (n : Int)) := by omega
      go_wp2_with fail
      refine mul64_ret z m ⟨by omega, by omega⟩ (unhide HM) wr _ ?_
      rintro _ w1 ⟨h, l, rfl, hh, hl⟩ hb1
      have hx1 := hx.below hb1
      go_wp2_with fail
      refine wadd_ret h l 0 C hh hl ⟨by omega, by omega⟩ hC _ _ ?_
      rintro _ w2 ⟨h2, l2, b2, rfl, hh2, hl2⟩ hb2
      have hx2 := (hx1.alloc (.cells #[.int .u64 h, .int .u64 l] 47)).below hb2
      have hge : w.heap.size ≤ w1.heap.size := hx1.size
      have r7 : w2.heap[w1.heap.size]? = some (.cells #[.int .u64 h, .int .u64 l] 47 (0, 0)) := by rw [hb2.block _ (by simp), heap_alloc_new]
      have k70 : w2.cell? ⟨w1.heap.size, 0, none⟩ = some (.int .u64 h) := by simp [World.cell?, r7]
      have k71 : w2.cell? ⟨w1.heap.size, 1, none⟩ = some (.int .u64 l) := by simp [World.cell?, r7]
      have f7 : ∀ i, w2.frozen? ⟨w1.heap.size, i, none⟩ = false := fun i => by simp [World.frozen?, r7]
      have f70 := f7 0
      have f71 := f7 1
      go_wp2_with fail
      obtain ⟨w3, hw3⟩ : ∃ w3, w3 = (w2.setCell ⟨w1.heap.size, 0, none⟩ (.int .u64 h2)).setCell ⟨w1.heap.size, 1, none⟩ (.int .u64 l2) := ⟨_, rfl⟩
      have hnn : ∀ o, Γ w1.heap.size o = none := fun o => hx1.wt.none (Nat.le_refl _) o
      have hx3 : Sf.Ex Γ w Γ w3 := by rw [hw3]; exact (hx2.own hge hnn _).own hge hnn _
      have r73 : w3.heap[w1.heap.size]? = some (.cells #[.int .u64 h2, .int .u64 l2] 47 (0, 0)) := by rw [hw3]; exact box_set r7 _ _
      have hBne : w1.heap.size ≠ B := by
        have := hx1.lt hB.n
        omega
      have kn3 : w3.cell? ⟨B, O, none⟩ = some (.int .i64 n) := by
        have q1 : w1.cell? ⟨B, O, none⟩ = some (.int .i64 n) := (hb1.cell (p := ⟨B, O, none⟩) (hx.lt hB.n)).trans kn
        have q2 : w2.cell? ⟨B, O, none⟩ = some (.int .i64 n) := by
          rw [hb2.cell (p := ⟨B, O, none⟩) (by have := hx1.lt hB.n; simp; omega)]
          rw [World.cell?_alloc_old (h := by have := hx1.lt hB.n; simp; omega)]
          exact q1
        rw [hw3, World.cell?_setCell_other (h := by simp [hBne]), World.cell?_setCell_other (h := by simp [hBne])]
        exact q2
      rw [← hw3]
      clear hw3
      have ht3 : w3.tape = fun _ _ => 0 := hx3.wt.tape
      obtain ⟨_, kz3, ⟨z3, rfl, _, _⟩, fz3⟩ := hx3.cell (hB.w k (by omega))
      have e70 : w3.drew.cell? ⟨w1.heap.size, 0, none⟩ = some (.int .u64 h2) := (box_cells r73).1
      have e71 : w3.drew.cell? ⟨w1.heap.size, 1, none⟩ = some (.int .u64 l2) := (box_cells r73).2
      have ez : w3.drew.cell? ⟨B, O + 1 + k, none⟩ = some (.int .u64 z3) := kz3
      have ef : w3.drew.frozen? ⟨B, O + 1 + k, none⟩ = false := fz3
      have e80 : (w3.setCell ⟨B, O + 1 + k, none⟩ (.int .u64 l2)).drew.cell? ⟨w1.heap.size, 0, none⟩ = some (.int .u64 h2) := by
        show (w3.setCell ⟨B, O + 1 + k, none⟩ (.int .u64 l2)).cell? ⟨w1.heap.size, 0, none⟩ = _
        rw [World.cell?_setCell_other (h := by simp [Ne.symm hBne])]
        exact (box_cells r73).1
      have hx4 : Sf.Ex Γ w Γ (w3.setCell ⟨B, O + 1 + k, none⟩ (.int .u64 l2)) := hx3.set (hB.w k (by omega)) ⟨l2, rfl, by have := hl2.1; omega, by have := hl2.2; omega⟩
      have kn4 : (w3.setCell ⟨B, O + 1 + k, none⟩ (.int .u64 l2)).cell? ⟨B, O, none⟩ = some (.int .i64 n) := by
        rw [World.cell?_setCell_other (h := by simp)]
        exact kn3
      refine wp_region_zero_list ht3 (by kernel_rfl) ?_
      go_wp2_with fail
      refine ⟨⟨k + 1, h2, ?_, by omega, rfl, hh2, hx4.drew, kn4⟩, ?_⟩
      · congr 1
      · simp [intOf]
        omega
    · have h1 : ¬ ((k : Int) < (n : Int)) := by omega
      have hkn : k = n := by omega
      subst hkn
      by_cases hC0 : C = 0
      · have h2 : (C != 0) = false := by simp [hC0]
        go_wp2_with fail
        refine bodyPost_nor (v := .tuple #[]) (by simp [results, Oaag.results208, go_sem]) rfl ⟨rfl, hx⟩
      · have h2 : (C != 0) = true := by simp [hC0]
        by_cases h52 : k < 52
        · have h3 : ((k : Int) < 52) := by omega
          obtain ⟨_, kz, ⟨z, rfl, _, _⟩, fz⟩ := hx.cell (hB.w k (by omega))
          obtain ⟨_, _, _, fn⟩ := hx.cell hB.n
          have ez : wr.drew.cell? ⟨B, O + 1 + k, none⟩ = some (.int .u64 z) := kz
          have ef : wr.drew.frozen? ⟨B, O + 1 + k, none⟩ = false := fz
          have en : wr.drew.cell? ⟨B, O, none⟩ = some (.int .i64 k) := kn
          have e8 : (wr.setCell ⟨B, O + 1 + k, none⟩ (.int .u64 C)).drew.cell? ⟨B, O, none⟩ = some (.int .i64 k) := by
            show (wr.setCell ⟨B, O + 1 + k, none⟩ (.int .u64 C)).cell? ⟨B, O, none⟩ = _
            rw [World.cell?_setCell_other (h := by simp)]
            exact kn
          have f8 : (wr.setCell ⟨B, O + 1 + k, none⟩ (.int .u64 C)).drew.frozen? ⟨B, O, none⟩ = false := by
            show (wr.setCell ⟨B, O + 1 + k, none⟩ (.int .u64 C)).frozen? ⟨B, O, none⟩ = _
            rw [World.frozen?_setCell]
            exact fn
          have hx5 : Sf.Ex Γ w Γ (wr.setCell ⟨B, O + 1 + k, none⟩ (.int .u64 C)) := hx.set (hB.w k (by omega)) ⟨C, rfl, by have := hC.1; omega, by have := hC.2; omega⟩
          go_wp2_with fail
          refine wp_region_zero_list hx.wt.tape (by kernel_rfl) ?_
          go_wp2_with fail
          refine bodyPost_nor (v := .tuple #[]) (by simp [results, Oaag.results208, go_sem]) rfl ⟨rfl, ?_⟩
          exact hx5.drew.set hB.n ⟨_, rfl, by omega, by omega⟩
        · have h3 : ¬ ((k : Int) < 52) := by omega
          go_wp2_with fail
          refine bodyPost_nor (v := .tuple #[]) (by simp [results, Oaag.results208, go_sem]) rfl ⟨rfl, hx⟩
end Go.Proofs.YgcoaaGreat.NatW
