/-
  Package bound: Turn.
-/
import Derived.Test.YgcoaaGreatWkC
import Derived.Test.YgcoaaGreatCkD
import Derived.Test.YgcoaaGreatExH
set_option linter.unusedVariables false
set_option linter.unusedSimpArgs false
namespace Go.Proofs.YgcoaaGreat.NatW
attribute [local go_sem] Go.Instr.field Go.asAgg
open Go.RowKit
open Go.Proofs.YgcoaaGreat.Limbs Go.Proofs.YgcoaaGreat.Bits

theorem set6 (w : World) (b : Nat) (t : TypeId) (u0 u1 u2 u3 u4 u5 v0 v1 v2 v3 v4 v5 : Value) (h : w.heap[b]? = some (.cells #[u0, u1, u2, u3, u4, u5] t (0, 0))) : ((((((w.setCell ⟨b, 0, none⟩ v0).setCell ⟨b, 1, none⟩ v1).setCell ⟨b, 2, none⟩ v2).setCell ⟨b, 3, none⟩ v3).setCell ⟨b, 4, none⟩ v4).setCell ⟨b, 5, none⟩ v5).heap[b]? = some (.cells #[v0, v1, v2, v3, v4, v5] t (0, 0)) := by
  simp [heap_set, setc, h]
theorem heap6 (w : World) (b k : Nat) (v0 v1 v2 v3 v4 v5 : Value) (h : k ≠ b) : ((((((w.setCell ⟨b, 0, none⟩ v0).setCell ⟨b, 1, none⟩ v1).setCell ⟨b, 2, none⟩ v2).setCell ⟨b, 3, none⟩ v3).setCell ⟨b, 4, none⟩ v4).setCell ⟨b, 5, none⟩ v5).heap[k]? = w.heap[k]? := by
  simp [heap_set, Ne.symm h]
theorem Wk.set6 {B : Nat} {w : World} {a1 a2 a3 : Option Addr} {c1 c2 c3 x1 x2 x3 P R N : Nat} (h : Wk B w a1 a2 a3 c1 c2 c3 x1 x2 x3 P R N) {b : Nat} (hb : ∀ g, (a1 = some ⟨g, 0, none⟩ ∨ a2 = some ⟨g, 0, none⟩ ∨ a3 = some ⟨g, 0, none⟩) → g ≠ b) {v0 v1 v2 v3 v4 v5 : Value} : Wk B ((((((w.setCell ⟨b, 0, none⟩ v0).setCell ⟨b, 1, none⟩ v1).setCell ⟨b, 2, none⟩ v2).setCell ⟨b, 3, none⟩ v3).setCell ⟨b, 4, none⟩ v4).setCell ⟨b, 5, none⟩ v5) a1 a2 a3 c1 c2 c3 x1 x2 x3 P R N := by
  have n1 : ∀ g, a1 = some (⟨g, 0, none⟩ : Addr) → g ≠ b := fun g hg => hb g (.inl hg)
  have n2 : ∀ g, a2 = some (⟨g, 0, none⟩ : Addr) → g ≠ b := fun g hg => hb g (.inr (.inl hg))
  have n3 : ∀ g, a3 = some (⟨g, 0, none⟩ : Addr) → g ≠ b := fun g hg => hb g (.inr (.inr hg))
  exact ⟨(((((h.r1.away _ n1).away _ n1).away _ n1).away _ n1).away _ n1).away _ n1, (((((h.r2.away _ n2).away _ n2).away _ n2).away _ n2).away _ n2).away _ n2, (((((h.r3.away _ n3).away _ n3).away _ n3).away _ n3).away _ n3).away _ n3, h.len, h.p1, h.p2, h.le, h.hP, h.hR, h.hN⟩
theorem Wk.lower {B B' : Nat} {w : World} {a1 a2 a3 : Option Addr} {c1 c2 c3 x1 x2 x3 P R N : Nat} (h : Wk B w a1 a2 a3 c1 c2 c3 x1 x2 x3 P R N) (hB : B' ≤ B) : Wk B' w a1 a2 a3 c1 c2 c3 x1 x2 x3 P R N :=
  ⟨h.r1.lower hB, h.r2.lower hB, h.r3.lower hB, h.len, h.p1, h.p2, h.le, h.hP, h.hR, h.hN⟩
theorem Wk.block {B : Nat} {w : World} {a1 a2 a3 : Option Addr} {c1 c2 c3 x1 x2 x3 P R N : Nat} (h : Wk B w a1 a2 a3 c1 c2 c3 x1 x2 x3 P R N) (g : Nat) (hg : a1 = some ⟨g, 0, none⟩ ∨ a2 = some ⟨g, 0, none⟩ ∨ a3 = some ⟨g, 0, none⟩) : B ≤ g ∧ g < w.heap.size := by
  rcases hg with hg | hg | hg
  · exact h.r1.block g hg
  · exact h.r2.block g hg
  · exact h.r3.block g hg
/-- What holds in Turn where both sides are equal. -/
def TnI (S Z : Nat) (cs : Array Value) (b1 b2 b3 : Option Addr) (d1 d2 d3 x1 x2 x3 P R N : Nat) (w : World) : Prop := w.heap[S + 1]? = some (.cells cs 81 (0, 0)) ∧ Z ≤ w.heap.size ∧ Wk (S + 2) w b1 b2 b3 d1 d2 d3 x1 x2 x3 P R N
theorem isNone_of {B : Nat} {w : World} {a : Option Addr} {c x : Nat} (h : Res B w a c x) (hx : 1 ≤ x) : a.isNone = false := by
  cases a with
  | none => have := h.nil_iff.1 rfl; omega
  | some a => rfl
theorem Wk.check {B : Nat} (w : World) {a1 a2 a3 : Option Addr} {c1 c2 c3 x1 x2 x3 P R N : Nat} (h : Wk B w a1 a2 a3 c1 c2 c3 x1 x2 x3 P R N) :
    Calls Oaag.prog 41 #[.agg (wv a1 a2 a3 c1 c2 c3 x1 x2 x3 P R N)] w fun e w' => e = .returned (.bool true) ∧ Below w.heap.size w w' := by
  have hl1 := h.l1
  have hl2 := h.l2
  have hl3 := h.len
  have hle : cmpI (val (lim x1) + val (lim x2)) (val (lim x3)) ≤ 0 := by
    rw [val_lim, val_lim, val_lim]
    unfold cmpI
    have := h.le
    split
    · omega
    · rw [if_neg (by omega)]; omega
  exact check_10 w a1 c1 (lim x1) h.r1.sl a2 c2 (lim x2) h.r2.sl a3 c3 (lim x3) h.r3.sl (by omega) (by omega) (by omega) P R N h.r1.normal h.r2.normal h.r3.normal (isNone_of h.r1 h.p1) (isNone_of h.r2 h.p2) _ rfl (decide_eq_true hle)
    (decide_eq_true (by have := h.hP; omega)) (decide_eq_true (by have := h.hP; omega)) (decide_eq_true (by have := h.hR; omega)) (decide_eq_true (by have := h.hR; omega))

set_option maxRecDepth 20000 in
set_option maxHeartbeats 8000000 in
theorem turn_any (w : World) {B : Nat} {a1 a2 a3 : Option Addr} {c1 c2 c3 x1 x2 x3 P R N : Nat} (h : Wk B w a1 a2 a3 c1 c2 c3 x1 x2 x3 P R N) :
    Calls Oaag.prog 79 #[.agg (wv a1 a2 a3 c1 c2 c3 x1 x2 x3 P R N)] w fun e w' => ∃ b1 b2 b3 d1 d2 d3 y1 y2 P' R' z o, e = .returned (.tuple #[.agg (wv b1 b2 b3 d1 d2 d3 y1 y2 x3 P' R' N), .int .u64 z, .bool o]) ∧ Wk w.heap.size w' b1 b2 b3 d1 d2 d3 y1 y2 x3 P' R' N ∧ Below w.heap.size w w' := by
  have H := hide h
  have habl : ∀ g, (a1 = some ⟨g, 0, none⟩ ∨ a2 = some ⟨g, 0, none⟩ ∨ a3 = some ⟨g, 0, none⟩) → g < w.heap.size := fun g hg => (h.block g hg).2
  have HAB := hide habl
  clear h habl
  go_enter Oaag.func79, Oaag.ntmps79
  go_wp2_with fail
  obtain ⟨q0, q1, hb0, hz0⟩ := rows2 w (.cells (wv a1 a2 a3 c1 c2 c3 x1 x2 x3 P R N) 81) (.cells #[.slice none 0 0, .slice none 0 0, .slice none 0 0, .int .u64 0, .int .u64 0, .int .u64 0] 81)
  ((first | with_reducible refine Go.Proofs.YgcoaaGreat.NatW.gen_calls ?_ | with_reducible refine Go.Proofs.YgcoaaGreat.NatW.gen_wp ?_ | with_reducible refine Go.Proofs.YgcoaaGreat.NatW.gen_list ?_ | with_reducible refine Go.Proofs.YgcoaaGreat.NatW.gen_body ?_); intro W hW)
  rw [show (w.alloc (.cells (wv a1 a2 a3 c1 c2 c3 x1 x2 x3 P R N) 81)).alloc (.cells #[.slice none 0 0, .slice none 0 0, .slice none 0 0, .int .u64 0, .int .u64 0, .int .u64 0] 81) = W from hW] at q0 q1 hb0 hz0
  clear hW
  refine (copied_any W ((unhide H).later hb0)).mono ?_
  rintro e w1 ⟨b1, b2, b3, d1, d2, d3, rfl, hk1, bb1⟩
  have p0 : w1.heap[w.heap.size]? = some (.cells (wv a1 a2 a3 c1 c2 c3 x1 x2 x3 P R N) 81 (0, 0)) := (bb1.block _ (by omega)).trans q0
  have p1 : w1.heap[w.heap.size + 1]? = some (.cells #[.slice none 0 0, .slice none 0 0, .slice none 0 0, .int .u64 0, .int .u64 0, .int .u64 0] 81 (0, 0)) := (bb1.block _ (by omega)).trans q1
  have HB1 := hide (hb0.trans (bb1.mono hb0.size))
  have HK1 : Hid (Wk (w.heap.size + 2) w1 b1 b2 b3 d1 d2 d3 x1 x2 x3 P R N) := hide (hk1.lower (by omega))
  have HW1 := hide ((unhide H).later (unhide HB1))
  have hz1 : w.heap.size + 2 ≤ w1.heap.size := by have := bb1.size; omega
  clear hk1 bb1 hb0 hz0 q0 q1 H
  clear W
  have k0 := cell_of_row w1 (w.heap.size) 0 _ _ _ (p0)
  have k1 := cell_of_row w1 (w.heap.size) 1 _ _ _ (p0)
  have k2 := cell_of_row w1 (w.heap.size) 2 _ _ _ (p0)
  have k3 := cell_of_row w1 (w.heap.size) 3 _ _ _ (p0)
  have k4 := cell_of_row w1 (w.heap.size) 4 _ _ _ (p0)
  have k5 := cell_of_row w1 (w.heap.size) 5 _ _ _ (p0)
  simp only [wk, List.getElem?_toArray, List.getElem?_cons_zero, List.getElem?_cons_succ] at k0 k1 k2 k3 k4 k5
  have m0 := cell_of_row w1 (w.heap.size + 1) 0 _ _ _ (p1)
  have m1 := cell_of_row w1 (w.heap.size + 1) 1 _ _ _ (p1)
  have m2 := cell_of_row w1 (w.heap.size + 1) 2 _ _ _ (p1)
  have m3 := cell_of_row w1 (w.heap.size + 1) 3 _ _ _ (p1)
  have m4 := cell_of_row w1 (w.heap.size + 1) 4 _ _ _ (p1)
  have m5 := cell_of_row w1 (w.heap.size + 1) 5 _ _ _ (p1)
  simp only [wk, List.getElem?_toArray, List.getElem?_cons_zero, List.getElem?_cons_succ] at m0 m1 m2 m3 m4 m5
  have f0 := frozen_of_row w1 (w.heap.size + 1) 0 _ _ (p1)
  have f1 := frozen_of_row w1 (w.heap.size + 1) 1 _ _ (p1)
  have f2 := frozen_of_row w1 (w.heap.size + 1) 2 _ _ (p1)
  have f3 := frozen_of_row w1 (w.heap.size + 1) 3 _ _ (p1)
  have f4 := frozen_of_row w1 (w.heap.size + 1) 4 _ _ (p1)
  have f5 := frozen_of_row w1 (w.heap.size + 1) 5 _ _ (p1)
  have P0 := hide p0
  have P1 := hide p1
  clear p0 p1
  go_wp2_with fail
  ((first | with_reducible refine Go.Proofs.YgcoaaGreat.NatW.gen_calls ?_ | with_reducible refine Go.Proofs.YgcoaaGreat.NatW.gen_wp ?_ | with_reducible refine Go.Proofs.YgcoaaGreat.NatW.gen_list ?_ | with_reducible refine Go.Proofs.YgcoaaGreat.NatW.gen_body ?_); intro W hW)
  have hs6 : W.heap[w.heap.size + 1]? = some (.cells (wv b1 b2 b3 d1 d2 d3 x1 x2 x3 P R N) 81 (0, 0)) := by rw [← hW]; exact set6 w1 _ 81 _ _ _ _ _ _ _ _ _ _ _ _ (unhide P1)
  have hs0 : W.heap[w.heap.size]? = some (.cells (wv a1 a2 a3 c1 c2 c3 x1 x2 x3 P R N) 81 (0, 0)) := by rw [← hW, heap6 _ _ _ _ _ _ _ _ _ (by omega)]; exact unhide P0
  have hK2 : Wk (w.heap.size + 2) W b1 b2 b3 d1 d2 d3 x1 x2 x3 P R N := by rw [← hW]; exact (unhide HK1).set6 (fun g hg => by have := ((unhide HK1).block g hg).1; omega)
  have hW2 : Wk B W a1 a2 a3 c1 c2 c3 x1 x2 x3 P R N := by rw [← hW]; exact (unhide HW1).set6 (fun g hg => by have := unhide HAB g hg; omega)
  have hBW : Below w.heap.size w W := by rw [← hW]; exact below_store (below_store (below_store (below_store (below_store (below_store (unhide HB1) (by omega) _) (by omega) _) (by omega) _) (by omega) _) (by omega) _) (by omega) _
  have hzW : w.heap.size + 2 ≤ W.heap.size := by rw [← hW]; simp only [World.size_setCell]; exact hz1
  clear hW HK1 HW1 HB1 P0 P1 hz1 k0 k1 k2 k3 k4 k5 m0 m1 m2 m3 m4 m5 f0 f1 f2 f3 f4 f5
  have HCK := hide (hW2.check W)
  refine (unhide HCK).mono ?_
  clear HCK
  rintro e w2 ⟨rfl, bb2⟩
  have p0 : w2.heap[w.heap.size]? = some (.cells (wv a1 a2 a3 c1 c2 c3 x1 x2 x3 P R N) 81 (0, 0)) := (bb2.block _ (by omega)).trans hs0
  have p1 : w2.heap[w.heap.size + 1]? = some (.cells (wv b1 b2 b3 d1 d2 d3 x1 x2 x3 P R N) 81 (0, 0)) := (bb2.block _ (by omega)).trans hs6
  have HB2 := hide (hBW.trans (bb2.mono hBW.size))
  have HK2 := hide (hK2.later bb2)
  have HW2 := hide (hW2.later bb2)
  have hz2 : w.heap.size + 2 ≤ w2.heap.size := by have := bb2.size; omega
  clear bb2 hs0 hs6 hK2 hW2 hBW hzW
  clear W
  have k0 := cell_of_row w2 (w.heap.size) 0 _ _ _ (p0)
  have k1 := cell_of_row w2 (w.heap.size) 1 _ _ _ (p0)
  have k2 := cell_of_row w2 (w.heap.size) 2 _ _ _ (p0)
  have k3 := cell_of_row w2 (w.heap.size) 3 _ _ _ (p0)
  have k4 := cell_of_row w2 (w.heap.size) 4 _ _ _ (p0)
  have k5 := cell_of_row w2 (w.heap.size) 5 _ _ _ (p0)
  simp only [wk, List.getElem?_toArray, List.getElem?_cons_zero, List.getElem?_cons_succ] at k0 k1 k2 k3 k4 k5
  have m0 := cell_of_row w2 (w.heap.size + 1) 0 _ _ _ (p1)
  have m1 := cell_of_row w2 (w.heap.size + 1) 1 _ _ _ (p1)
  have m2 := cell_of_row w2 (w.heap.size + 1) 2 _ _ _ (p1)
  have m3 := cell_of_row w2 (w.heap.size + 1) 3 _ _ _ (p1)
  have m4 := cell_of_row w2 (w.heap.size + 1) 4 _ _ _ (p1)
  have m5 := cell_of_row w2 (w.heap.size + 1) 5 _ _ _ (p1)
  simp only [wk, List.getElem?_toArray, List.getElem?_cons_zero, List.getElem?_cons_succ] at m0 m1 m2 m3 m4 m5
  have f0 := frozen_of_row w2 (w.heap.size + 1) 0 _ _ (p1)
  have f1 := frozen_of_row w2 (w.heap.size + 1) 1 _ _ (p1)
  have f2 := frozen_of_row w2 (w.heap.size + 1) 2 _ _ (p1)
  have f3 := frozen_of_row w2 (w.heap.size + 1) 3 _ _ (p1)
  have f4 := frozen_of_row w2 (w.heap.size + 1) 4 _ _ (p1)
  have f5 := frozen_of_row w2 (w.heap.size + 1) 5 _ _ (p1)
  have P0 := hide p0
  have P1 := hide p1
  clear p0 p1
  have hPN := (unhide HW2).hP
  have hRN := (unhide HW2).hR
  have hN64 := hide (unhide HW2).hN
  have hsub : IntKind.u64.wrap ((N : Int) - (P : Int)) = ((N - P : Nat) : Int) := by have := unhide hN64; rw [IntKind.wrap_u64]; omega
  by_cases hover : N - P < R
  · have hov : (R : Int) > ((N : Int) - (P : Int)) := by omega
    go_wp2_with fail
    refine bodyPost_box rfl ?_
    intro r hr
    simp [results, Oaag.results79, go_sem, m0, m1, m2, m3, m4, m5] at hr
    subst hr
    refine ⟨_, rfl, b1, b2, b3, d1, d2, d3, x1, x2, P, R, 0, true, rfl, ?_, ?_⟩
    · exact ((unhide HK2).set6 (fun g hg => by have := ((unhide HK2).block g hg).1; omega)).lower (by omega)
    · exact below_store (below_store (below_store (below_store (below_store (below_store (unhide HB2) (by omega) _) (by omega) _) (by omega) _) (by omega) _) (by omega) _) (by omega) _
  · have hov : ¬ (R : Int) > ((N : Int) - (P : Int)) := by omega
    go_wp2_with fail
    have HCM := hide (cmp_any w2 a1 c1 (lim x1) x1 (val_lim x1) (unhide HW2).r1.sl (by have := (unhide HW2).l1; omega) a2 c2 (lim x2) x2 (val_lim x2) (unhide HW2).r2.sl (by have := (unhide HW2).l2; omega))
    refine (unhide HCM).mono ?_
    clear HCM
    rintro e w3 ⟨bb3, rfl⟩
    have p0 : w3.heap[w.heap.size]? = some (.cells (wv a1 a2 a3 c1 c2 c3 x1 x2 x3 P R N) 81 (0, 0)) := (bb3.block _ (by omega)).trans (unhide P0)
    have p1 : w3.heap[w.heap.size + 1]? = some (.cells (wv b1 b2 b3 d1 d2 d3 x1 x2 x3 P R N) 81 (0, 0)) := (bb3.block _ (by omega)).trans (unhide P1)
    have HB3 := hide ((unhide HB2).trans (bb3.mono (unhide HB2).size))
    have HK3 := hide ((unhide HK2).later bb3)
    have HW3 := hide ((unhide HW2).later bb3)
    have hz3 : w.heap.size + 2 ≤ w3.heap.size := by have := bb3.size; omega
    clear bb3 P0 P1 HB2 HK2 HW2 hz2 k0 k1 k2 k3 k4 k5 m0 m1 m2 m3 m4 m5 f0 f1 f2 f3 f4 f5
    have k0 := cell_of_row w3 (w.heap.size) 0 _ _ _ (p0)
    have k1 := cell_of_row w3 (w.heap.size) 1 _ _ _ (p0)
    have k2 := cell_of_row w3 (w.heap.size) 2 _ _ _ (p0)
    have k3 := cell_of_row w3 (w.heap.size) 3 _ _ _ (p0)
    have k4 := cell_of_row w3 (w.heap.size) 4 _ _ _ (p0)
    have k5 := cell_of_row w3 (w.heap.size) 5 _ _ _ (p0)
    simp only [wk, List.getElem?_toArray, List.getElem?_cons_zero, List.getElem?_cons_succ] at k0 k1 k2 k3 k4 k5
    have m0 := cell_of_row w3 (w.heap.size + 1) 0 _ _ _ (p1)
    have m1 := cell_of_row w3 (w.heap.size + 1) 1 _ _ _ (p1)
    have m2 := cell_of_row w3 (w.heap.size + 1) 2 _ _ _ (p1)
    have m3 := cell_of_row w3 (w.heap.size + 1) 3 _ _ _ (p1)
    have m4 := cell_of_row w3 (w.heap.size + 1) 4 _ _ _ (p1)
    have m5 := cell_of_row w3 (w.heap.size + 1) 5 _ _ _ (p1)
    simp only [wk, List.getElem?_toArray, List.getElem?_cons_zero, List.getElem?_cons_succ] at m0 m1 m2 m3 m4 m5
    have f0 := frozen_of_row w3 (w.heap.size + 1) 0 _ _ (p1)
    have f1 := frozen_of_row w3 (w.heap.size + 1) 1 _ _ (p1)
    have f2 := frozen_of_row w3 (w.heap.size + 1) 2 _ _ (p1)
    have f3 := frozen_of_row w3 (w.heap.size + 1) 3 _ _ (p1)
    have f4 := frozen_of_row w3 (w.heap.size + 1) 4 _ _ (p1)
    have f5 := frozen_of_row w3 (w.heap.size + 1) 5 _ _ (p1)
    have P0 := hide p0
    have P1 := hide p1
    clear p0 p1
    rcases Nat.lt_trichotomy x1 x2 with hlt | heq | hgt
    · have hcm : cmpI x1 x2 = -1 := by unfold cmpI; rw [if_pos hlt]
      rw [hcm]
      clear hcm
      go_wp2_with fail
      have hsub2 : IntKind.u64.wrap ((N : Int) - (R : Int)) = ((N - R : Nat) : Int) := by have := unhide hN64; rw [IntKind.wrap_u64]; omega
      try rw [hsub2]
      clear hsub2 hsub
      have HRU := hide (run_any w3 (unhide HW3).r2 (unhide HW3).r1 (by have := (unhide HW3).l2; omega) (unhide HW3).p1 (by omega) (N - R) P hPN.1 (by have := unhide hN64; omega) (by have := unhide hN64; omega))
      refine (unhide HRU).mono ?_
      clear HRU
      rintro e w4 ⟨k, a9, c9, rfl, hr9, hyk, hks, bb4⟩
      have p1 : w4.heap[w.heap.size + 1]? = some (.cells (wv b1 b2 b3 d1 d2 d3 x1 x2 x3 P R N) 81 (0, 0)) := (bb4.block _ (by omega)).trans (unhide P1)
      have p0 : w4.heap[w.heap.size]? = some (.cells (wv a1 a2 a3 c1 c2 c3 x1 x2 x3 P R N) 81 (0, 0)) := (bb4.block _ (by omega)).trans (unhide P0)
      have HB4 := hide ((unhide HB3).trans (bb4.mono (unhide HB3).size))
      have HK4 := hide ((unhide HK3).later bb4)
      have HR9 := hide (hr9.lower (show w.heap.size + 2 ≤ w3.heap.size by omega))
      have hz4 : w.heap.size + 2 ≤ w4.heap.size := by have := bb4.size; omega
      clear bb4 hr9 P0 P1 HB3 HK3 HW3 hz3 k0 k1 k2 k3 k4 k5 m0 m1 m2 m3 m4 m5 f0 f1 f2 f3 f4 f5
      have k0 := cell_of_row w4 (w.heap.size) 0 _ _ _ (p0)
      have k1 := cell_of_row w4 (w.heap.size) 1 _ _ _ (p0)
      have k2 := cell_of_row w4 (w.heap.size) 2 _ _ _ (p0)
      have k3 := cell_of_row w4 (w.heap.size) 3 _ _ _ (p0)
      have k4 := cell_of_row w4 (w.heap.size) 4 _ _ _ (p0)
      have k5 := cell_of_row w4 (w.heap.size) 5 _ _ _ (p0)
      simp only [wk, List.getElem?_toArray, List.getElem?_cons_zero, List.getElem?_cons_succ] at k0 k1 k2 k3 k4 k5
      have m0 := cell_of_row w4 (w.heap.size + 1) 0 _ _ _ (p1)
      have m1 := cell_of_row w4 (w.heap.size + 1) 1 _ _ _ (p1)
      have m2 := cell_of_row w4 (w.heap.size + 1) 2 _ _ _ (p1)
      have m3 := cell_of_row w4 (w.heap.size + 1) 3 _ _ _ (p1)
      have m4 := cell_of_row w4 (w.heap.size + 1) 4 _ _ _ (p1)
      have m5 := cell_of_row w4 (w.heap.size + 1) 5 _ _ _ (p1)
      simp only [wk, List.getElem?_toArray, List.getElem?_cons_zero, List.getElem?_cons_succ] at m0 m1 m2 m3 m4 m5
      have f0 := frozen_of_row w4 (w.heap.size + 1) 0 _ _ (p1)
      have f1 := frozen_of_row w4 (w.heap.size + 1) 1 _ _ (p1)
      have f2 := frozen_of_row w4 (w.heap.size + 1) 2 _ _ (p1)
      have f3 := frozen_of_row w4 (w.heap.size + 1) 3 _ _ (p1)
      have f4 := frozen_of_row w4 (w.heap.size + 1) 4 _ _ (p1)
      have f5 := frozen_of_row w4 (w.heap.size + 1) 5 _ _ (p1)
      have P1 := hide p1
      clear p0 p1
      obtain ⟨KP, hKP⟩ : ∃ KP, KP = k * P := ⟨_, rfl⟩
      rw [← hKP] at hks
      have hle : R + KP ≤ N := by omega
      obtain ⟨RR, hRR⟩ : ∃ RR, RR = R + KP := ⟨_, rfl⟩
      have hmul : IntKind.u64.wrap ((k : Int) * (P : Int)) = (KP : Int) := by
        have h1 : (k : Int) * (P : Int) = (KP : Int) := by rw [hKP]; simp
        have := unhide hN64
        rw [h1, IntKind.wrap_u64]; omega
      have hadd : IntKind.u64.wrap ((R : Int) + (KP : Int)) = (RR : Int) := by
        have := unhide hN64
        rw [IntKind.wrap_u64]; omega
      have HRR := hide hRR
      clear hRR hKP
      go_wp2_with fail
      ((first | with_reducible refine Go.Proofs.YgcoaaGreat.NatW.gen_calls ?_ | with_reducible refine Go.Proofs.YgcoaaGreat.NatW.gen_wp ?_ | with_reducible refine Go.Proofs.YgcoaaGreat.NatW.gen_list ?_ | with_reducible refine Go.Proofs.YgcoaaGreat.NatW.gen_body ?_); intro W hW)
      have hr2 : ((w4.setCell ⟨w.heap.size + 1, 1, none⟩ (.slice a9 (lim (x2 - x1 * k)).length c9)).setCell ⟨w.heap.size + 1, 4, none⟩ (.int .u64 RR)).heap[w.heap.size + 1]? = some (.cells #[.slice b1 (lim x1).length d1, .slice a9 (lim (x2 - x1 * k)).length c9, .slice b3 (lim x3).length d3, .int .u64 P, .int .u64 RR, .int .u64 N] 81 (0, 0)) := by simp [heap_set, setc, unhide P1]
      have hr3 : W.heap[w.heap.size + 1]? = some (.cells #[.slice b1 (lim x1).length d1, .slice a9 (lim (x2 - x1 * k)).length c9, .slice b3 (lim x3).length d3, .int .u64 P, .int .u64 RR, .int .u64 N] 81 (0, 0)) := by rw [← hW]; exact set6 _ _ 81 _ _ _ _ _ _ _ _ _ _ _ _ hr2
      clear hr2 m0 m1 m2 m3 m4 m5 f0 f1 f2 f3 f4 f5
      have m0 := cell_of_row W (w.heap.size + 1) 0 _ _ _ (hr3)
      have m1 := cell_of_row W (w.heap.size + 1) 1 _ _ _ (hr3)
      have m2 := cell_of_row W (w.heap.size + 1) 2 _ _ _ (hr3)
      have m3 := cell_of_row W (w.heap.size + 1) 3 _ _ _ (hr3)
      have m4 := cell_of_row W (w.heap.size + 1) 4 _ _ _ (hr3)
      have m5 := cell_of_row W (w.heap.size + 1) 5 _ _ _ (hr3)
      simp only [wk, List.getElem?_toArray, List.getElem?_cons_zero, List.getElem?_cons_succ] at m0 m1 m2 m3 m4 m5
      have HWW := hide hW
      clear hr3 hW
      refine bodyPost_box rfl ?_
      intro r hr
      simp [results, Oaag.results79, go_sem, m0, m1, m2, m3, m4, m5] at hr
      subst hr
      have hk9 := unhide HK4
      have hRR := unhide HRR
      have hwk := hk9.r1
      refine ⟨_, rfl, b1, a9, b3, d1, c9, d3, x1, x2 - x1 * k, P, RR, 0, false, rfl, ⟨?_, ?_, ?_, hk9.len, hk9.p1, by omega, by have := hk9.le; omega, hk9.hP, by omega, hk9.hN⟩, ?_⟩
      · have hne : ∀ g, b1 = some (⟨g, 0, none⟩ : Addr) → g ≠ w.heap.size + 1 := fun g hg => by have := ((hk9.r1).block g hg).1; omega
        refine Res.lower (B := w.heap.size + 2) ?_ (by omega)
        rw [← unhide HWW]
        iterate 8 refine Res.away ?_ _ hne
        exact hk9.r1
      · have hne : ∀ g, a9 = some (⟨g, 0, none⟩ : Addr) → g ≠ w.heap.size + 1 := fun g hg => by have := ((unhide HR9).block g hg).1; omega
        refine Res.lower (B := w.heap.size + 2) ?_ (by omega)
        rw [← unhide HWW]
        iterate 8 refine Res.away ?_ _ hne
        exact unhide HR9
      · have hne : ∀ g, b3 = some (⟨g, 0, none⟩ : Addr) → g ≠ w.heap.size + 1 := fun g hg => by have := ((hk9.r3).block g hg).1; omega
        refine Res.lower (B := w.heap.size + 2) ?_ (by omega)
        rw [← unhide HWW]
        iterate 8 refine Res.away ?_ _ hne
        exact hk9.r3
      · rw [← unhide HWW]
        exact below_store (below_store (below_store (below_store (below_store (below_store (below_store (below_store (unhide HB4) (by omega) _) (by omega) _) (by omega) _) (by omega) _) (by omega) _) (by omega) _) (by omega) _) (by omega) _
    · have hcm : cmpI x1 x2 = 0 := by unfold cmpI; rw [if_neg (by omega), if_neg (by omega)]
      rw [hcm]
      clear hcm heq
      go_wp2_with fail
      obtain ⟨wt, hWt, hst, hkt, hbt⟩ := trunc2 w3 (w.heap.size + 1) (by omega)
      have hne2 : Nonempty (Later wt) := ⟨⟨w3, hWt⟩⟩
      have K3 : ∀ y : Later wt, y.at_.cell? ⟨w.heap.size, 3, none⟩ = some (.int .u64 P) := fun y => (World.cell?_of_block (a := ⟨w.heap.size, 3, none⟩) (hkt y w.heap.size (by omega))).trans k3
      have K4 : ∀ y : Later wt, y.at_.cell? ⟨w.heap.size, 4, none⟩ = some (.int .u64 R) := fun y => (World.cell?_of_block (a := ⟨w.heap.size, 4, none⟩) (hkt y w.heap.size (by omega))).trans k4
      have JL : ∀ u1 u2 : World, TnI w.heap.size w3.heap.size (wv b1 b2 b3 d1 d2 d3 x1 x2 x3 P R N) b1 b2 b3 d1 d2 d3 x1 x2 x3 P R N u1 → Below u1.heap.size u1 u2 → TnI w.heap.size w3.heap.size (wv b1 b2 b3 d1 d2 d3 x1 x2 x3 P R N) b1 b2 b3 d1 d2 d3 x1 x2 x3 P R N u2 := fun u1 u2 h hb => ⟨(hb.block _ (Array.getElem?_eq_some_iff.1 h.1).1).trans h.1, Nat.le_trans h.2.1 hb.size, h.2.2.later hb⟩
      have HI0 : Hid (TnI w.heap.size w3.heap.size (wv b1 b2 b3 d1 d2 d3 x1 x2 x3 P R N) b1 b2 b3 d1 d2 d3 x1 x2 x3 P R N w3) := hide ⟨unhide P1, Nat.le_refl _, unhide HK3⟩
      have HBT := hide (fun (y : Later wt) (h : w3.heap.size ≤ y.at_.heap.size) => (unhide HB3).trans ((hbt y h).mono (by omega)))
      clear hkt hbt k0 k1 k2 k3 k4 k5 m0 m1 m2 m3 m4 m5 f0 f1 f2 f3 f4 f5
      (repeat (first | (rewrite [Go.Proofs.YgcoaaGreat.NatW.frz_ite]; generalize Go.Proofs.YgcoaaGreat.NatW.frzI _ = x__) | (rewrite [Go.Proofs.YgcoaaGreat.NatW.frz_dec]; generalize Go.Proofs.YgcoaaGreat.NatW.frzB _ = x__) | (rewrite [Go.Proofs.YgcoaaGreat.NatW.frz_beq]; generalize Go.Proofs.YgcoaaGreat.NatW.frzB _ = x__) | (rewrite [Go.Proofs.YgcoaaGreat.NatW.frz_not]; generalize Go.Proofs.YgcoaaGreat.NatW.frzB _ = x__) | (rewrite [Go.Proofs.YgcoaaGreat.NatW.frz_and]; generalize Go.Proofs.YgcoaaGreat.NatW.frzB _ = x__) | (rewrite [Go.Proofs.YgcoaaGreat.NatW.frz_or]; generalize Go.Proofs.YgcoaaGreat.NatW.frzB _ = x__) | (rewrite [show ∀ (a b : Int), Value.bool (a != b) = Value.bool (Go.Proofs.YgcoaaGreat.NatW.frzB (a != b)) from fun _ _ => rfl]; generalize Go.Proofs.YgcoaaGreat.NatW.frzB _ = x__)))
      refine Go.LaxS.region_gen (⟨w3, hWt⟩ : Later wt) 7 4 [(0, fun v => v = .agg (wv b1 b2 b3 d1 d2 d3 x1 x2 x3 P R N))] [] [6] (TnI w.heap.size w3.heap.size (wv b1 b2 b3 d1 d2 d3 x1 x2 x3 P R N) b1 b2 b3 d1 d2 d3 x1 x2 x3 P R N) (by kernel_rfl) (by kernel_rfl) (by kernel_rfl) (by kernel_rfl) (unhide HI0) JL (fun _ h => by cases h) (List.forall_mem_cons.2 ⟨⟨_, rfl⟩, fun _ h => by cases h⟩) ?_
      refine Go.LaxS.gen_call rfl rfl rfl JL ?_ (fun y K hI hG hK => by
        have m0 := cell_of_row y.at_ (w.heap.size + 1) 0 _ _ _ (hI.1)
        have m1 := cell_of_row y.at_ (w.heap.size + 1) 1 _ _ _ (hI.1)
        have m2 := cell_of_row y.at_ (w.heap.size + 1) 2 _ _ _ (hI.1)
        have m3 := cell_of_row y.at_ (w.heap.size + 1) 3 _ _ _ (hI.1)
        have m4 := cell_of_row y.at_ (w.heap.size + 1) 4 _ _ _ (hI.1)
        have m5 := cell_of_row y.at_ (w.heap.size + 1) 5 _ _ _ (hI.1)
        simp only [wk, List.getElem?_toArray, List.getElem?_cons_zero, List.getElem?_cons_succ] at m0 m1 m2 m3 m4 m5
        have HK := hide hK
        clear hK
        go_wp2_with fail
        exact unhide HK _ _ rfl trivial (Below.refl _ _))
      rintro v rfl
      ((try dsimp only); go_big_quiet_want; go_big_quiet_op; go_big_quiet_on; refine wpQuiet_nil ?_)
      iterate 5 (refine Go.LaxS.walk_det rfl rfl rfl rfl ?_; go_big_quiet_want; go_big_quiet_op; go_big_quiet_on; refine wpQuiet_nil ?_)
      refine Go.LaxS.gen_store rfl rfl rfl rfl rfl ?_ (fun y K hI hG hK => by
        have m0 := cell_of_row y.at_ (w.heap.size + 1) 0 _ _ _ (hI.1)
        have m1 := cell_of_row y.at_ (w.heap.size + 1) 1 _ _ _ (hI.1)
        have m2 := cell_of_row y.at_ (w.heap.size + 1) 2 _ _ _ (hI.1)
        have m3 := cell_of_row y.at_ (w.heap.size + 1) 3 _ _ _ (hI.1)
        have m4 := cell_of_row y.at_ (w.heap.size + 1) 4 _ _ _ (hI.1)
        have m5 := cell_of_row y.at_ (w.heap.size + 1) 5 _ _ _ (hI.1)
        simp only [wk, List.getElem?_toArray, List.getElem?_cons_zero, List.getElem?_cons_succ] at m0 m1 m2 m3 m4 m5
        have f0 := frozen_of_row y.at_ (w.heap.size + 1) 0 _ _ (hI.1)
        have f1 := frozen_of_row y.at_ (w.heap.size + 1) 1 _ _ (hI.1)
        have f2 := frozen_of_row y.at_ (w.heap.size + 1) 2 _ _ (hI.1)
        have f3 := frozen_of_row y.at_ (w.heap.size + 1) 3 _ _ (hI.1)
        have f4 := frozen_of_row y.at_ (w.heap.size + 1) 4 _ _ (hI.1)
        have f5 := frozen_of_row y.at_ (w.heap.size + 1) 5 _ _ (hI.1)
        have HK := hide hK
        have HI := hide hI
        clear hK hI
        go_wp2_with fail
        refine unhide HK _ ?_ ?_ ?_
        · rw [hst]
          have := y.ok
          rw [hst] at this
          exact below_store (below_store (below_store (below_store (below_store (below_store (this) (by omega) _) (by omega) _) (by omega) _) (by omega) _) (by omega) _) (by omega) _
        · exact ⟨set6 y.at_ _ 81 _ _ _ _ _ _ _ _ _ _ _ _ (unhide HI).1, by simp only [World.size_setCell]; exact (unhide HI).2.1, (unhide HI).2.2.set6 (fun g hg => by have := ((unhide HI).2.2.block g hg).1; omega)⟩
        · exact fun _ _ _ _ => trivial)
      refine Go.LaxS.gen_end ?_
      intro y hI hG
      have m0 := cell_of_row y.at_ (w.heap.size + 1) 0 _ _ _ (hI.1)
      have m1 := cell_of_row y.at_ (w.heap.size + 1) 1 _ _ _ (hI.1)
      have m2 := cell_of_row y.at_ (w.heap.size + 1) 2 _ _ _ (hI.1)
      have m3 := cell_of_row y.at_ (w.heap.size + 1) 3 _ _ _ (hI.1)
      have m4 := cell_of_row y.at_ (w.heap.size + 1) 4 _ _ _ (hI.1)
      have m5 := cell_of_row y.at_ (w.heap.size + 1) 5 _ _ _ (hI.1)
      simp only [wk, List.getElem?_toArray, List.getElem?_cons_zero, List.getElem?_cons_succ] at m0 m1 m2 m3 m4 m5
      have HI := hide hI
      clear hI hG
      go_wp2_with fail
      refine bodyPost_box rfl ?_
      intro r hr
      simp [results, Oaag.results79, go_sem, m0, m1, m2, m3, m4, m5] at hr
      subst hr
      exact ⟨_, rfl, b1, b2, b3, d1, d2, d3, x1, x2, P, R, _, true, rfl, (unhide HI).2.2.lower (by omega), unhide HBT y (unhide HI).2.1⟩
    · have hcm : cmpI x1 x2 = 1 := by unfold cmpI; rw [if_neg (by omega), if_pos hgt]
      rw [hcm]
      clear hcm
      go_wp2_with fail
      have hsub2 : IntKind.u64.wrap ((N : Int) - (P : Int)) = ((N - P : Nat) : Int) := by have := unhide hN64; rw [IntKind.wrap_u64]; omega
      try rw [hsub2]
      clear hsub2 hsub
      have HRU := hide (run_any w3 (unhide HW3).r1 (unhide HW3).r2 (by have := (unhide HW3).l1; omega) (unhide HW3).p2 (by omega) (N - P) R hRN.1 (by have := unhide hN64; omega) (by have := unhide hN64; omega))
      refine (unhide HRU).mono ?_
      clear HRU
      rintro e w4 ⟨k, a9, c9, rfl, hr9, hyk, hks, bb4⟩
      have p1 : w4.heap[w.heap.size + 1]? = some (.cells (wv b1 b2 b3 d1 d2 d3 x1 x2 x3 P R N) 81 (0, 0)) := (bb4.block _ (by omega)).trans (unhide P1)
      have p0 : w4.heap[w.heap.size]? = some (.cells (wv a1 a2 a3 c1 c2 c3 x1 x2 x3 P R N) 81 (0, 0)) := (bb4.block _ (by omega)).trans (unhide P0)
      have HB4 := hide ((unhide HB3).trans (bb4.mono (unhide HB3).size))
      have HK4 := hide ((unhide HK3).later bb4)
      have HR9 := hide (hr9.lower (show w.heap.size + 2 ≤ w3.heap.size by omega))
      have hz4 : w.heap.size + 2 ≤ w4.heap.size := by have := bb4.size; omega
      clear bb4 hr9 P0 P1 HB3 HK3 HW3 hz3 k0 k1 k2 k3 k4 k5 m0 m1 m2 m3 m4 m5 f0 f1 f2 f3 f4 f5
      have k0 := cell_of_row w4 (w.heap.size) 0 _ _ _ (p0)
      have k1 := cell_of_row w4 (w.heap.size) 1 _ _ _ (p0)
      have k2 := cell_of_row w4 (w.heap.size) 2 _ _ _ (p0)
      have k3 := cell_of_row w4 (w.heap.size) 3 _ _ _ (p0)
      have k4 := cell_of_row w4 (w.heap.size) 4 _ _ _ (p0)
      have k5 := cell_of_row w4 (w.heap.size) 5 _ _ _ (p0)
      simp only [wk, List.getElem?_toArray, List.getElem?_cons_zero, List.getElem?_cons_succ] at k0 k1 k2 k3 k4 k5
      have m0 := cell_of_row w4 (w.heap.size + 1) 0 _ _ _ (p1)
      have m1 := cell_of_row w4 (w.heap.size + 1) 1 _ _ _ (p1)
      have m2 := cell_of_row w4 (w.heap.size + 1) 2 _ _ _ (p1)
      have m3 := cell_of_row w4 (w.heap.size + 1) 3 _ _ _ (p1)
      have m4 := cell_of_row w4 (w.heap.size + 1) 4 _ _ _ (p1)
      have m5 := cell_of_row w4 (w.heap.size + 1) 5 _ _ _ (p1)
      simp only [wk, List.getElem?_toArray, List.getElem?_cons_zero, List.getElem?_cons_succ] at m0 m1 m2 m3 m4 m5
      have f0 := frozen_of_row w4 (w.heap.size + 1) 0 _ _ (p1)
      have f1 := frozen_of_row w4 (w.heap.size + 1) 1 _ _ (p1)
      have f2 := frozen_of_row w4 (w.heap.size + 1) 2 _ _ (p1)
      have f3 := frozen_of_row w4 (w.heap.size + 1) 3 _ _ (p1)
      have f4 := frozen_of_row w4 (w.heap.size + 1) 4 _ _ (p1)
      have f5 := frozen_of_row w4 (w.heap.size + 1) 5 _ _ (p1)
      have P1 := hide p1
      clear p0 p1
      obtain ⟨KP, hKP⟩ : ∃ KP, KP = k * R := ⟨_, rfl⟩
      rw [← hKP] at hks
      have hle : P + KP ≤ N := by omega
      obtain ⟨RR, hRR⟩ : ∃ RR, RR = P + KP := ⟨_, rfl⟩
      have hmul : IntKind.u64.wrap ((k : Int) * (R : Int)) = (KP : Int) := by
        have h1 : (k : Int) * (R : Int) = (KP : Int) := by rw [hKP]; simp
        have := unhide hN64
        rw [h1, IntKind.wrap_u64]; omega
      have hadd : IntKind.u64.wrap ((P : Int) + (KP : Int)) = (RR : Int) := by
        have := unhide hN64
        rw [IntKind.wrap_u64]; omega
      have HRR := hide hRR
      clear hRR hKP
      go_wp2_with fail
      ((first | with_reducible refine Go.Proofs.YgcoaaGreat.NatW.gen_calls ?_ | with_reducible refine Go.Proofs.YgcoaaGreat.NatW.gen_wp ?_ | with_reducible refine Go.Proofs.YgcoaaGreat.NatW.gen_list ?_ | with_reducible refine Go.Proofs.YgcoaaGreat.NatW.gen_body ?_); intro W hW)
      have hr2 : ((w4.setCell ⟨w.heap.size + 1, 0, none⟩ (.slice a9 (lim (x1 - x2 * k)).length c9)).setCell ⟨w.heap.size + 1, 3, none⟩ (.int .u64 RR)).heap[w.heap.size + 1]? = some (.cells #[.slice a9 (lim (x1 - x2 * k)).length c9, .slice b2 (lim x2).length d2, .slice b3 (lim x3).length d3, .int .u64 RR, .int .u64 R, .int .u64 N] 81 (0, 0)) := by simp [heap_set, setc, unhide P1]
      have hr3 : W.heap[w.heap.size + 1]? = some (.cells #[.slice a9 (lim (x1 - x2 * k)).length c9, .slice b2 (lim x2).length d2, .slice b3 (lim x3).length d3, .int .u64 RR, .int .u64 R, .int .u64 N] 81 (0, 0)) := by rw [← hW]; exact set6 _ _ 81 _ _ _ _ _ _ _ _ _ _ _ _ hr2
      clear hr2 m0 m1 m2 m3 m4 m5 f0 f1 f2 f3 f4 f5
      have m0 := cell_of_row W (w.heap.size + 1) 0 _ _ _ (hr3)
      have m1 := cell_of_row W (w.heap.size + 1) 1 _ _ _ (hr3)
      have m2 := cell_of_row W (w.heap.size + 1) 2 _ _ _ (hr3)
      have m3 := cell_of_row W (w.heap.size + 1) 3 _ _ _ (hr3)
      have m4 := cell_of_row W (w.heap.size + 1) 4 _ _ _ (hr3)
      have m5 := cell_of_row W (w.heap.size + 1) 5 _ _ _ (hr3)
      simp only [wk, List.getElem?_toArray, List.getElem?_cons_zero, List.getElem?_cons_succ] at m0 m1 m2 m3 m4 m5
      have HWW := hide hW
      clear hr3 hW
      refine bodyPost_box rfl ?_
      intro r hr
      simp [results, Oaag.results79, go_sem, m0, m1, m2, m3, m4, m5] at hr
      subst hr
      have hk9 := unhide HK4
      have hRR := unhide HRR
      have hwk := unhide HR9
      refine ⟨_, rfl, a9, b2, b3, c9, d2, d3, x1 - x2 * k, x2, RR, R, 0, false, rfl, ⟨?_, ?_, ?_, hk9.len, by omega, hk9.p2, by have := hk9.le; omega, by omega, hk9.hR, hk9.hN⟩, ?_⟩
      · have hne : ∀ g, a9 = some (⟨g, 0, none⟩ : Addr) → g ≠ w.heap.size + 1 := fun g hg => by have := ((unhide HR9).block g hg).1; omega
        refine Res.lower (B := w.heap.size + 2) ?_ (by omega)
        rw [← unhide HWW]
        iterate 8 refine Res.away ?_ _ hne
        exact unhide HR9
      · have hne : ∀ g, b2 = some (⟨g, 0, none⟩ : Addr) → g ≠ w.heap.size + 1 := fun g hg => by have := ((hk9.r2).block g hg).1; omega
        refine Res.lower (B := w.heap.size + 2) ?_ (by omega)
        rw [← unhide HWW]
        iterate 8 refine Res.away ?_ _ hne
        exact hk9.r2
      · have hne : ∀ g, b3 = some (⟨g, 0, none⟩ : Addr) → g ≠ w.heap.size + 1 := fun g hg => by have := ((hk9.r3).block g hg).1; omega
        refine Res.lower (B := w.heap.size + 2) ?_ (by omega)
        rw [← unhide HWW]
        iterate 8 refine Res.away ?_ _ hne
        exact hk9.r3
      · rw [← unhide HWW]
        exact below_store (below_store (below_store (below_store (below_store (below_store (below_store (below_store (unhide HB4) (by omega) _) (by omega) _) (by omega) _) (by omega) _) (by omega) _) (by omega) _) (by omega) _) (by omega) _
end Go.Proofs.YgcoaaGreat.NatW
