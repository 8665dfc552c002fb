/-
  exact.Round's callees, on: pack.
-/
import Derived.Test.YgcoaaRatF
set_option linter.unusedVariables false
set_option linter.unusedSimpArgs false
namespace Go.Proofs.Ygcoaa.NatW
open Go.RowKit
open Go.Proofs.Ygcoaa.Limbs

/-- pack's answer. -/
def PackOf (E M : Nat) (mode : Int) (neg : Bool) (e n half : Int) (some_ tiny : Bool) (r fl : Int) : Prop := ∀ w,
    Calls Oaag.prog 82 #[.agg #[.int .u8 E, .int .u8 M], .int .u8 mode, .bool neg, .int .i64 e, .int .u64 n, .agg #[.int .i8 half, .bool some_], .bool tiny] w fun e w' => e = .returned (.tuple #[.int .u64 r, .int .u8 fl]) ∧ Below w.heap.size w w'

set_option maxRecDepth 20000 in
set_option maxHeartbeats 1000000 in
theorem pack_any (E M : Nat) (hf : fok E M = true) (mode : Int) (neg : Bool) (e n half : Int) (some_ tiny : Bool) : ∃ r fl : Int, PackOf E M mode neg e n half some_ tiny r fl := by
  obtain ⟨g1, g2, g3, g4⟩ := fok_bd hf
  obtain ⟨em, h1⟩ := emin_any E M hf
  obtain ⟨rI, h2⟩ := inf_any E M hf false
  obtain ⟨ro, fo, h3⟩ := overflow_any E M hf mode neg
  obtain ⟨rz, h4⟩ := zero_any E M hf neg
  have H1 := hide h1
  have H2 := hide h2
  have H3 := hide h3
  have H4 := hide h4
  clear h1 h2 h3 h4 hf
  obtain ⟨X, hX⟩ : ∃ X : Int, X = IntKind.u64.wrap (IntKind.u64.wrap (IntKind.u64.wrap (wrap64 (e - em)) * 2 ^ M) + n) := ⟨_, rfl⟩
  have HX := hide hX
  clear hX
  by_cases hov : rI ≤ X
  · refine ⟨ro, fo, fun w => ?_⟩
    go_enter Oaag.func82, Oaag.ntmps82
    go_wp2
    obtain ⟨w2, hw2⟩ : ∃ w2, w2 = (w.alloc (.cells #[.int .u8 E, .int .u8 M] 33)).alloc (.cells #[.int .i8 half, .bool some_] 125) := ⟨_, rfl⟩
    have hz2 : w2.heap.size = w.heap.size + 2 := by rw [hw2]; simp
    have hh0 : w2.heap[w.heap.size]? = some (.cells #[.int .u8 E, .int .u8 M] 33 (0, 0)) := by
      rw [hw2, Below.heap_alloc _ _ _ (by simp), heap_alloc_new]
    have hh1 : w2.heap[w.heap.size + 1]? = some (.cells #[.int .i8 half, .bool some_] 125 (0, 0)) := by
      rw [hw2]
      have := heap_alloc_new (w.alloc (.cells #[.int .u8 E, .int .u8 M] 33)) (.cells #[.int .i8 half, .bool some_] 125)
      simpa using this
    have hb2 : Below w.heap.size w w2 := by rw [hw2]; exact ((Below.refl _ _).alloc (Nat.le_refl _) _).alloc (by simp) _
    rw [← hw2]
    clear hw2
    have hc0 : ∀ x : Later w2, x.at_.cell? ⟨w.heap.size, 0, none⟩ = some (.int .u8 E) := fun x => (x.ok.cell (by simp; omega)).trans (by rw [cell_of_row _ _ _ _ _ _ hh0]; rfl)
    have hc1 : ∀ x : Later w2, x.at_.cell? ⟨w.heap.size, 1, none⟩ = some (.int .u8 M) := fun x => (x.ok.cell (by simp; omega)).trans (by rw [cell_of_row _ _ _ _ _ _ hh0]; rfl)
    have hd1 : ∀ x : Later w2, x.at_.cell? ⟨w.heap.size + 1, 1, none⟩ = some (.bool some_) := fun x => (x.ok.cell (by simp; omega)).trans (by rw [cell_of_row _ _ _ _ _ _ hh1]; rfl)
    have HD1 := hide hd1
    have HZ2 := hide hz2
    clear hd1 hh0 hh1 hz2
    have hne : Nonempty (Later w2) := ⟨⟨w2, Below.refl _ _⟩⟩
    refine wp_region_below (by kernel_rfl) (by kernel_rfl) ?_
    iterate 2 (go_big_quiet_want; go_big_quiet_op; go_big_quiet_on)
    go_big_quiet_want
    go_big_quiet_op
    apply Exists.intro
    refine ⟨fun x => Calls.below_of x (unhide H1 x.at_), ?_⟩
    go_big_quiet_on
    iterate 8 (go_big_quiet_want; go_big_quiet_op; go_big_quiet_on)
    refine wpQuiet_nil ?_
    intro w3 hw3
    have hb3 : Below w2.heap.size w2 w3 := by obtain ⟨Z, hZ⟩ := hw3; rw [hZ]; exact Z.ok
    clear hw3
    rw [← unhide HX]
    have hz2le : w.heap.size + 2 ≤ w2.heap.size := by have := unhide HZ2; omega
    have hz3 := hb3.size
    have e0 := hc0 ⟨w3, hb3⟩
    have e1 := hc1 ⟨w3, hb3⟩
    simp only at e0 e1
    go_wp2_with fail
    refine (unhide H2 w3).mono ?_
    rintro e' w4 ⟨rfl, hb4⟩
    have hz4 := hb4.size
    have hb24 : Below w2.heap.size w2 w4 := hb3.trans (hb4.mono hz3)
    have i0 := hc0 ⟨w4, hb24⟩
    have i1 := hc1 ⟨w4, hb24⟩
    have j1 := unhide HD1 ⟨w4, hb24⟩
    simp only at i0 i1 j1
    have hbw4 : Below w.heap.size w w4 := hb2.trans (hb24.mono (by omega))
    clear hc0 hc1 HD1 e0 e1 hne
    go_wp2_with fail
    refine (unhide H3 w4).mono ?_
    rintro e' w5 ⟨rfl, hb5⟩
    go_wp2
    go_ret2
    exact ⟨rfl, hbw4.trans (hb5.mono (by omega))⟩
  · have hov' : decide (rI ≤ X) = false := decide_eq_false hov
    cases some_
    · refine ⟨bits .or .u64 X rz, 0, fun w => ?_⟩
      go_enter Oaag.func82, Oaag.ntmps82
      go_wp2
      obtain ⟨w2, hw2⟩ : ∃ w2, w2 = (w.alloc (.cells #[.int .u8 E, .int .u8 M] 33)).alloc (.cells #[.int .i8 half, .bool false] 125) := ⟨_, rfl⟩
      have hz2 : w2.heap.size = w.heap.size + 2 := by rw [hw2]; simp
      have hh0 : w2.heap[w.heap.size]? = some (.cells #[.int .u8 E, .int .u8 M] 33 (0, 0)) := by
        rw [hw2, Below.heap_alloc _ _ _ (by simp), heap_alloc_new]
      have hh1 : w2.heap[w.heap.size + 1]? = some (.cells #[.int .i8 half, .bool false] 125 (0, 0)) := by
        rw [hw2]
        have := heap_alloc_new (w.alloc (.cells #[.int .u8 E, .int .u8 M] 33)) (.cells #[.int .i8 half, .bool false] 125)
        simpa using this
      have hb2 : Below w.heap.size w w2 := by rw [hw2]; exact ((Below.refl _ _).alloc (Nat.le_refl _) _).alloc (by simp) _
      rw [← hw2]
      clear hw2
      have hc0 : ∀ x : Later w2, x.at_.cell? ⟨w.heap.size, 0, none⟩ = some (.int .u8 E) := fun x => (x.ok.cell (by simp; omega)).trans (by rw [cell_of_row _ _ _ _ _ _ hh0]; rfl)
      have hc1 : ∀ x : Later w2, x.at_.cell? ⟨w.heap.size, 1, none⟩ = some (.int .u8 M) := fun x => (x.ok.cell (by simp; omega)).trans (by rw [cell_of_row _ _ _ _ _ _ hh0]; rfl)
      have hd1 : ∀ x : Later w2, x.at_.cell? ⟨w.heap.size + 1, 1, none⟩ = some (.bool false) := fun x => (x.ok.cell (by simp; omega)).trans (by rw [cell_of_row _ _ _ _ _ _ hh1]; rfl)
      have HD1 := hide hd1
      have HZ2 := hide hz2
      clear hd1 hh0 hh1 hz2
      have hne : Nonempty (Later w2) := ⟨⟨w2, Below.refl _ _⟩⟩
      refine wp_region_below (by kernel_rfl) (by kernel_rfl) ?_
      iterate 2 (go_big_quiet_want; go_big_quiet_op; go_big_quiet_on)
      go_big_quiet_want
      go_big_quiet_op
      apply Exists.intro
      refine ⟨fun x => Calls.below_of x (unhide H1 x.at_), ?_⟩
      go_big_quiet_on
      iterate 8 (go_big_quiet_want; go_big_quiet_op; go_big_quiet_on)
      refine wpQuiet_nil ?_
      intro w3 hw3
      have hb3 : Below w2.heap.size w2 w3 := by obtain ⟨Z, hZ⟩ := hw3; rw [hZ]; exact Z.ok
      clear hw3
      rw [← unhide HX]
      have hz2le : w.heap.size + 2 ≤ w2.heap.size := by have := unhide HZ2; omega
      have hz3 := hb3.size
      have e0 := hc0 ⟨w3, hb3⟩
      have e1 := hc1 ⟨w3, hb3⟩
      simp only at e0 e1
      go_wp2_with fail
      refine (unhide H2 w3).mono ?_
      rintro e' w4 ⟨rfl, hb4⟩
      have hz4 := hb4.size
      have hb24 : Below w2.heap.size w2 w4 := hb3.trans (hb4.mono hz3)
      have i0 := hc0 ⟨w4, hb24⟩
      have i1 := hc1 ⟨w4, hb24⟩
      have j1 := unhide HD1 ⟨w4, hb24⟩
      simp only at i0 i1 j1
      have hbw4 : Below w.heap.size w w4 := hb2.trans (hb24.mono (by omega))
      clear hc0 hc1 HD1 e0 e1 hne
      go_wp2_with fail
      refine (unhide H4 w4).mono ?_
      rintro e' w5 ⟨rfl, hb5⟩
      go_wp2
      go_ret2
      exact ⟨rfl, hbw4.trans (hb5.mono (by omega))⟩
    · cases tiny
      · refine ⟨bits .or .u64 X rz, 16, fun w => ?_⟩
        go_enter Oaag.func82, Oaag.ntmps82
        go_wp2
        obtain ⟨w2, hw2⟩ : ∃ w2, w2 = (w.alloc (.cells #[.int .u8 E, .int .u8 M] 33)).alloc (.cells #[.int .i8 half, .bool true] 125) := ⟨_, rfl⟩
        have hz2 : w2.heap.size = w.heap.size + 2 := by rw [hw2]; simp
        have hh0 : w2.heap[w.heap.size]? = some (.cells #[.int .u8 E, .int .u8 M] 33 (0, 0)) := by
          rw [hw2, Below.heap_alloc _ _ _ (by simp), heap_alloc_new]
        have hh1 : w2.heap[w.heap.size + 1]? = some (.cells #[.int .i8 half, .bool true] 125 (0, 0)) := by
          rw [hw2]
          have := heap_alloc_new (w.alloc (.cells #[.int .u8 E, .int .u8 M] 33)) (.cells #[.int .i8 half, .bool true] 125)
          simpa using this
        have hb2 : Below w.heap.size w w2 := by rw [hw2]; exact ((Below.refl _ _).alloc (Nat.le_refl _) _).alloc (by simp) _
        rw [← hw2]
        clear hw2
        have hc0 : ∀ x : Later w2, x.at_.cell? ⟨w.heap.size, 0, none⟩ = some (.int .u8 E) := fun x => (x.ok.cell (by simp; omega)).trans (by rw [cell_of_row _ _ _ _ _ _ hh0]; rfl)
        have hc1 : ∀ x : Later w2, x.at_.cell? ⟨w.heap.size, 1, none⟩ = some (.int .u8 M) := fun x => (x.ok.cell (by simp; omega)).trans (by rw [cell_of_row _ _ _ _ _ _ hh0]; rfl)
        have hd1 : ∀ x : Later w2, x.at_.cell? ⟨w.heap.size + 1, 1, none⟩ = some (.bool true) := fun x => (x.ok.cell (by simp; omega)).trans (by rw [cell_of_row _ _ _ _ _ _ hh1]; rfl)
        have HD1 := hide hd1
        have HZ2 := hide hz2
        clear hd1 hh0 hh1 hz2
        have hne : Nonempty (Later w2) := ⟨⟨w2, Below.refl _ _⟩⟩
        refine wp_region_below (by kernel_rfl) (by kernel_rfl) ?_
        iterate 2 (go_big_quiet_want; go_big_quiet_op; go_big_quiet_on)
        go_big_quiet_want
        go_big_quiet_op
        apply Exists.intro
        refine ⟨fun x => Calls.below_of x (unhide H1 x.at_), ?_⟩
        go_big_quiet_on
        iterate 8 (go_big_quiet_want; go_big_quiet_op; go_big_quiet_on)
        refine wpQuiet_nil ?_
        intro w3 hw3
        have hb3 : Below w2.heap.size w2 w3 := by obtain ⟨Z, hZ⟩ := hw3; rw [hZ]; exact Z.ok
        clear hw3
        rw [← unhide HX]
        have hz2le : w.heap.size + 2 ≤ w2.heap.size := by have := unhide HZ2; omega
        have hz3 := hb3.size
        have e0 := hc0 ⟨w3, hb3⟩
        have e1 := hc1 ⟨w3, hb3⟩
        simp only at e0 e1
        go_wp2_with fail
        refine (unhide H2 w3).mono ?_
        rintro e' w4 ⟨rfl, hb4⟩
        have hz4 := hb4.size
        have hb24 : Below w2.heap.size w2 w4 := hb3.trans (hb4.mono hz3)
        have i0 := hc0 ⟨w4, hb24⟩
        have i1 := hc1 ⟨w4, hb24⟩
        have j1 := unhide HD1 ⟨w4, hb24⟩
        simp only at i0 i1 j1
        have hbw4 : Below w.heap.size w w4 := hb2.trans (hb24.mono (by omega))
        clear hc0 hc1 HD1 e0 e1 hne
        go_wp2_with fail
        refine (unhide H4 w4).mono ?_
        rintro e' w5 ⟨rfl, hb5⟩
        go_wp2
        go_ret2
        exact ⟨rfl, hbw4.trans (hb5.mono (by omega))⟩
      · refine ⟨bits .or .u64 X rz, 24, fun w => ?_⟩
        go_enter Oaag.func82, Oaag.ntmps82
        go_wp2
        obtain ⟨w2, hw2⟩ : ∃ w2, w2 = (w.alloc (.cells #[.int .u8 E, .int .u8 M] 33)).alloc (.cells #[.int .i8 half, .bool true] 125) := ⟨_, rfl⟩
        have hz2 : w2.heap.size = w.heap.size + 2 := by rw [hw2]; simp
        have hh0 : w2.heap[w.heap.size]? = some (.cells #[.int .u8 E, .int .u8 M] 33 (0, 0)) := by
          rw [hw2, Below.heap_alloc _ _ _ (by simp), heap_alloc_new]
        have hh1 : w2.heap[w.heap.size + 1]? = some (.cells #[.int .i8 half, .bool true] 125 (0, 0)) := by
          rw [hw2]
          have := heap_alloc_new (w.alloc (.cells #[.int .u8 E, .int .u8 M] 33)) (.cells #[.int .i8 half, .bool true] 125)
          simpa using this
        have hb2 : Below w.heap.size w w2 := by rw [hw2]; exact ((Below.refl _ _).alloc (Nat.le_refl _) _).alloc (by simp) _
        rw [← hw2]
        clear hw2
        have hc0 : ∀ x : Later w2, x.at_.cell? ⟨w.heap.size, 0, none⟩ = some (.int .u8 E) := fun x => (x.ok.cell (by simp; omega)).trans (by rw [cell_of_row _ _ _ _ _ _ hh0]; rfl)
        have hc1 : ∀ x : Later w2, x.at_.cell? ⟨w.heap.size, 1, none⟩ = some (.int .u8 M) := fun x => (x.ok.cell (by simp; omega)).trans (by rw [cell_of_row _ _ _ _ _ _ hh0]; rfl)
        have hd1 : ∀ x : Later w2, x.at_.cell? ⟨w.heap.size + 1, 1, none⟩ = some (.bool true) := fun x => (x.ok.cell (by simp; omega)).trans (by rw [cell_of_row _ _ _ _ _ _ hh1]; rfl)
        have HD1 := hide hd1
        have HZ2 := hide hz2
        clear hd1 hh0 hh1 hz2
        have hne : Nonempty (Later w2) := ⟨⟨w2, Below.refl _ _⟩⟩
        refine wp_region_below (by kernel_rfl) (by kernel_rfl) ?_
        iterate 2 (go_big_quiet_want; go_big_quiet_op; go_big_quiet_on)
        go_big_quiet_want
        go_big_quiet_op
        apply Exists.intro
        refine ⟨fun x => Calls.below_of x (unhide H1 x.at_), ?_⟩
        go_big_quiet_on
        iterate 8 (go_big_quiet_want; go_big_quiet_op; go_big_quiet_on)
        refine wpQuiet_nil ?_
        intro w3 hw3
        have hb3 : Below w2.heap.size w2 w3 := by obtain ⟨Z, hZ⟩ := hw3; rw [hZ]; exact Z.ok
        clear hw3
        rw [← unhide HX]
        have hz2le : w.heap.size + 2 ≤ w2.heap.size := by have := unhide HZ2; omega
        have hz3 := hb3.size
        have e0 := hc0 ⟨w3, hb3⟩
        have e1 := hc1 ⟨w3, hb3⟩
        simp only at e0 e1
        go_wp2_with fail
        refine (unhide H2 w3).mono ?_
        rintro e' w4 ⟨rfl, hb4⟩
        have hz4 := hb4.size
        have hb24 : Below w2.heap.size w2 w4 := hb3.trans (hb4.mono hz3)
        have i0 := hc0 ⟨w4, hb24⟩
        have i1 := hc1 ⟨w4, hb24⟩
        have j1 := unhide HD1 ⟨w4, hb24⟩
        simp only at i0 i1 j1
        have hbw4 : Below w.heap.size w w4 := hb2.trans (hb24.mono (by omega))
        clear hc0 hc1 HD1 e0 e1 hne
        go_wp2_with fail
        refine (unhide H4 w4).mono ?_
        rintro e' w5 ⟨rfl, hb5⟩
        go_wp2
        go_ret2
        exact ⟨rfl, hbw4.trans (hb5.mono (by omega))⟩

end Go.Proofs.Ygcoaa.NatW
