/-
  exact.Round's callees, on: floor, raised, log2.
-/
import Derived.Test.YgcoaaGreatRatD
set_option linter.unusedVariables false
set_option linter.unusedSimpArgs false
namespace Go.Proofs.YgcoaaGreat.NatW
open Go.RowKit
open Go.Proofs.YgcoaaGreat.Limbs

def flH (x y : Nat) : Int := cmpI (dr x y * 2) y
def flS (x y : Nat) : Bool := decide (dr x y ≠ 0)
theorem flH_or (x y : Nat) : flH x y = -1 ∨ flH x y = 0 ∨ flH x y = 1 := by
  unfold flH cmpI
  split
  · exact .inl rfl
  · split
    · exact .inr (.inr rfl)
    · exact .inr (.inl rfl)
theorem dr_le (x y : Nat) : dr x y ≤ x := by unfold dr; split; omega; exact Nat.mod_le _ _
theorem dq_le (x y : Nat) : dq x y ≤ x := by unfold dq; split; omega; exact Nat.div_le_self _ _

set_option maxRecDepth 20000 in
set_option maxHeartbeats 1000000 in
theorem floor_any (w : World) (a : Option Addr) (cap : Nat) (x : Nat) (h : Sl w a cap (lim x)) (a2 : Option Addr) (cap2 : Nat) (y : Nat) (h2 : Sl w a2 cap2 (lim y)) (hb : (lim x).length ≤ 70368744170000) (hb2 : (lim y).length ≤ 70368744170000) :
    Calls Oaag.prog 334 #[.slice a (lim x).length cap, .slice a2 (lim y).length cap2] w fun e w' => ∃ a1 c1, e = .returned (.tuple #[.slice a1 (lim (dq x y)).length c1, .agg #[.int .i8 (flH x y), .bool (flS x y)]]) ∧ Res w.heap.size w' a1 c1 (dq x y) ∧ Below w.heap.size w w' := by
  have q24 := nenil24
  go_enter Oaag.func334, Oaag.ntmps334
  go_wp2_with fail
  obtain ⟨w0, hw0⟩ : ∃ w0, w0 = w.alloc (Obj.cells #[Value.int IntKind.i8 0, Value.bool false] 280) := ⟨_, rfl⟩
  have hb0 : Below w.heap.size w w0 := by rw [hw0]; exact (Below.refl _ _).alloc (Nat.le_refl _) _
  have hs0 : w0.heap.size = w.heap.size + 1 := by rw [hw0]; simp
  rw [← hw0]
  have HW0 := hide hw0
  have hz0 : w.heap.size + 1 ≤ w0.heap.size := by omega
  have HS0 := hide hs0
  clear hw0 hs0
  have hdm := divMod_any w0 a cap _ x (val_lim x) (h.later hb0) (by omega) a2 cap2 _ y (val_lim y) (h2.later hb0) (by omega)
  refine hdm.mono ?_
  clear hdm
  rintro e w1 ⟨aq, cq, ar, cr, rfl, hrq, hrr, hb1⟩
  have hz1 := hb1.size
  have hlr := lim_length_mono _ _ (dr_le x y)
  have hsh := shl_any w1 ar cr _ (dr x y) (val_lim _) hrr.sl 1 (by omega) (by omega)
  rw [Nat.pow_one] at hsh
  have hni := hrr.nil_iff
  have hsome : ar.isSome = flS x y := by
    unfold flS
    rw [Bool.eq_iff_iff]
    simp only [decide_eq_true_eq, ne_eq, ← hni]
    cases ar <;> simp
  have HSH := hide hsh
  have HQ := hide hrq
  have HSO := hide hsome
  clear hsh hrq hrr hni hsome
  go_wp2_with fail
  refine (unhide HSH).mono ?_
  rintro e w2 ⟨as2, cs2, rfl, hrs, hb2'⟩
  have hz2 := hb2'.size
  have hb02 : Below w0.heap.size w0 w2 := hb1.trans (hb2'.mono hz1)
  have hl2 : (lim (dr x y * 2)).length ≤ 70368744177664 := by
    have h1 := lim_length_le (dr x y * 2) ((lim x).length + 1) (by
      have h3 := lt_of_lim_length (dr x y)
      have h4 : 4294967296 ^ (lim (dr x y)).length ≤ 4294967296 ^ (lim x).length := Nat.pow_le_pow_right (by omega) hlr
      rw [Nat.pow_succ]; omega)
    omega
  have hcm := cmp_any w2 as2 cs2 _ (dr x y * 2) (val_lim _) hrs.sl hl2 a2 cap2 _ y (val_lim y) ((h2.later hb0).later hb02) (by omega)
  have HCM := hide hcm
  clear hcm hrs HSH hl2
  go_wp2_with fail
  refine (unhide HCM).mono ?_
  rintro e w3 ⟨hb3, rfl⟩
  have hb03 : Below w0.heap.size w0 w3 := hb02.trans (hb3.mono (by omega))
  have hheap := box_now w w3 (.int .i8 0) (.bool false) 280 (by rw [← unhide HW0]; exact hb03.mono hz0)
  have hfz : w3.frozen? ⟨w.heap.size, 0, none⟩ = false ∧ w3.frozen? ⟨w.heap.size, 1, none⟩ = false := by
    have hh : w3.heap[w.heap.size]? = some (.cells #[.int .i8 0, .bool false] 280 (0, 0)) := by
      rw [hb03.block _ (by omega), unhide HW0, heap_alloc_new]
    exact ⟨frozen_of_row _ _ _ _ _ hh, frozen_of_row _ _ _ _ _ hh⟩
  obtain ⟨d0, d1⟩ := hheap
  obtain ⟨f0, f1⟩ := hfz
  have hq3 := ((unhide HQ).later hb2').later hb3
  have HQ3 := hide hq3
  have HB03 := hide hb03
  clear hq3 hb03 hb02 hb3 hb2' hb1 HQ
  go_wp2
  have hso := unhide HSO
  rw [hso]
  refine bodyPost_ret (v := .tuple #[.slice aq (lim (dq x y)).length cq, .agg #[.int .i8 (flH x y), .bool (flS x y)]]) (by simp [results, Oaag.results334, go_sem, d0, d1, flH]) rfl ⟨aq, cq, rfl, ?_, ?_⟩
  · exact (((unhide HQ3).oth (k := w.heap.size) (by omega) 0 _).oth (k := w.heap.size) (by omega) 1 _).lower (by omega)
  · exact below_store (below_store (hb0.trans ((unhide HB03).mono (by omega))) (Nat.le_refl _) _) (Nat.le_refl _) _

/-- raised's answer. -/
def RaisedOf (mode : Int) (neg : Bool) (x y n : Nat) : Prop := ∀ (w : World) (a : Option Addr) (cap : Nat) (_ : Sl w a cap (lim x)) (a2 : Option Addr) (cap2 : Nat) (_ : Sl w a2 cap2 (lim y)),
    Calls Oaag.prog 352 #[.int .u8 mode, .bool neg, .slice a (lim x).length cap, .slice a2 (lim y).length cap2] w fun e w' => ∃ a1 c1, e = .returned (.tuple #[.slice a1 (lim n).length c1, .agg #[.int .i8 (flH x y), .bool (flS x y)]]) ∧ Res w.heap.size w' a1 c1 n ∧ Below w.heap.size w w'

set_option maxRecDepth 20000 in
set_option maxHeartbeats 1000000 in
theorem raised_any (mode : Int) (neg : Bool) (x y : Nat) (hb : (lim x).length ≤ 70368744170000) (hb2 : (lim y).length ≤ 70368744170000) : ∃ n, n ≤ x + 1 ∧ RaisedOf mode neg x y n := by
  obtain ⟨r, hr⟩ := raises_any mode neg (bitAt (dq x y) 0) (flH x y) (flH_or x y) (flS x y)
  have HR := hide hr
  clear hr
  have hql := lim_length_mono _ _ (dq_le x y)
  have hqle := dq_le x y
  refine ⟨if r then dq x y + 1 else dq x y, by split <;> omega, ?_⟩
  intro w a cap h a2 cap2 h2
  go_enter Oaag.func352, Oaag.ntmps352
  go_wp2_with fail
  obtain ⟨w0, hw0⟩ : ∃ w0, w0 = w.alloc (Obj.cells #[Value.int IntKind.i8 0, Value.bool false] 280) := ⟨_, rfl⟩
  have hb0 : Below w.heap.size w w0 := by rw [hw0]; exact (Below.refl _ _).alloc (Nat.le_refl _) _
  have hs0 : w0.heap.size = w.heap.size + 1 := by rw [hw0]; simp
  rw [← hw0]
  have HW0 := hide hw0
  have hz0 : w.heap.size + 1 ≤ w0.heap.size := by omega
  have HS0 := hide hs0
  clear hw0 hs0
  refine (floor_any w0 a cap x (h.later hb0) a2 cap2 y (h2.later hb0) hb hb2).mono ?_
  rintro e w1 ⟨aq, cq, rfl, hrq, hb1⟩
  have hz1 := hb1.size
  have HQ := hide hrq
  obtain ⟨H, hH⟩ : ∃ H, H = flH x y := ⟨_, rfl⟩
  obtain ⟨S, hS⟩ : ∃ S, S = flS x y := ⟨_, rfl⟩
  rw [← hH, ← hS]
  have hr := unhide HR
  rw [← hH, ← hS] at hr
  have HR' := hide hr
  have HH := hide hH
  have HS := hide hS
  clear hrq hr hH hS HR
  go_wp2
  have hb2w : Below w1.heap.size w1 (w1.alloc (.cells #[.int .i8 H, .bool S] 280)) := (Below.refl _ _).alloc (Nat.le_refl _) _
  have hbox := box_now w1 _ (.int .i8 H) (.bool S) 280 (Below.refl _ _)
  obtain ⟨w2, hw2⟩ : ∃ w2, w2 = w1.alloc (.cells #[.int .i8 H, .bool S] 280) := ⟨_, rfl⟩
  have hz2 : w2.heap.size = w1.heap.size + 1 := by rw [hw2]; simp
  rw [← hw2] at hb2w hbox ⊢
  have hq2 := (unhide HQ).later hb2w
  have HQ2 := hide hq2
  have HB2 := hide hb2w
  have hc0 : ∀ x : Later w2, x.at_.cell? ⟨w1.heap.size, 0, none⟩ = some (.int .i8 H) := fun x => (x.ok.cell (by simp; omega)).trans hbox.1
  have hc1 : ∀ x : Later w2, x.at_.cell? ⟨w1.heap.size, 1, none⟩ = some (.bool S) := fun x => (x.ok.cell (by simp; omega)).trans hbox.2
  have hbit := fun x : Later w2 => bit_any x.at_ aq cq _ _ (val_lim _) (hq2.sl.later x.ok) (by omega) 0 (by omega)
  have HBIT := hide hbit
  have HZ2 := hide hz2
  clear hbit hq2 hw2 hb2w hbox HQ hz2
  have hne : Nonempty (Later w2) := ⟨⟨w2, Below.refl _ _⟩⟩
  refine wp_region_below (by kernel_rfl) (by kernel_rfl) ?_
  iterate 3 (go_big_quiet_want; go_big_quiet_op; go_big_quiet_on)
  go_big_quiet_want
  go_big_quiet_op
  apply Exists.intro
  refine ⟨fun x => Calls.below_of x ((unhide HBIT x).mono fun e w' hh => ⟨hh.2, by rw [← hh.1]; exact Below.refl _ _⟩), ?_⟩
  go_big_quiet_on
  go_big_quiet_want
  go_big_quiet_op
  go_big_quiet_on
  go_big_quiet_want
  go_big_quiet_op
  apply Exists.intro
  refine ⟨fun x => Calls.below_of x (unhide HR' x.at_), ?_⟩
  go_big_quiet_on
  refine wpQuiet_nil ?_
  intro w3 hw3
  have hb3 : Below w2.heap.size w2 w3 := by obtain ⟨X, hX⟩ := hw3; rw [hX]; exact X.ok
  clear hw3 HBIT HR'
  have hz2 := unhide HZ2
  have hz2le : w1.heap.size + 1 ≤ w2.heap.size := by omega
  have hz3 := hb3.size
  have e0 := hc0 ⟨w3, hb3⟩
  have e1 := hc1 ⟨w3, hb3⟩
  have hq3 := (unhide HQ2).later hb3
  have hb23 : Below w1.heap.size w1 w3 := (unhide HB2).trans (hb3.mono (by omega))
  have hb03 : Below w0.heap.size w0 w3 := hb1.trans (hb23.mono hz1)
  have hheap : w3.heap[w.heap.size]? = some (.cells #[.int .i8 0, .bool false] 280 (0, 0)) := by
    rw [hb03.block _ (by omega), unhide HW0, heap_alloc_new]
  have hbw3 : Below w.heap.size w w3 := hb0.trans (hb03.mono (by omega))
  have hg1 : w.heap.size < w1.heap.size := by omega
  simp only at e0 e1
  have HZ2' := hide hz2
  clear hc0 hc1 HQ2 HB2 hz2 HZ2
  cases r
  · have d0 : w3.cell? ⟨w.heap.size, 0, none⟩ = some (.int .i8 0) := by rw [cell_of_row _ _ _ _ _ _ hheap]; rfl
    have d1 : w3.cell? ⟨w.heap.size, 1, none⟩ = some (.bool false) := by rw [cell_of_row _ _ _ _ _ _ hheap]; rfl
    have f0 := frozen_of_row w3 w.heap.size 0 _ _ hheap
    have f1 := frozen_of_row w3 w.heap.size 1 _ _ hheap
    have HQ3 := hide hq3
    clear hheap hq3
    go_wp2
    go_region
    all_goals
      go_wp2
      have hH := unhide HH
      have hS := unhide HS
      have hz2 := unhide HZ2'
      rw [← hH, ← hS]
      refine bodyPost_ret (v := .tuple #[.slice aq (lim (dq x y)).length cq, .agg #[.int .i8 H, .bool S]]) (by simp [results, Oaag.results352, go_sem, d0, d1]) rfl ⟨aq, cq, rfl, ?_, ?_⟩
      · exact ((((unhide HQ3).oth (k := w.heap.size) (by omega) 0 _).oth (k := w.heap.size) (by omega) 1 _).lower (by omega))
      · exact (below_store (below_store hbw3 (Nat.le_refl _) _) (Nat.le_refl _) _).drew
  · have hsu := succ_any w3 aq cq _ (dq x y) (val_lim _) hq3.sl (by omega)
    have HSU := hide hsu
    clear hsu hq3
    go_wp2_with fail
    refine (unhide HSU).mono ?_
    rintro e w4 ⟨a4, c4, rfl, hr4, hb4⟩
    have hz4 := hb4.size
    have hheap4 : w4.heap[w.heap.size]? = some (.cells #[.int .i8 0, .bool false] 280 (0, 0)) := (hb4.block _ (by omega)).trans hheap
    have e0' := (hb4.cell (p := ⟨w1.heap.size, 0, none⟩) (by have := unhide HZ2'; simp; omega)).trans e0
    have e1' := (hb4.cell (p := ⟨w1.heap.size, 1, none⟩) (by have := unhide HZ2'; simp; omega)).trans e1
    have d0 : w4.cell? ⟨w.heap.size, 0, none⟩ = some (.int .i8 0) := by rw [cell_of_row _ _ _ _ _ _ hheap4]; rfl
    have d1 : w4.cell? ⟨w.heap.size, 1, none⟩ = some (.bool false) := by rw [cell_of_row _ _ _ _ _ _ hheap4]; rfl
    have f0 := frozen_of_row w4 w.heap.size 0 _ _ hheap4
    have f1 := frozen_of_row w4 w.heap.size 1 _ _ hheap4
    have hbw4 : Below w.heap.size w w4 := hbw3.trans (hb4.mono (by omega))
    have HR4 := hide hr4
    clear hheap hheap4 hr4 HSU e0 e1
    go_wp2
    go_region
    all_goals
      go_wp2
      have hH := unhide HH
      have hS := unhide HS
      rw [← hH, ← hS]
      refine bodyPost_ret (v := .tuple #[.slice a4 (lim (dq x y + 1)).length c4, .agg #[.int .i8 H, .bool S]]) (by simp [results, Oaag.results352, go_sem, d0, d1]) rfl ⟨a4, c4, rfl, ?_, ?_⟩
      · exact ((((unhide HR4).oth (k := w.heap.size) (by omega) 0 _).oth (k := w.heap.size) (by omega) 1 _).lower (by omega))
      · exact (below_store (below_store hbw4 (Nat.le_refl _) _) (Nat.le_refl _) _).drew

end Go.Proofs.YgcoaaGreat.NatW
