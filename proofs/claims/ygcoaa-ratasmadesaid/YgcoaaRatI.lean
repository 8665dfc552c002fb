/-
  exact.RoundFlags: the walk where the fraction is not zero.
-/
import Derived.Test.YgcoaaRatH
set_option linter.unusedVariables false
set_option linter.unusedSimpArgs false
namespace Go.Proofs.Ygcoaa.NatW
open Go.RowKit
open Go.Proofs.Ygcoaa.Limbs

/-- A box of two cells of type 125. -/
structure Half (W : World) (b : Nat) (FH : Int) (FSt : Bool) : Prop where
  h : W.heap[b]? = some (.cells #[.int .i8 FH, .bool FSt] 125 (0, 0))
  l : b < W.heap.size
theorem Half.later {W W' : World} {b : Nat} {FH : Int} {FSt : Bool} (h : Half W b FH FSt) (hb : Below W.heap.size W W') : Half W' b FH FSt :=
  ⟨(hb.block _ h.l).trans h.h, by have := hb.size; have := h.l; omega⟩
theorem Half.new (W : World) (FH : Int) (FSt : Bool) : Half (W.alloc (.cells #[.int .i8 FH, .bool FSt] 125)) W.heap.size FH FSt := ⟨heap_alloc_new _ _, by simp⟩
theorem Half.all {W : World} {b : Nat} {FH : Int} {FSt : Bool} (h : Half W b FH FSt) : (∀ z : Later W, z.at_.cell? ⟨b, 0, none⟩ = some (.int .i8 FH)) ∧ (∀ z : Later W, z.at_.cell? ⟨b, 1, none⟩ = some (.bool FSt)) :=
  ⟨fun z => by rw [cell_of_row _ _ _ _ _ _ (h.later z.ok).h]; rfl, fun z => by rw [cell_of_row _ _ _ _ _ _ (h.later z.ok).h]; rfl⟩

theorem len_grow (x n N : Nat) (h : n ≤ x + 1) (hb : (lim x).length ≤ N) (hN : 1 ≤ N) : (lim n).length ≤ N + 1 :=
  Nat.le_trans (lim_length_mono _ _ h) (len_add x 1 N hb (by rw [lim_one 1 (by omega) (by omega)]; simpa using hN))

set_option maxRecDepth 20000 in
set_option maxHeartbeats 1000000 in
theorem round_over1 (E M : Nat) (hf : fok E M = true) (mode : Int) (neg : Bool) (x d : Nat) (hx0 : x ≠ 0) (hbx : (lim x).length ≤ 35184372088000) (hby : (lim d).length ≤ 35184372088000)
    (em eM rL : Int) (h77 : OneOf 77 E M .i64 em) (h78 : OneOf 78 E M .i64 eM) (h76 : Log2Of x d (wrap64 (em - 1)) eM rL) (hlt : rL < em) (hgt : eM < em) : ∃ r fl, RoundOf E M mode neg x d r fl := by
  obtain ⟨m1, m2, m3, m4⟩ := fok_bd hf
  have hk := fun w => fmtOk_yes E M hf w
  have HK := hide hk
  have H77 := hide h77
  have H78 := hide h78
  have H76 := hide h76
  have HF := hide hf
  clear hk hf h77 h78 h76
  obtain ⟨r, fl, h79⟩ := overflow_any E M (unhide HF) mode neg
  have H79 := hide h79
  clear h79
  refine ⟨r, fl, ?_⟩
  have q24 := eqnil24
  intro w a cap l hx h a2 cap2 l2 hy h2 hl hl2
  have hlx := lim_length_le' l h.lt
  have hly := lim_length_le' l2 h2.lt
  rw [hx] at hlx
  have hld : (lim d).length ≤ 35184372088000 := by rw [← hy]; exact den1_len _ _ (by omega) (by omega)
  go_enter Oaag.func43, Oaag.ntmps43
  go_wp2_with fail
  obtain ⟨w0, hw0⟩ : ∃ w0, w0 = (w.alloc (.cells #[.int .u8 E, .int .u8 M] 33)).alloc (.cells #[.bool neg, .slice a l.length cap, .slice a2 l2.length cap2] 36) := ⟨_, rfl⟩
  have hb0 : Below w.heap.size w w0 := by rw [hw0]; exact ((Below.refl _ _).alloc (Nat.le_refl _) _).alloc (by simp) _
  have hz0 : w.heap.size + 2 ≤ w0.heap.size := by rw [hw0]; simp
  have hbx0 : Boxes w0 w.heap.size (w.heap.size + 1) E M neg (.slice a l.length cap) (.slice a2 l2.length cap2) := by
    refine ⟨?_, ?_, by omega, by omega⟩
    · rw [hw0, Below.heap_alloc _ _ _ (by simp), heap_alloc_new]
    · rw [hw0]
      have := heap_alloc_new (w.alloc (.cells #[.int .u8 E, .int .u8 M] 33)) (.cells #[.bool neg, .slice a l.length cap, .slice a2 l2.length cap2] 36)
      simpa using this
  rw [← hw0]
  have HW0 := hide hw0
  clear hw0
  refine (unhide HK _).mono ?_
  rintro e w1 ⟨rfl, hb1⟩
  have hz1 := hb1.size
  have hb01 : Below w.heap.size w w1 := hb0.trans (hb1.mono (by omega))
  obtain ⟨f0, f1, g0, g1, g2⟩ := (hbx0.later hb1).cells
  have hmr := makeRat_any w1 neg a cap l x hx (h.later hb01) a2 cap2 l2 (val l2) rfl (h2.later hb01) (by omega) (by omega)
  rw [hy] at hmr
  have HMR := hide hmr
  have fr0 := frozen_of_row w1 (w.heap.size + 1) 0 _ _ (hbx0.later hb1).q
  have HBX := hide hbx0
  clear hmr hbx0 fr0
  go_wp2_with fail
  refine (unhide HMR).mono ?_
  rintro e w2 ⟨a1, c1, a3, c3, rfl, hr1, hr3, hb2⟩
  have hz2 := hb2.size
  have hmade := made_of w w0 w1 w2 E M neg x d _ _ a1 c1 a3 c3 (unhide HW0) hb1 hb2 hr1 hr3 (by omega) hld
  have hbq := (((unhide HBX).later hb1).later hb2)
  obtain ⟨k0, k1, k2, k3, k4⟩ := hbq.cells
  have fr0 := frozen_of_row w2 (w.heap.size + 1) 0 _ _ hbq.q
  have fr1 := frozen_of_row w2 (w.heap.size + 1) 1 _ _ hbq.q
  have fr2 := frozen_of_row w2 (w.heap.size + 1) 2 _ _ hbq.q
  have hn : a1.isNone = false := by have := hmade.none; rw [this]; simpa using hx0
  have hbe := hmade.bel
  have hAll := hmade.box.all
  have hnum := hmade.num
  have hden := hmade.den
  obtain ⟨p0, p1, p2, p3, p4⟩ := hmade.box.cells
  have HM := hide hmade
  have HAll := hide hAll
  have HNum := hide hnum
  have HDen := hide hden
  clear hmade hbq hr1 hr3 HMR HBX f0 f1 g0 g1 g2 hAll hnum hden
  go_wp2_with fail
  obtain ⟨W, hW⟩ : ∃ W, W = (((w2.setCell ⟨w.heap.size + 1, 0, none⟩ (.bool neg)).setCell ⟨w.heap.size + 1, 1, none⟩ (.slice a1 (lim x).length c1)).setCell ⟨w.heap.size + 1, 2, none⟩ (.slice a3 (lim d).length c3)) := ⟨_, rfl⟩
  rw [← hW] at hbe HAll HNum HDen HM ⊢
  clear hW k0 k1 k2 k3 k4 fr0 fr1 fr2 p0 p1 p2 p3 p4
  obtain ⟨c0, c1', d0, d1, d2⟩ := unhide HAll
  have hne : Nonempty (Later W) := ⟨⟨W, Below.refl _ _⟩⟩
  refine wp_region_below (by kernel_rfl) (by kernel_rfl) ?_
  iterate 5 (go_big_quiet_want; go_big_quiet_op; go_big_quiet_on)
  go_big_quiet_want
  go_big_quiet_op
  apply Exists.intro
  refine ⟨fun x => Calls.below_of x (unhide H77 x.at_), ?_⟩
  go_big_quiet_on
  iterate 2 (go_big_quiet_want; go_big_quiet_op; go_big_quiet_on)
  go_big_quiet_want
  go_big_quiet_op
  apply Exists.intro
  refine ⟨fun x => Calls.below_of x (unhide H78 x.at_), ?_⟩
  go_big_quiet_on
  go_big_quiet_want
  go_big_quiet_op
  apply Exists.intro
  refine ⟨fun x => Calls.below_of x (unhide H76 x.at_ _ _ ((unhide HNum).later x.ok) _ _ ((unhide HDen).later x.ok)), ?_⟩
  go_big_quiet_on
  iterate 1 (go_big_quiet_want; go_big_quiet_op; go_big_quiet_on)
  refine wpQuiet_nil ?_
  intro w3 hw3
  have hb3 : Below W.heap.size W w3 := by obtain ⟨X, hX⟩ := hw3; rw [hX]; exact X.ok
  clear hw3 c0 c1' d0 d1 d2 hne
  have hM3 := (unhide HM).box.later hb3
  have hn3 := (unhide HNum).later hb3
  have hd3 := (unhide HDen).later hb3
  have hw3 := hbe.trans (hb3.mono hbe.size)
  obtain ⟨p0, p1, p2, p3, p4⟩ := hM3.cells
  have HM3 := hide hM3
  have HN3 := hide hn3
  have HD3 := hide hd3
  clear hM3 hn3 hd3 HAll HM HNum HDen hb3 hbe hb2 hz2 hb1 hz1 hb01 HW0 hb0 hz0 hx hy h h2
  go_wp2_with fail
  refine (unhide H77 _).mono ?_
  rintro e w4 ⟨rfl, hb4⟩
  have hM4 := (unhide HM3).later hb4
  have hw4 := hw3.trans (hb4.mono hw3.size)
  have hn4 := (unhide HN3).later hb4
  have hd4 := (unhide HD3).later hb4
  clear p0 p1 p2 p3 p4 HM3 hw3 HN3 HD3
  obtain ⟨p0, p1, p2, p3, p4⟩ := hM4.cells
  have HM4 := hide hM4
  have HN4 := hide hn4
  have HD4 := hide hd4
  clear hM4 hn4 hd4 hb4
  go_wp2_with fail
  refine (unhide H78 _).mono ?_
  rintro e w5 ⟨rfl, hb5⟩
  have hM5 := (unhide HM4).later hb5
  have hw5 := hw4.trans (hb5.mono hw4.size)
  have hn5 := (unhide HN4).later hb5
  have hd5 := (unhide HD4).later hb5
  clear p0 p1 p2 p3 p4 HM4 hw4 HN4 HD4
  obtain ⟨p0, p1, p2, p3, p4⟩ := hM5.cells
  have HM5 := hide hM5
  have HN5 := hide hn5
  have HD5 := hide hd5
  clear hM5 hn5 hd5 hb5
  go_wp2_with fail
  refine (unhide H79 _).mono ?_
  rintro e w6 ⟨rfl, hb6⟩
  have hw6 := hw5.trans (hb6.mono hw5.size)
  clear p0 p1 p2 p3 p4 hb6
  go_wp2
  go_ret2
  exact ⟨rfl, hw6⟩

set_option maxRecDepth 20000 in
set_option maxHeartbeats 1000000 in
theorem round_over2 (E M : Nat) (hf : fok E M = true) (mode : Int) (neg : Bool) (x d : Nat) (hx0 : x ≠ 0) (hbx : (lim x).length ≤ 35184372088000) (hby : (lim d).length ≤ 35184372088000)
    (em eM rL : Int) (h77 : OneOf 77 E M .i64 em) (h78 : OneOf 78 E M .i64 eM) (h76 : Log2Of x d (wrap64 (em - 1)) eM rL) (hlt : decide (rL < em) = false) (hnl : ¬ rL < em) (hle : em ≤ rL) (hgt : eM < rL) : ∃ r fl, RoundOf E M mode neg x d r fl := by
  obtain ⟨m1, m2, m3, m4⟩ := fok_bd hf
  have hk := fun w => fmtOk_yes E M hf w
  have HK := hide hk
  have H77 := hide h77
  have H78 := hide h78
  have H76 := hide h76
  have HF := hide hf
  clear hk hf h77 h78 h76
  obtain ⟨r, fl, h79⟩ := overflow_any E M (unhide HF) mode neg
  have H79 := hide h79
  clear h79
  refine ⟨r, fl, ?_⟩
  have q24 := eqnil24
  intro w a cap l hx h a2 cap2 l2 hy h2 hl hl2
  have hlx := lim_length_le' l h.lt
  have hly := lim_length_le' l2 h2.lt
  rw [hx] at hlx
  have hld : (lim d).length ≤ 35184372088000 := by rw [← hy]; exact den1_len _ _ (by omega) (by omega)
  go_enter Oaag.func43, Oaag.ntmps43
  go_wp2_with fail
  obtain ⟨w0, hw0⟩ : ∃ w0, w0 = (w.alloc (.cells #[.int .u8 E, .int .u8 M] 33)).alloc (.cells #[.bool neg, .slice a l.length cap, .slice a2 l2.length cap2] 36) := ⟨_, rfl⟩
  have hb0 : Below w.heap.size w w0 := by rw [hw0]; exact ((Below.refl _ _).alloc (Nat.le_refl _) _).alloc (by simp) _
  have hz0 : w.heap.size + 2 ≤ w0.heap.size := by rw [hw0]; simp
  have hbx0 : Boxes w0 w.heap.size (w.heap.size + 1) E M neg (.slice a l.length cap) (.slice a2 l2.length cap2) := by
    refine ⟨?_, ?_, by omega, by omega⟩
    · rw [hw0, Below.heap_alloc _ _ _ (by simp), heap_alloc_new]
    · rw [hw0]
      have := heap_alloc_new (w.alloc (.cells #[.int .u8 E, .int .u8 M] 33)) (.cells #[.bool neg, .slice a l.length cap, .slice a2 l2.length cap2] 36)
      simpa using this
  rw [← hw0]
  have HW0 := hide hw0
  clear hw0
  refine (unhide HK _).mono ?_
  rintro e w1 ⟨rfl, hb1⟩
  have hz1 := hb1.size
  have hb01 : Below w.heap.size w w1 := hb0.trans (hb1.mono (by omega))
  obtain ⟨f0, f1, g0, g1, g2⟩ := (hbx0.later hb1).cells
  have hmr := makeRat_any w1 neg a cap l x hx (h.later hb01) a2 cap2 l2 (val l2) rfl (h2.later hb01) (by omega) (by omega)
  rw [hy] at hmr
  have HMR := hide hmr
  have fr0 := frozen_of_row w1 (w.heap.size + 1) 0 _ _ (hbx0.later hb1).q
  have HBX := hide hbx0
  clear hmr hbx0 fr0
  go_wp2_with fail
  refine (unhide HMR).mono ?_
  rintro e w2 ⟨a1, c1, a3, c3, rfl, hr1, hr3, hb2⟩
  have hz2 := hb2.size
  have hmade := made_of w w0 w1 w2 E M neg x d _ _ a1 c1 a3 c3 (unhide HW0) hb1 hb2 hr1 hr3 (by omega) hld
  have hbq := (((unhide HBX).later hb1).later hb2)
  obtain ⟨k0, k1, k2, k3, k4⟩ := hbq.cells
  have fr0 := frozen_of_row w2 (w.heap.size + 1) 0 _ _ hbq.q
  have fr1 := frozen_of_row w2 (w.heap.size + 1) 1 _ _ hbq.q
  have fr2 := frozen_of_row w2 (w.heap.size + 1) 2 _ _ hbq.q
  have hn : a1.isNone = false := by have := hmade.none; rw [this]; simpa using hx0
  have hbe := hmade.bel
  have hAll := hmade.box.all
  have hnum := hmade.num
  have hden := hmade.den
  obtain ⟨p0, p1, p2, p3, p4⟩ := hmade.box.cells
  have HM := hide hmade
  have HAll := hide hAll
  have HNum := hide hnum
  have HDen := hide hden
  clear hmade hbq hr1 hr3 HMR HBX f0 f1 g0 g1 g2 hAll hnum hden
  go_wp2_with fail
  obtain ⟨W, hW⟩ : ∃ W, W = (((w2.setCell ⟨w.heap.size + 1, 0, none⟩ (.bool neg)).setCell ⟨w.heap.size + 1, 1, none⟩ (.slice a1 (lim x).length c1)).setCell ⟨w.heap.size + 1, 2, none⟩ (.slice a3 (lim d).length c3)) := ⟨_, rfl⟩
  rw [← hW] at hbe HAll HNum HDen HM ⊢
  clear hW k0 k1 k2 k3 k4 fr0 fr1 fr2 p0 p1 p2 p3 p4
  obtain ⟨c0, c1', d0, d1, d2⟩ := unhide HAll
  have hne : Nonempty (Later W) := ⟨⟨W, Below.refl _ _⟩⟩
  refine wp_region_below (by kernel_rfl) (by kernel_rfl) ?_
  iterate 5 (go_big_quiet_want; go_big_quiet_op; go_big_quiet_on)
  go_big_quiet_want
  go_big_quiet_op
  apply Exists.intro
  refine ⟨fun x => Calls.below_of x (unhide H77 x.at_), ?_⟩
  go_big_quiet_on
  iterate 2 (go_big_quiet_want; go_big_quiet_op; go_big_quiet_on)
  go_big_quiet_want
  go_big_quiet_op
  apply Exists.intro
  refine ⟨fun x => Calls.below_of x (unhide H78 x.at_), ?_⟩
  go_big_quiet_on
  go_big_quiet_want
  go_big_quiet_op
  apply Exists.intro
  refine ⟨fun x => Calls.below_of x (unhide H76 x.at_ _ _ ((unhide HNum).later x.ok) _ _ ((unhide HDen).later x.ok)), ?_⟩
  go_big_quiet_on
  iterate 1 (go_big_quiet_want; go_big_quiet_op; go_big_quiet_on)
  refine wpQuiet_nil ?_
  intro w3 hw3
  have hb3 : Below W.heap.size W w3 := by obtain ⟨X, hX⟩ := hw3; rw [hX]; exact X.ok
  clear hw3 c0 c1' d0 d1 d2 hne
  have hM3 := (unhide HM).box.later hb3
  have hn3 := (unhide HNum).later hb3
  have hd3 := (unhide HDen).later hb3
  have hw3 := hbe.trans (hb3.mono hbe.size)
  obtain ⟨p0, p1, p2, p3, p4⟩ := hM3.cells
  have HM3 := hide hM3
  have HN3 := hide hn3
  have HD3 := hide hd3
  clear hM3 hn3 hd3 HAll HM HNum HDen hb3 hbe hb2 hz2 hb1 hz1 hb01 HW0 hb0 hz0 hx hy h h2
  go_wp2_with fail
  refine (unhide H77 _).mono ?_
  rintro e w4 ⟨rfl, hb4⟩
  have hM4 := (unhide HM3).later hb4
  have hw4 := hw3.trans (hb4.mono hw3.size)
  have hn4 := (unhide HN3).later hb4
  have hd4 := (unhide HD3).later hb4
  clear p0 p1 p2 p3 p4 HM3 hw3 HN3 HD3
  obtain ⟨p0, p1, p2, p3, p4⟩ := hM4.cells
  have HM4 := hide hM4
  have HN4 := hide hn4
  have HD4 := hide hd4
  clear hM4 hn4 hd4 hb4
  go_wp2_with fail
  refine (unhide H78 _).mono ?_
  rintro e w5 ⟨rfl, hb5⟩
  have hM5 := (unhide HM4).later hb5
  have hw5 := hw4.trans (hb5.mono hw4.size)
  have hn5 := (unhide HN4).later hb5
  have hd5 := (unhide HD4).later hb5
  clear p0 p1 p2 p3 p4 HM4 hw4 HN4 HD4
  obtain ⟨p0, p1, p2, p3, p4⟩ := hM5.cells
  have HM5 := hide hM5
  have HN5 := hide hn5
  have HD5 := hide hd5
  clear hM5 hn5 hd5 hb5
  go_wp2_with fail
  refine (unhide H79 _).mono ?_
  rintro e w6 ⟨rfl, hb6⟩
  have hw6 := hw5.trans (hb6.mono hw5.size)
  clear p0 p1 p2 p3 p4 hb6
  go_wp2
  go_ret2
  exact ⟨rfl, hw6⟩

set_option maxRecDepth 20000 in
set_option maxHeartbeats 1000000 in
theorem round_low (E M : Nat) (hf : fok E M = true) (mode : Int) (neg : Bool) (x d : Nat) (hx0 : x ≠ 0) (hbx : (lim x).length ≤ 35184372088000) (hby : (lim d).length ≤ 35184372088000)
    (em eM rL : Int) (h77 : OneOf 77 E M .i64 em) (h78 : OneOf 78 E M .i64 eM) (h76 : Log2Of x d (wrap64 (em - 1)) eM rL) (hlt : rL < em) (hgt : decide (eM < em) = false) (hne2 : decide (rL = wrap64 (em - 1)) = false) (hne3 : ¬ rL = wrap64 (em - 1)) : ∃ r fl, RoundOf E M mode neg x d r fl := by
  obtain ⟨m1, m2, m3, m4⟩ := fok_bd hf
  have hk := fun w => fmtOk_yes E M hf w
  have HK := hide hk
  have H77 := hide h77
  have H78 := hide h78
  have H76 := hide h76
  have HF := hide hf
  clear hk hf h77 h78 h76
  obtain ⟨k1, hk1⟩ : ∃ k, k = wrap64 (M - em) := ⟨_, rfl⟩
  have l1 := len_shX x k1
  have l2 := len_shY d k1
  obtain ⟨n1, hn1, h81⟩ := raised_any mode neg (shX x k1) (shY d k1) (by omega) (by omega)
  have ln1 : (lim n1).length ≤ 35184372100000 + 1 := len_grow _ _ _ hn1 (by omega) (by omega)
  obtain ⟨u1, h83'⟩ := toU64_any n1 (by omega)
  have h83 : ∀ (w : World) (a : Option Addr) (cap : Nat), Sl w a cap (lim n1) → Calls Oaag.prog 83 #[.slice a (lim n1).length cap] w fun e w' => e = .returned (.int .u64 u1) ∧ Below w.heap.size w w' := by
    intro w a cap h
    refine (h83' w a cap h).mono ?_
    rintro e w' ⟨rfl, rfl⟩
    exact ⟨rfl, Below.refl _ _⟩
  clear h83'
  obtain ⟨r, fl, h82⟩ := pack_any E M (unhide HF) mode neg em u1 (flH (shX x k1) (shY d k1)) (flS (shX x k1) (shY d k1)) true
  obtain ⟨FH, hFH⟩ : ∃ z, z = flH (shX x k1) (shY d k1) := ⟨_, rfl⟩
  obtain ⟨FSt, hFS⟩ : ∃ z, z = flS (shX x k1) (shY d k1) := ⟨_, rfl⟩
  rw [← hFH, ← hFS] at h82
  have hkk : wrap64 (M - em) = k1 := hk1.symm
  have HFH := hide hFH
  have HFS := hide hFS
  have L1 := hide l1
  have L2 := hide l2
  have LN1 := hide ln1
  have H81 := hide h81
  have H83 := hide h83
  have H82 := hide h82
  clear h81 h83 h82 hk1 l1 l2 hn1 ln1 hFH hFS
  refine ⟨r, fl, ?_⟩
  have q24 := eqnil24
  intro w a cap l hx h a2 cap2 l2 hy h2 hl hl2
  have hlx := lim_length_le' l h.lt
  have hly := lim_length_le' l2 h2.lt
  rw [hx] at hlx
  have hld : (lim d).length ≤ 35184372088000 := by rw [← hy]; exact den1_len _ _ (by omega) (by omega)
  go_enter Oaag.func43, Oaag.ntmps43
  go_wp2_with fail
  obtain ⟨w0, hw0⟩ : ∃ w0, w0 = (w.alloc (.cells #[.int .u8 E, .int .u8 M] 33)).alloc (.cells #[.bool neg, .slice a l.length cap, .slice a2 l2.length cap2] 36) := ⟨_, rfl⟩
  have hb0 : Below w.heap.size w w0 := by rw [hw0]; exact ((Below.refl _ _).alloc (Nat.le_refl _) _).alloc (by simp) _
  have hz0 : w.heap.size + 2 ≤ w0.heap.size := by rw [hw0]; simp
  have hbx0 : Boxes w0 w.heap.size (w.heap.size + 1) E M neg (.slice a l.length cap) (.slice a2 l2.length cap2) := by
    refine ⟨?_, ?_, by omega, by omega⟩
    · rw [hw0, Below.heap_alloc _ _ _ (by simp), heap_alloc_new]
    · rw [hw0]
      have := heap_alloc_new (w.alloc (.cells #[.int .u8 E, .int .u8 M] 33)) (.cells #[.bool neg, .slice a l.length cap, .slice a2 l2.length cap2] 36)
      simpa using this
  rw [← hw0]
  have HW0 := hide hw0
  clear hw0
  refine (unhide HK _).mono ?_
  rintro e w1 ⟨rfl, hb1⟩
  have hz1 := hb1.size
  have hb01 : Below w.heap.size w w1 := hb0.trans (hb1.mono (by omega))
  obtain ⟨f0, f1, g0, g1, g2⟩ := (hbx0.later hb1).cells
  have hmr := makeRat_any w1 neg a cap l x hx (h.later hb01) a2 cap2 l2 (val l2) rfl (h2.later hb01) (by omega) (by omega)
  rw [hy] at hmr
  have HMR := hide hmr
  have fr0 := frozen_of_row w1 (w.heap.size + 1) 0 _ _ (hbx0.later hb1).q
  have HBX := hide hbx0
  clear hmr hbx0 fr0
  go_wp2_with fail
  refine (unhide HMR).mono ?_
  rintro e w2 ⟨a1, c1, a3, c3, rfl, hr1, hr3, hb2⟩
  have hz2 := hb2.size
  have hmade := made_of w w0 w1 w2 E M neg x d _ _ a1 c1 a3 c3 (unhide HW0) hb1 hb2 hr1 hr3 (by omega) hld
  have hbq := (((unhide HBX).later hb1).later hb2)
  obtain ⟨k0, k1, k2, k3, k4⟩ := hbq.cells
  have fr0 := frozen_of_row w2 (w.heap.size + 1) 0 _ _ hbq.q
  have fr1 := frozen_of_row w2 (w.heap.size + 1) 1 _ _ hbq.q
  have fr2 := frozen_of_row w2 (w.heap.size + 1) 2 _ _ hbq.q
  have hn : a1.isNone = false := by have := hmade.none; rw [this]; simpa using hx0
  have hbe := hmade.bel
  have hAll := hmade.box.all
  have hnum := hmade.num
  have hden := hmade.den
  obtain ⟨p0, p1, p2, p3, p4⟩ := hmade.box.cells
  have HM := hide hmade
  have HAll := hide hAll
  have HNum := hide hnum
  have HDen := hide hden
  clear hmade hbq hr1 hr3 HMR HBX f0 f1 g0 g1 g2 hAll hnum hden
  go_wp2_with fail
  obtain ⟨W, hW⟩ : ∃ W, W = (((w2.setCell ⟨w.heap.size + 1, 0, none⟩ (.bool neg)).setCell ⟨w.heap.size + 1, 1, none⟩ (.slice a1 (lim x).length c1)).setCell ⟨w.heap.size + 1, 2, none⟩ (.slice a3 (lim d).length c3)) := ⟨_, rfl⟩
  rw [← hW] at hbe HAll HNum HDen HM ⊢
  clear hW k0 k1 k2 k3 k4 fr0 fr1 fr2 p0 p1 p2 p3 p4
  obtain ⟨c0, c1', d0, d1, d2⟩ := unhide HAll
  have hne : Nonempty (Later W) := ⟨⟨W, Below.refl _ _⟩⟩
  refine wp_region_below (by kernel_rfl) (by kernel_rfl) ?_
  iterate 5 (go_big_quiet_want; go_big_quiet_op; go_big_quiet_on)
  go_big_quiet_want
  go_big_quiet_op
  apply Exists.intro
  refine ⟨fun x => Calls.below_of x (unhide H77 x.at_), ?_⟩
  go_big_quiet_on
  iterate 2 (go_big_quiet_want; go_big_quiet_op; go_big_quiet_on)
  go_big_quiet_want
  go_big_quiet_op
  apply Exists.intro
  refine ⟨fun x => Calls.below_of x (unhide H78 x.at_), ?_⟩
  go_big_quiet_on
  go_big_quiet_want
  go_big_quiet_op
  apply Exists.intro
  refine ⟨fun x => Calls.below_of x (unhide H76 x.at_ _ _ ((unhide HNum).later x.ok) _ _ ((unhide HDen).later x.ok)), ?_⟩
  go_big_quiet_on
  iterate 1 (go_big_quiet_want; go_big_quiet_op; go_big_quiet_on)
  refine wpQuiet_nil ?_
  intro w3 hw3
  have hb3 : Below W.heap.size W w3 := by obtain ⟨X, hX⟩ := hw3; rw [hX]; exact X.ok
  clear hw3 c0 c1' d0 d1 d2 hne
  have hM3 := (unhide HM).box.later hb3
  have hn3 := (unhide HNum).later hb3
  have hd3 := (unhide HDen).later hb3
  have hw3 := hbe.trans (hb3.mono hbe.size)
  obtain ⟨p0, p1, p2, p3, p4⟩ := hM3.cells
  have HM3 := hide hM3
  have HN3 := hide hn3
  have HD3 := hide hd3
  clear hM3 hn3 hd3 HAll HM HNum HDen hb3 hbe hb2 hz2 hb1 hz1 hb01 HW0 hb0 hz0 hx hy h h2
  go_wp2_with fail
  refine (unhide H77 _).mono ?_
  rintro e w4 ⟨rfl, hb4⟩
  have hM4 := (unhide HM3).later hb4
  have hw4 := hw3.trans (hb4.mono hw3.size)
  have hn4 := (unhide HN3).later hb4
  have hd4 := (unhide HD3).later hb4
  clear p0 p1 p2 p3 p4 HM3 hw3 HN3 HD3
  obtain ⟨p0, p1, p2, p3, p4⟩ := hM4.cells
  have HM4 := hide hM4
  have HN4 := hide hn4
  have HD4 := hide hd4
  clear hM4 hn4 hd4 hb4
  go_wp2_with fail
  refine (unhide H78 _).mono ?_
  rintro e w5 ⟨rfl, hb5⟩
  have hM5 := (unhide HM4).later hb5
  have hw5 := hw4.trans (hb5.mono hw4.size)
  have hn5 := (unhide HN4).later hb5
  have hd5 := (unhide HD4).later hb5
  clear p0 p1 p2 p3 p4 HM4 hw4 HN4 HD4
  obtain ⟨p0, p1, p2, p3, p4⟩ := hM5.cells
  have HM5 := hide hM5
  have HN5 := hide hn5
  have HD5 := hide hd5
  clear hM5 hn5 hd5 hb5
  go_wp2_with fail
  refine (shift_any _ _ _ x (unhide HN5) _ _ d (unhide HD5) k1 (by omega) (by omega)).mono ?_
  rintro e w6 ⟨a5, c5, a6, c6, rfl, s5, s6, hb6⟩
  have hM6 := (unhide HM5).later hb6
  have hw6 := hw5.trans (hb6.mono hw5.size)
  have hn6 := (unhide HN5).later hb6
  have hd6 := (unhide HD5).later hb6
  clear p0 p1 p2 p3 p4 HM5 hw5 HN5 HD5
  obtain ⟨p0, p1, p2, p3, p4⟩ := hM6.cells
  have HM6 := hide hM6
  have HN6 := hide hn6
  have HD6 := hide hd6
  clear hM6 hn6 hd6 hb6
  have hra := unhide H81 w6 a5 c5 s5 a6 c6 s6
  rw [← unhide HFH, ← unhide HFS] at hra
  have HRA := hide hra
  clear hra s5 s6
  go_wp2_with fail
  refine (unhide HRA).mono ?_
  rintro e w7 ⟨a7, c7, rfl, hr7, hb7⟩
  have sr7 := hr7.sl
  have SR7 := hide sr7
  clear sr7 hr7 HRA
  have hM7 := (unhide HM6).later hb7
  have hw7 := hw6.trans (hb7.mono hw6.size)
  have hn7 := (unhide HN6).later hb7
  have hd7 := (unhide HD6).later hb7
  clear p0 p1 p2 p3 p4 HM6 hw6 HN6 HD6
  obtain ⟨p0, p1, p2, p3, p4⟩ := hM7.cells
  have HM7 := hide hM7
  have HN7 := hide hn7
  have HD7 := hide hd7
  clear hM7 hn7 hd7 hb7
  have hb8 : Below w7.heap.size w7 (w7.alloc (.cells #[.int .i8 FH, .bool FSt] 125)) := (Below.refl _ _).alloc (Nat.le_refl _) _
  have hh8x := Half.new w7 FH FSt
  obtain ⟨w8, he8⟩ : ∃ W, W = w7.alloc (.cells #[.int .i8 FH, .bool FSt] 125) := ⟨_, rfl⟩
  rw [← he8] at hb8 hh8x
  have hM8 := (unhide HM7).later hb8
  have hw8 := hw7.trans (hb8.mono hw7.size)
  have hn8 := (unhide HN7).later hb8
  have hd8 := (unhide HD7).later hb8
  have sr8 := (unhide SR7).later hb8
  clear p0 p1 p2 p3 p4 HM7 hw7 HN7 HD7 SR7
  obtain ⟨p0, p1, p2, p3, p4⟩ := hM8.cells
  have HM8 := hide hM8
  have HN8 := hide hn8
  have HD8 := hide hd8
  have SR8 := hide sr8
  clear sr8
  clear hM8 hn8 hd8 hb8
  rw [he8] at p0 p1 p2 p3 p4
  have HE8 := hide he8
  have HHX8 := hide hh8x
  clear he8 hh8x
  go_wp2_with fail
  rw [← unhide HE8]
  refine (unhide H77 _).mono ?_
  rintro e w9 ⟨rfl, hb9⟩
  have hM9 := (unhide HM8).later hb9
  have hw9 := hw8.trans (hb9.mono hw8.size)
  have hn9 := (unhide HN8).later hb9
  have hd9 := (unhide HD8).later hb9
  have sr9 := (unhide SR8).later hb9
  have hhx9 := (unhide HHX8).later hb9
  clear p0 p1 p2 p3 p4 HM8 hw8 HN8 HD8 SR8 HHX8
  obtain ⟨p0, p1, p2, p3, p4⟩ := hM9.cells
  have HM9 := hide hM9
  have HN9 := hide hn9
  have HD9 := hide hd9
  have SR9 := hide sr9
  clear sr9
  have HHX9 := hide hhx9
  clear hhx9
  clear hM9 hn9 hd9 hb9
  go_wp2_with fail
  refine (unhide H77 _).mono ?_
  rintro e w10 ⟨rfl, hb10⟩
  have hM10 := (unhide HM9).later hb10
  have hw10 := hw9.trans (hb10.mono hw9.size)
  have hn10 := (unhide HN9).later hb10
  have hd10 := (unhide HD9).later hb10
  have sr10 := (unhide SR9).later hb10
  have hhx10 := (unhide HHX9).later hb10
  clear p0 p1 p2 p3 p4 HM9 hw9 HN9 HD9 SR9 HHX9
  obtain ⟨p0, p1, p2, p3, p4⟩ := hM10.cells
  have HM10 := hide hM10
  have HN10 := hide hn10
  have HD10 := hide hd10
  have SR10 := hide sr10
  clear sr10
  have HHX10 := hide hhx10
  clear hhx10
  clear hM10 hn10 hd10 hb10
  go_wp2_with fail
  obtain ⟨c0, c1', d0, d1, d2⟩ := (unhide HM10).all
  obtain ⟨z0, z1⟩ := (unhide HHX10).all
  clear p0 p1 p2 p3 p4
  have hne : Nonempty (Later w10) := ⟨⟨w10, Below.refl _ _⟩⟩
  refine wp_region_below (by kernel_rfl) (by kernel_rfl) ?_
  iterate 6 (go_big_quiet_want; go_big_quiet_op; go_big_quiet_on)
  go_big_quiet_want
  go_big_quiet_op
  apply Exists.intro
  refine ⟨fun x => Calls.below_of x (unhide H83 x.at_ _ _ ((unhide SR10).later x.ok)), ?_⟩
  go_big_quiet_on
  iterate 2 (go_big_quiet_want; go_big_quiet_op; go_big_quiet_on)
  go_big_quiet_want
  go_big_quiet_op
  apply Exists.intro
  refine ⟨fun x => Calls.below_of x (unhide H82 x.at_), ?_⟩
  go_big_quiet_on
  iterate 4 (go_big_quiet_want; go_big_quiet_op; go_big_quiet_on)
  refine wpQuiet_nil ?_
  intro wZ hwZ
  have hbZ : Below w10.heap.size w10 wZ := by obtain ⟨X, hX⟩ := hwZ; rw [hX]; exact X.ok
  have hbF := hw10.trans (hbZ.mono hw10.size)
  clear hwZ c0 c1' d0 d1 d2 z0 z1 hne hbZ
  go_wp2
  go_ret2
  exact ⟨rfl, hbF⟩

set_option maxRecDepth 20000 in
set_option maxHeartbeats 1000000 in
theorem round_mid (E M : Nat) (hf : fok E M = true) (mode : Int) (neg : Bool) (x d : Nat) (hx0 : x ≠ 0) (hbx : (lim x).length ≤ 35184372088000) (hby : (lim d).length ≤ 35184372088000)
    (em eM rL : Int) (h77 : OneOf 77 E M .i64 em) (h78 : OneOf 78 E M .i64 eM) (h76 : Log2Of x d (wrap64 (em - 1)) eM rL) (hlt : decide (rL < em) = false) (hnl : ¬ rL < em) (hle : em ≤ rL) (hgt : decide (eM < rL) = false) (hne2 : decide (rL = wrap64 (em - 1)) = false) (hne3 : ¬ rL = wrap64 (em - 1)) : ∃ r fl, RoundOf E M mode neg x d r fl := by
  obtain ⟨m1, m2, m3, m4⟩ := fok_bd hf
  have hk := fun w => fmtOk_yes E M hf w
  have HK := hide hk
  have H77 := hide h77
  have H78 := hide h78
  have H76 := hide h76
  have HF := hide hf
  clear hk hf h77 h78 h76
  obtain ⟨k1, hk1⟩ : ∃ k, k = wrap64 (M - rL) := ⟨_, rfl⟩
  have l1 := len_shX x k1
  have l2 := len_shY d k1
  obtain ⟨n1, hn1, h81⟩ := raised_any mode neg (shX x k1) (shY d k1) (by omega) (by omega)
  have ln1 : (lim n1).length ≤ 35184372100000 + 1 := len_grow _ _ _ hn1 (by omega) (by omega)
  obtain ⟨u1, h83'⟩ := toU64_any n1 (by omega)
  have h83 : ∀ (w : World) (a : Option Addr) (cap : Nat), Sl w a cap (lim n1) → Calls Oaag.prog 83 #[.slice a (lim n1).length cap] w fun e w' => e = .returned (.int .u64 u1) ∧ Below w.heap.size w w' := by
    intro w a cap h
    refine (h83' w a cap h).mono ?_
    rintro e w' ⟨rfl, rfl⟩
    exact ⟨rfl, Below.refl _ _⟩
  clear h83'
  obtain ⟨r, fl, h82⟩ := pack_any E M (unhide HF) mode neg rL u1 (flH (shX x k1) (shY d k1)) (flS (shX x k1) (shY d k1)) false
  obtain ⟨FH, hFH⟩ : ∃ z, z = flH (shX x k1) (shY d k1) := ⟨_, rfl⟩
  obtain ⟨FSt, hFS⟩ : ∃ z, z = flS (shX x k1) (shY d k1) := ⟨_, rfl⟩
  rw [← hFH, ← hFS] at h82
  have hkk : wrap64 (M - rL) = k1 := hk1.symm
  have HFH := hide hFH
  have HFS := hide hFS
  have L1 := hide l1
  have L2 := hide l2
  have LN1 := hide ln1
  have H81 := hide h81
  have H83 := hide h83
  have H82 := hide h82
  clear h81 h83 h82 hk1 l1 l2 hn1 ln1 hFH hFS
  refine ⟨r, fl, ?_⟩
  have q24 := eqnil24
  intro w a cap l hx h a2 cap2 l2 hy h2 hl hl2
  have hlx := lim_length_le' l h.lt
  have hly := lim_length_le' l2 h2.lt
  rw [hx] at hlx
  have hld : (lim d).length ≤ 35184372088000 := by rw [← hy]; exact den1_len _ _ (by omega) (by omega)
  go_enter Oaag.func43, Oaag.ntmps43
  go_wp2_with fail
  obtain ⟨w0, hw0⟩ : ∃ w0, w0 = (w.alloc (.cells #[.int .u8 E, .int .u8 M] 33)).alloc (.cells #[.bool neg, .slice a l.length cap, .slice a2 l2.length cap2] 36) := ⟨_, rfl⟩
  have hb0 : Below w.heap.size w w0 := by rw [hw0]; exact ((Below.refl _ _).alloc (Nat.le_refl _) _).alloc (by simp) _
  have hz0 : w.heap.size + 2 ≤ w0.heap.size := by rw [hw0]; simp
  have hbx0 : Boxes w0 w.heap.size (w.heap.size + 1) E M neg (.slice a l.length cap) (.slice a2 l2.length cap2) := by
    refine ⟨?_, ?_, by omega, by omega⟩
    · rw [hw0, Below.heap_alloc _ _ _ (by simp), heap_alloc_new]
    · rw [hw0]
      have := heap_alloc_new (w.alloc (.cells #[.int .u8 E, .int .u8 M] 33)) (.cells #[.bool neg, .slice a l.length cap, .slice a2 l2.length cap2] 36)
      simpa using this
  rw [← hw0]
  have HW0 := hide hw0
  clear hw0
  refine (unhide HK _).mono ?_
  rintro e w1 ⟨rfl, hb1⟩
  have hz1 := hb1.size
  have hb01 : Below w.heap.size w w1 := hb0.trans (hb1.mono (by omega))
  obtain ⟨f0, f1, g0, g1, g2⟩ := (hbx0.later hb1).cells
  have hmr := makeRat_any w1 neg a cap l x hx (h.later hb01) a2 cap2 l2 (val l2) rfl (h2.later hb01) (by omega) (by omega)
  rw [hy] at hmr
  have HMR := hide hmr
  have fr0 := frozen_of_row w1 (w.heap.size + 1) 0 _ _ (hbx0.later hb1).q
  have HBX := hide hbx0
  clear hmr hbx0 fr0
  go_wp2_with fail
  refine (unhide HMR).mono ?_
  rintro e w2 ⟨a1, c1, a3, c3, rfl, hr1, hr3, hb2⟩
  have hz2 := hb2.size
  have hmade := made_of w w0 w1 w2 E M neg x d _ _ a1 c1 a3 c3 (unhide HW0) hb1 hb2 hr1 hr3 (by omega) hld
  have hbq := (((unhide HBX).later hb1).later hb2)
  obtain ⟨k0, k1, k2, k3, k4⟩ := hbq.cells
  have fr0 := frozen_of_row w2 (w.heap.size + 1) 0 _ _ hbq.q
  have fr1 := frozen_of_row w2 (w.heap.size + 1) 1 _ _ hbq.q
  have fr2 := frozen_of_row w2 (w.heap.size + 1) 2 _ _ hbq.q
  have hn : a1.isNone = false := by have := hmade.none; rw [this]; simpa using hx0
  have hbe := hmade.bel
  have hAll := hmade.box.all
  have hnum := hmade.num
  have hden := hmade.den
  obtain ⟨p0, p1, p2, p3, p4⟩ := hmade.box.cells
  have HM := hide hmade
  have HAll := hide hAll
  have HNum := hide hnum
  have HDen := hide hden
  clear hmade hbq hr1 hr3 HMR HBX f0 f1 g0 g1 g2 hAll hnum hden
  go_wp2_with fail
  obtain ⟨W, hW⟩ : ∃ W, W = (((w2.setCell ⟨w.heap.size + 1, 0, none⟩ (.bool neg)).setCell ⟨w.heap.size + 1, 1, none⟩ (.slice a1 (lim x).length c1)).setCell ⟨w.heap.size + 1, 2, none⟩ (.slice a3 (lim d).length c3)) := ⟨_, rfl⟩
  rw [← hW] at hbe HAll HNum HDen HM ⊢
  clear hW k0 k1 k2 k3 k4 fr0 fr1 fr2 p0 p1 p2 p3 p4
  obtain ⟨c0, c1', d0, d1, d2⟩ := unhide HAll
  have hne : Nonempty (Later W) := ⟨⟨W, Below.refl _ _⟩⟩
  refine wp_region_below (by kernel_rfl) (by kernel_rfl) ?_
  iterate 5 (go_big_quiet_want; go_big_quiet_op; go_big_quiet_on)
  go_big_quiet_want
  go_big_quiet_op
  apply Exists.intro
  refine ⟨fun x => Calls.below_of x (unhide H77 x.at_), ?_⟩
  go_big_quiet_on
  iterate 2 (go_big_quiet_want; go_big_quiet_op; go_big_quiet_on)
  go_big_quiet_want
  go_big_quiet_op
  apply Exists.intro
  refine ⟨fun x => Calls.below_of x (unhide H78 x.at_), ?_⟩
  go_big_quiet_on
  go_big_quiet_want
  go_big_quiet_op
  apply Exists.intro
  refine ⟨fun x => Calls.below_of x (unhide H76 x.at_ _ _ ((unhide HNum).later x.ok) _ _ ((unhide HDen).later x.ok)), ?_⟩
  go_big_quiet_on
  iterate 1 (go_big_quiet_want; go_big_quiet_op; go_big_quiet_on)
  refine wpQuiet_nil ?_
  intro w3 hw3
  have hb3 : Below W.heap.size W w3 := by obtain ⟨X, hX⟩ := hw3; rw [hX]; exact X.ok
  clear hw3 c0 c1' d0 d1 d2 hne
  have hM3 := (unhide HM).box.later hb3
  have hn3 := (unhide HNum).later hb3
  have hd3 := (unhide HDen).later hb3
  have hw3 := hbe.trans (hb3.mono hbe.size)
  obtain ⟨p0, p1, p2, p3, p4⟩ := hM3.cells
  have HM3 := hide hM3
  have HN3 := hide hn3
  have HD3 := hide hd3
  clear hM3 hn3 hd3 HAll HM HNum HDen hb3 hbe hb2 hz2 hb1 hz1 hb01 HW0 hb0 hz0 hx hy h h2
  go_wp2_with fail
  refine (unhide H77 _).mono ?_
  rintro e w4 ⟨rfl, hb4⟩
  have hM4 := (unhide HM3).later hb4
  have hw4 := hw3.trans (hb4.mono hw3.size)
  have hn4 := (unhide HN3).later hb4
  have hd4 := (unhide HD3).later hb4
  clear p0 p1 p2 p3 p4 HM3 hw3 HN3 HD3
  obtain ⟨p0, p1, p2, p3, p4⟩ := hM4.cells
  have HM4 := hide hM4
  have HN4 := hide hn4
  have HD4 := hide hd4
  clear hM4 hn4 hd4 hb4
  go_wp2_with fail
  refine (unhide H78 _).mono ?_
  rintro e w5 ⟨rfl, hb5⟩
  have hM5 := (unhide HM4).later hb5
  have hw5 := hw4.trans (hb5.mono hw4.size)
  have hn5 := (unhide HN4).later hb5
  have hd5 := (unhide HD4).later hb5
  clear p0 p1 p2 p3 p4 HM4 hw4 HN4 HD4
  obtain ⟨p0, p1, p2, p3, p4⟩ := hM5.cells
  have HM5 := hide hM5
  have HN5 := hide hn5
  have HD5 := hide hd5
  clear hM5 hn5 hd5 hb5
  go_wp2_with fail
  refine (shift_any _ _ _ x (unhide HN5) _ _ d (unhide HD5) k1 (by omega) (by omega)).mono ?_
  rintro e w6 ⟨a5, c5, a6, c6, rfl, s5, s6, hb6⟩
  have hM6 := (unhide HM5).later hb6
  have hw6 := hw5.trans (hb6.mono hw5.size)
  have hn6 := (unhide HN5).later hb6
  have hd6 := (unhide HD5).later hb6
  clear p0 p1 p2 p3 p4 HM5 hw5 HN5 HD5
  obtain ⟨p0, p1, p2, p3, p4⟩ := hM6.cells
  have HM6 := hide hM6
  have HN6 := hide hn6
  have HD6 := hide hd6
  clear hM6 hn6 hd6 hb6
  have hra := unhide H81 w6 a5 c5 s5 a6 c6 s6
  rw [← unhide HFH, ← unhide HFS] at hra
  have HRA := hide hra
  clear hra s5 s6
  go_wp2_with fail
  refine (unhide HRA).mono ?_
  rintro e w7 ⟨a7, c7, rfl, hr7, hb7⟩
  have sr7 := hr7.sl
  have SR7 := hide sr7
  clear sr7 hr7 HRA
  have hM7 := (unhide HM6).later hb7
  have hw7 := hw6.trans (hb7.mono hw6.size)
  have hn7 := (unhide HN6).later hb7
  have hd7 := (unhide HD6).later hb7
  clear p0 p1 p2 p3 p4 HM6 hw6 HN6 HD6
  obtain ⟨p0, p1, p2, p3, p4⟩ := hM7.cells
  have HM7 := hide hM7
  have HN7 := hide hn7
  have HD7 := hide hd7
  clear hM7 hn7 hd7 hb7
  have hb8 : Below w7.heap.size w7 (w7.alloc (.cells #[.int .i8 FH, .bool FSt] 125)) := (Below.refl _ _).alloc (Nat.le_refl _) _
  have hh8x := Half.new w7 FH FSt
  obtain ⟨w8, he8⟩ : ∃ W, W = w7.alloc (.cells #[.int .i8 FH, .bool FSt] 125) := ⟨_, rfl⟩
  rw [← he8] at hb8 hh8x
  have hM8 := (unhide HM7).later hb8
  have hw8 := hw7.trans (hb8.mono hw7.size)
  have hn8 := (unhide HN7).later hb8
  have hd8 := (unhide HD7).later hb8
  have sr8 := (unhide SR7).later hb8
  clear p0 p1 p2 p3 p4 HM7 hw7 HN7 HD7 SR7
  obtain ⟨p0, p1, p2, p3, p4⟩ := hM8.cells
  have HM8 := hide hM8
  have HN8 := hide hn8
  have HD8 := hide hd8
  have SR8 := hide sr8
  clear sr8
  clear hM8 hn8 hd8 hb8
  rw [he8] at p0 p1 p2 p3 p4
  have HE8 := hide he8
  have HHX8 := hide hh8x
  clear he8 hh8x
  go_wp2_with fail
  rw [← unhide HE8]
  refine (unhide H77 _).mono ?_
  rintro e w9 ⟨rfl, hb9⟩
  have hM9 := (unhide HM8).later hb9
  have hw9 := hw8.trans (hb9.mono hw8.size)
  have hn9 := (unhide HN8).later hb9
  have hd9 := (unhide HD8).later hb9
  have sr9 := (unhide SR8).later hb9
  have hhx9 := (unhide HHX8).later hb9
  clear p0 p1 p2 p3 p4 HM8 hw8 HN8 HD8 SR8 HHX8
  obtain ⟨p0, p1, p2, p3, p4⟩ := hM9.cells
  have HM9 := hide hM9
  have HN9 := hide hn9
  have HD9 := hide hd9
  have SR9 := hide sr9
  clear sr9
  have HHX9 := hide hhx9
  clear hhx9
  clear hM9 hn9 hd9 hb9
  go_wp2_with fail
  refine (unhide H77 _).mono ?_
  rintro e w10 ⟨rfl, hb10⟩
  have hM10 := (unhide HM9).later hb10
  have hw10 := hw9.trans (hb10.mono hw9.size)
  have hn10 := (unhide HN9).later hb10
  have hd10 := (unhide HD9).later hb10
  have sr10 := (unhide SR9).later hb10
  have hhx10 := (unhide HHX9).later hb10
  clear p0 p1 p2 p3 p4 HM9 hw9 HN9 HD9 SR9 HHX9
  obtain ⟨p0, p1, p2, p3, p4⟩ := hM10.cells
  have HM10 := hide hM10
  have HN10 := hide hn10
  have HD10 := hide hd10
  have SR10 := hide sr10
  clear sr10
  have HHX10 := hide hhx10
  clear hhx10
  clear hM10 hn10 hd10 hb10
  go_wp2_with fail
  obtain ⟨c0, c1', d0, d1, d2⟩ := (unhide HM10).all
  obtain ⟨z0, z1⟩ := (unhide HHX10).all
  clear p0 p1 p2 p3 p4
  have hne : Nonempty (Later w10) := ⟨⟨w10, Below.refl _ _⟩⟩
  refine wp_region_below (by kernel_rfl) (by kernel_rfl) ?_
  iterate 6 (go_big_quiet_want; go_big_quiet_op; go_big_quiet_on)
  go_big_quiet_want
  go_big_quiet_op
  apply Exists.intro
  refine ⟨fun x => Calls.below_of x (unhide H83 x.at_ _ _ ((unhide SR10).later x.ok)), ?_⟩
  go_big_quiet_on
  iterate 2 (go_big_quiet_want; go_big_quiet_op; go_big_quiet_on)
  go_big_quiet_want
  go_big_quiet_op
  apply Exists.intro
  refine ⟨fun x => Calls.below_of x (unhide H82 x.at_), ?_⟩
  go_big_quiet_on
  iterate 4 (go_big_quiet_want; go_big_quiet_op; go_big_quiet_on)
  refine wpQuiet_nil ?_
  intro wZ hwZ
  have hbZ : Below w10.heap.size w10 wZ := by obtain ⟨X, hX⟩ := hwZ; rw [hX]; exact X.ok
  have hbF := hw10.trans (hbZ.mono hw10.size)
  clear hwZ c0 c1' d0 d1 d2 z0 z1 hne hbZ
  go_wp2
  go_ret2
  exact ⟨rfl, hbF⟩

set_option maxRecDepth 20000 in
set_option maxHeartbeats 1000000 in
theorem round_low2 (E M : Nat) (hf : fok E M = true) (mode : Int) (neg : Bool) (x d : Nat) (hx0 : x ≠ 0) (hbx : (lim x).length ≤ 35184372088000) (hby : (lim d).length ≤ 35184372088000)
    (em eM rL : Int) (h77 : OneOf 77 E M .i64 em) (h78 : OneOf 78 E M .i64 eM) (h76 : Log2Of x d (wrap64 (em - 1)) eM rL) (hlt : rL < em) (hgt : decide (eM < em) = false) (hne2 : wrap64 (em - 1) = rL) : ∃ r fl, RoundOf E M mode neg x d r fl := by
  obtain ⟨m1, m2, m3, m4⟩ := fok_bd hf
  rw [hne2] at h76
  have hk := fun w => fmtOk_yes E M hf w
  have HK := hide hk
  have H77 := hide h77
  have H78 := hide h78
  have H76 := hide h76
  have HF := hide hf
  clear hk hf h77 h78 h76
  obtain ⟨k1, hk1⟩ : ∃ k, k = wrap64 (M - em) := ⟨_, rfl⟩
  have l1 := len_shX x k1
  have l2 := len_shY d k1
  obtain ⟨n1, hn1, h81⟩ := raised_any mode neg (shX x k1) (shY d k1) (by omega) (by omega)
  have ln1 : (lim n1).length ≤ 35184372100000 + 1 := len_grow _ _ _ hn1 (by omega) (by omega)
  obtain ⟨u1, h83'⟩ := toU64_any n1 (by omega)
  have h83 : ∀ (w : World) (a : Option Addr) (cap : Nat), Sl w a cap (lim n1) → Calls Oaag.prog 83 #[.slice a (lim n1).length cap] w fun e w' => e = .returned (.int .u64 u1) ∧ Below w.heap.size w w' := by
    intro w a cap h
    refine (h83' w a cap h).mono ?_
    rintro e w' ⟨rfl, rfl⟩
    exact ⟨rfl, Below.refl _ _⟩
  clear h83'
  obtain ⟨k2, hk2⟩ : ∃ k, k = wrap64 (M - rL) := ⟨_, rfl⟩
  have l3 := len_shX x k2
  have l4 := len_shY d k2
  obtain ⟨n2, hn2, h81b⟩ := raised_any mode neg (shX x k2) (shY d k2) (by omega) (by omega)
  have ln2 : (lim n2).length ≤ 35184372100000 + 1 := len_grow _ _ _ hn2 (by omega) (by omega)
  obtain ⟨BL, hBL⟩ : ∃ T : Int, T = (bl n2 : Nat) := ⟨_, rfl⟩
  have hbl : ∀ (w : World) (a : Option Addr) (cap : Nat), Sl w a cap (lim n2) → Calls Oaag.prog 31 #[.slice a (lim n2).length cap] w fun e w' => e = .returned (.int .i64 BL) ∧ Below w.heap.size w w' := by
    intro w a cap h
    refine (bitLen_any w a cap _ n2 (val_lim n2) h (by omega)).mono ?_
    rintro e w' ⟨rfl, rfl⟩
    exact ⟨by rw [hBL], Below.refl _ _⟩
  have HBL := hide hbl
  clear hbl hBL
  obtain ⟨TN, hTN⟩ : ∃ T : Bool, T = (BL == (M : Int) + 1) := ⟨_, rfl⟩
  obtain ⟨r, fl, h82⟩ := pack_any E M (unhide HF) mode neg em u1 (flH (shX x k1) (shY d k1)) (flS (shX x k1) (shY d k1)) TN
  obtain ⟨FH, hFH⟩ : ∃ z, z = flH (shX x k1) (shY d k1) := ⟨_, rfl⟩
  obtain ⟨FSt, hFS⟩ : ∃ z, z = flS (shX x k1) (shY d k1) := ⟨_, rfl⟩
  rw [← hFH, ← hFS] at h82
  have hkk : wrap64 (M - em) = k1 := hk1.symm
  have HFH := hide hFH
  have HFS := hide hFS
  have L1 := hide l1
  have L2 := hide l2
  have LN1 := hide ln1
  have H81 := hide h81
  have H83 := hide h83
  have H82 := hide h82
  clear h81 h83 h82 hk1 l1 l2 hn1 ln1 hFH hFS
  have hkk2 : wrap64 (M - rL) = k2 := hk2.symm
  have HTN := hide hTN
  have L3 := hide l3
  have L4 := hide l4
  have LN2 := hide ln2
  have H81B := hide h81b
  clear h81b hk2 l3 l4 hn2 ln2 hTN
  refine ⟨r, fl, ?_⟩
  have q24 := eqnil24
  intro w a cap l hx h a2 cap2 l2 hy h2 hl hl2
  have hlx := lim_length_le' l h.lt
  have hly := lim_length_le' l2 h2.lt
  rw [hx] at hlx
  have hld : (lim d).length ≤ 35184372088000 := by rw [← hy]; exact den1_len _ _ (by omega) (by omega)
  go_enter Oaag.func43, Oaag.ntmps43
  go_wp2_with fail
  obtain ⟨w0, hw0⟩ : ∃ w0, w0 = (w.alloc (.cells #[.int .u8 E, .int .u8 M] 33)).alloc (.cells #[.bool neg, .slice a l.length cap, .slice a2 l2.length cap2] 36) := ⟨_, rfl⟩
  have hb0 : Below w.heap.size w w0 := by rw [hw0]; exact ((Below.refl _ _).alloc (Nat.le_refl _) _).alloc (by simp) _
  have hz0 : w.heap.size + 2 ≤ w0.heap.size := by rw [hw0]; simp
  have hbx0 : Boxes w0 w.heap.size (w.heap.size + 1) E M neg (.slice a l.length cap) (.slice a2 l2.length cap2) := by
    refine ⟨?_, ?_, by omega, by omega⟩
    · rw [hw0, Below.heap_alloc _ _ _ (by simp), heap_alloc_new]
    · rw [hw0]
      have := heap_alloc_new (w.alloc (.cells #[.int .u8 E, .int .u8 M] 33)) (.cells #[.bool neg, .slice a l.length cap, .slice a2 l2.length cap2] 36)
      simpa using this
  rw [← hw0]
  have HW0 := hide hw0
  clear hw0
  refine (unhide HK _).mono ?_
  rintro e w1 ⟨rfl, hb1⟩
  have hz1 := hb1.size
  have hb01 : Below w.heap.size w w1 := hb0.trans (hb1.mono (by omega))
  obtain ⟨f0, f1, g0, g1, g2⟩ := (hbx0.later hb1).cells
  have hmr := makeRat_any w1 neg a cap l x hx (h.later hb01) a2 cap2 l2 (val l2) rfl (h2.later hb01) (by omega) (by omega)
  rw [hy] at hmr
  have HMR := hide hmr
  have fr0 := frozen_of_row w1 (w.heap.size + 1) 0 _ _ (hbx0.later hb1).q
  have HBX := hide hbx0
  clear hmr hbx0 fr0
  go_wp2_with fail
  refine (unhide HMR).mono ?_
  rintro e w2 ⟨a1, c1, a3, c3, rfl, hr1, hr3, hb2⟩
  have hz2 := hb2.size
  have hmade := made_of w w0 w1 w2 E M neg x d _ _ a1 c1 a3 c3 (unhide HW0) hb1 hb2 hr1 hr3 (by omega) hld
  have hbq := (((unhide HBX).later hb1).later hb2)
  obtain ⟨k0, k1, k2, k3, k4⟩ := hbq.cells
  have fr0 := frozen_of_row w2 (w.heap.size + 1) 0 _ _ hbq.q
  have fr1 := frozen_of_row w2 (w.heap.size + 1) 1 _ _ hbq.q
  have fr2 := frozen_of_row w2 (w.heap.size + 1) 2 _ _ hbq.q
  have hn : a1.isNone = false := by have := hmade.none; rw [this]; simpa using hx0
  have hbe := hmade.bel
  have hAll := hmade.box.all
  have hnum := hmade.num
  have hden := hmade.den
  obtain ⟨p0, p1, p2, p3, p4⟩ := hmade.box.cells
  have HM := hide hmade
  have HAll := hide hAll
  have HNum := hide hnum
  have HDen := hide hden
  clear hmade hbq hr1 hr3 HMR HBX f0 f1 g0 g1 g2 hAll hnum hden
  go_wp2_with fail
  obtain ⟨W, hW⟩ : ∃ W, W = (((w2.setCell ⟨w.heap.size + 1, 0, none⟩ (.bool neg)).setCell ⟨w.heap.size + 1, 1, none⟩ (.slice a1 (lim x).length c1)).setCell ⟨w.heap.size + 1, 2, none⟩ (.slice a3 (lim d).length c3)) := ⟨_, rfl⟩
  rw [← hW] at hbe HAll HNum HDen HM ⊢
  clear hW k0 k1 k2 k3 k4 fr0 fr1 fr2 p0 p1 p2 p3 p4
  obtain ⟨c0, c1', d0, d1, d2⟩ := unhide HAll
  have hne : Nonempty (Later W) := ⟨⟨W, Below.refl _ _⟩⟩
  refine wp_region_below (by kernel_rfl) (by kernel_rfl) ?_
  iterate 5 (go_big_quiet_want; go_big_quiet_op; go_big_quiet_on)
  go_big_quiet_want
  go_big_quiet_op
  apply Exists.intro
  refine ⟨fun x => Calls.below_of x (unhide H77 x.at_), ?_⟩
  go_big_quiet_on
  iterate 2 (go_big_quiet_want; go_big_quiet_op; go_big_quiet_on)
  go_big_quiet_want
  go_big_quiet_op
  apply Exists.intro
  refine ⟨fun x => Calls.below_of x (unhide H78 x.at_), ?_⟩
  go_big_quiet_on
  go_big_quiet_want
  go_big_quiet_op
  apply Exists.intro
  refine ⟨fun x => Calls.below_of x (unhide H76 x.at_ _ _ ((unhide HNum).later x.ok) _ _ ((unhide HDen).later x.ok)), ?_⟩
  go_big_quiet_on
  iterate 1 (go_big_quiet_want; go_big_quiet_op; go_big_quiet_on)
  refine wpQuiet_nil ?_
  intro w3 hw3
  have hb3 : Below W.heap.size W w3 := by obtain ⟨X, hX⟩ := hw3; rw [hX]; exact X.ok
  clear hw3 c0 c1' d0 d1 d2 hne
  have hM3 := (unhide HM).box.later hb3
  have hn3 := (unhide HNum).later hb3
  have hd3 := (unhide HDen).later hb3
  have hw3 := hbe.trans (hb3.mono hbe.size)
  obtain ⟨p0, p1, p2, p3, p4⟩ := hM3.cells
  have HM3 := hide hM3
  have HN3 := hide hn3
  have HD3 := hide hd3
  clear hM3 hn3 hd3 HAll HM HNum HDen hb3 hbe hb2 hz2 hb1 hz1 hb01 HW0 hb0 hz0 hx hy h h2
  go_wp2_with fail
  refine (unhide H77 _).mono ?_
  rintro e w4 ⟨rfl, hb4⟩
  have hM4 := (unhide HM3).later hb4
  have hw4 := hw3.trans (hb4.mono hw3.size)
  have hn4 := (unhide HN3).later hb4
  have hd4 := (unhide HD3).later hb4
  clear p0 p1 p2 p3 p4 HM3 hw3 HN3 HD3
  obtain ⟨p0, p1, p2, p3, p4⟩ := hM4.cells
  have HM4 := hide hM4
  have HN4 := hide hn4
  have HD4 := hide hd4
  clear hM4 hn4 hd4 hb4
  go_wp2_with fail
  refine (unhide H78 _).mono ?_
  rintro e w5 ⟨rfl, hb5⟩
  have hM5 := (unhide HM4).later hb5
  have hw5 := hw4.trans (hb5.mono hw4.size)
  have hn5 := (unhide HN4).later hb5
  have hd5 := (unhide HD4).later hb5
  clear p0 p1 p2 p3 p4 HM4 hw4 HN4 HD4
  obtain ⟨p0, p1, p2, p3, p4⟩ := hM5.cells
  have HM5 := hide hM5
  have HN5 := hide hn5
  have HD5 := hide hd5
  clear hM5 hn5 hd5 hb5
  go_wp2_with fail
  refine (shift_any _ _ _ x (unhide HN5) _ _ d (unhide HD5) k1 (by omega) (by omega)).mono ?_
  rintro e w6 ⟨a5, c5, a6, c6, rfl, s5, s6, hb6⟩
  have hM6 := (unhide HM5).later hb6
  have hw6 := hw5.trans (hb6.mono hw5.size)
  have hn6 := (unhide HN5).later hb6
  have hd6 := (unhide HD5).later hb6
  clear p0 p1 p2 p3 p4 HM5 hw5 HN5 HD5
  obtain ⟨p0, p1, p2, p3, p4⟩ := hM6.cells
  have HM6 := hide hM6
  have HN6 := hide hn6
  have HD6 := hide hd6
  clear hM6 hn6 hd6 hb6
  have hra := unhide H81 w6 a5 c5 s5 a6 c6 s6
  rw [← unhide HFH, ← unhide HFS] at hra
  have HRA := hide hra
  clear hra s5 s6
  go_wp2_with fail
  refine (unhide HRA).mono ?_
  rintro e w7 ⟨a7, c7, rfl, hr7, hb7⟩
  have sr7 := hr7.sl
  have SR7 := hide sr7
  clear sr7 hr7 HRA
  have hM7 := (unhide HM6).later hb7
  have hw7 := hw6.trans (hb7.mono hw6.size)
  have hn7 := (unhide HN6).later hb7
  have hd7 := (unhide HD6).later hb7
  clear p0 p1 p2 p3 p4 HM6 hw6 HN6 HD6
  obtain ⟨p0, p1, p2, p3, p4⟩ := hM7.cells
  have HM7 := hide hM7
  have HN7 := hide hn7
  have HD7 := hide hd7
  clear hM7 hn7 hd7 hb7
  have hb8 : Below w7.heap.size w7 (w7.alloc (.cells #[.int .i8 FH, .bool FSt] 125)) := (Below.refl _ _).alloc (Nat.le_refl _) _
  have hh8x := Half.new w7 FH FSt
  obtain ⟨w8, he8⟩ : ∃ W, W = w7.alloc (.cells #[.int .i8 FH, .bool FSt] 125) := ⟨_, rfl⟩
  rw [← he8] at hb8 hh8x
  have hM8 := (unhide HM7).later hb8
  have hw8 := hw7.trans (hb8.mono hw7.size)
  have hn8 := (unhide HN7).later hb8
  have hd8 := (unhide HD7).later hb8
  have sr8 := (unhide SR7).later hb8
  clear p0 p1 p2 p3 p4 HM7 hw7 HN7 HD7 SR7
  obtain ⟨p0, p1, p2, p3, p4⟩ := hM8.cells
  have HM8 := hide hM8
  have HN8 := hide hn8
  have HD8 := hide hd8
  have SR8 := hide sr8
  clear sr8
  clear hM8 hn8 hd8 hb8
  rw [he8] at p0 p1 p2 p3 p4
  have HE8 := hide he8
  have HHX8 := hide hh8x
  clear he8 hh8x
  go_wp2_with fail
  rw [← unhide HE8]
  refine (unhide H77 _).mono ?_
  rintro e w9 ⟨rfl, hb9⟩
  have hM9 := (unhide HM8).later hb9
  have hw9 := hw8.trans (hb9.mono hw8.size)
  have hn9 := (unhide HN8).later hb9
  have hd9 := (unhide HD8).later hb9
  have sr9 := (unhide SR8).later hb9
  have hhx9 := (unhide HHX8).later hb9
  clear p0 p1 p2 p3 p4 HM8 hw8 HN8 HD8 SR8 HHX8
  obtain ⟨p0, p1, p2, p3, p4⟩ := hM9.cells
  have HM9 := hide hM9
  have HN9 := hide hn9
  have HD9 := hide hd9
  have SR9 := hide sr9
  clear sr9
  have HHX9 := hide hhx9
  clear hhx9
  clear hM9 hn9 hd9 hb9
  go_wp2_with fail
  refine (unhide H77 _).mono ?_
  rintro e w10 ⟨rfl, hb10⟩
  have hM10 := (unhide HM9).later hb10
  have hw10 := hw9.trans (hb10.mono hw9.size)
  have hn10 := (unhide HN9).later hb10
  have hd10 := (unhide HD9).later hb10
  have sr10 := (unhide SR9).later hb10
  have hhx10 := (unhide HHX9).later hb10
  clear p0 p1 p2 p3 p4 HM9 hw9 HN9 HD9 SR9 HHX9
  obtain ⟨p0, p1, p2, p3, p4⟩ := hM10.cells
  have HM10 := hide hM10
  have HN10 := hide hn10
  have HD10 := hide hd10
  have SR10 := hide sr10
  clear sr10
  have HHX10 := hide hhx10
  clear hhx10
  clear hM10 hn10 hd10 hb10
  go_wp2_with fail
  refine (shift_any _ _ _ x (unhide HN10) _ _ d (unhide HD10) k2 (by omega) (by omega)).mono ?_
  rintro e w11 ⟨a8, c8, a9, c9, rfl, s5, s6, hb11⟩
  have hM11 := (unhide HM10).later hb11
  have hw11 := hw10.trans (hb11.mono hw10.size)
  have hn11 := (unhide HN10).later hb11
  have hd11 := (unhide HD10).later hb11
  have sr11 := (unhide SR10).later hb11
  have hhx11 := (unhide HHX10).later hb11
  clear p0 p1 p2 p3 p4 HM10 hw10 HN10 HD10 SR10 HHX10
  obtain ⟨p0, p1, p2, p3, p4⟩ := hM11.cells
  have HM11 := hide hM11
  have HN11 := hide hn11
  have HD11 := hide hd11
  have SR11 := hide sr11
  clear sr11
  have HHX11 := hide hhx11
  clear hhx11
  clear hM11 hn11 hd11 hb11
  have hra := unhide H81B w11 a8 c8 s5 a9 c9 s6
  obtain ⟨FH2, hFH2⟩ : ∃ z, z = flH (shX x k2) (shY d k2) := ⟨_, rfl⟩
  obtain ⟨FS2, hFS2⟩ : ∃ z, z = flS (shX x k2) (shY d k2) := ⟨_, rfl⟩
  rw [← hFH2, ← hFS2] at hra
  have HRA := hide hra
  clear hra s5 s6 hFH2 hFS2
  go_wp2_with fail
  refine (unhide HRA).mono ?_
  rintro e w12 ⟨a10, c10, rfl, hr12, hb12⟩
  have sp12 := hr12.sl
  have SP12 := hide sp12
  clear sp12 hr12 HRA
  have hM12 := (unhide HM11).later hb12
  have hw12 := hw11.trans (hb12.mono hw11.size)
  have hn12 := (unhide HN11).later hb12
  have hd12 := (unhide HD11).later hb12
  have sr12 := (unhide SR11).later hb12
  have hhx12 := (unhide HHX11).later hb12
  clear p0 p1 p2 p3 p4 HM11 hw11 HN11 HD11 SR11 HHX11
  obtain ⟨p0, p1, p2, p3, p4⟩ := hM12.cells
  have HM12 := hide hM12
  have HN12 := hide hn12
  have HD12 := hide hd12
  have SR12 := hide sr12
  clear sr12
  have HHX12 := hide hhx12
  clear hhx12
  clear hM12 hn12 hd12 hb12
  have hb13 : Below w12.heap.size w12 (w12.alloc (.cells #[.int .i8 FH2, .bool FS2] 125)) := (Below.refl _ _).alloc (Nat.le_refl _) _
  have hhy13 := Half.new w12 FH2 FS2
  obtain ⟨w13, he13⟩ : ∃ W, W = w12.alloc (.cells #[.int .i8 FH2, .bool FS2] 125) := ⟨_, rfl⟩
  rw [← he13] at hb13 hhy13
  have hM13 := (unhide HM12).later hb13
  have hw13 := hw12.trans (hb13.mono hw12.size)
  have hn13 := (unhide HN12).later hb13
  have hd13 := (unhide HD12).later hb13
  have sr13 := (unhide SR12).later hb13
  have hhx13 := (unhide HHX12).later hb13
  have sp13 := (unhide SP12).later hb13
  clear p0 p1 p2 p3 p4 HM12 hw12 HN12 HD12 SR12 HHX12 SP12
  obtain ⟨p0, p1, p2, p3, p4⟩ := hM13.cells
  have HM13 := hide hM13
  have HN13 := hide hn13
  have HD13 := hide hd13
  have SR13 := hide sr13
  clear sr13
  have HHX13 := hide hhx13
  clear hhx13
  have SP13 := hide sp13
  clear sp13
  clear hM13 hn13 hd13 hb13
  rw [he13] at p0 p1 p2 p3 p4
  have HE13 := hide he13
  have HHY13 := hide hhy13
  clear he13 hhy13
  go_wp2_with fail
  rw [← unhide HE13]
  obtain ⟨c0, c1', d0, d1, d2⟩ := (unhide HM13).all
  clear p0 p1 p2 p3 p4
  have hne : Nonempty (Later w13) := ⟨⟨w13, Below.refl _ _⟩⟩
  refine wp_region_below (by kernel_rfl) (by kernel_rfl) ?_
  iterate 1 (go_big_quiet_want; go_big_quiet_op; go_big_quiet_on)
  go_big_quiet_want
  go_big_quiet_op
  apply Exists.intro
  refine ⟨fun x => Calls.below_of x (unhide HBL x.at_ _ _ ((unhide SP13).later x.ok)), ?_⟩
  go_big_quiet_on
  iterate 6 (go_big_quiet_want; go_big_quiet_op; go_big_quiet_on)
  refine wpQuiet_nil ?_
  intro w14 hw14
  have hb14 : Below w13.heap.size w13 w14 := by obtain ⟨X, hX⟩ := hw14; rw [hX]; exact X.ok
  clear hw14 c0 c1' d0 d1 d2 hne
  rw [← unhide HTN]
  have hM14 := (unhide HM13).later hb14
  have hw14 := hw13.trans (hb14.mono hw13.size)
  have hn14 := (unhide HN13).later hb14
  have hd14 := (unhide HD13).later hb14
  have sr14 := (unhide SR13).later hb14
  have hhx14 := (unhide HHX13).later hb14
  have sp14 := (unhide SP13).later hb14
  clear HM13 hw13 HN13 HD13 SR13 HHX13 SP13
  obtain ⟨p0, p1, p2, p3, p4⟩ := hM14.cells
  have HM14 := hide hM14
  have HN14 := hide hn14
  have HD14 := hide hd14
  have SR14 := hide sr14
  clear sr14
  have HHX14 := hide hhx14
  clear hhx14
  have SP14 := hide sp14
  clear sp14
  clear hM14 hn14 hd14 hb14
  go_wp2_with fail
  obtain ⟨c0, c1', d0, d1, d2⟩ := (unhide HM14).all
  obtain ⟨z0, z1⟩ := (unhide HHX14).all
  clear p0 p1 p2 p3 p4
  have hne : Nonempty (Later w14) := ⟨⟨w14, Below.refl _ _⟩⟩
  refine wp_region_below (by kernel_rfl) (by kernel_rfl) ?_
  iterate 6 (go_big_quiet_want; go_big_quiet_op; go_big_quiet_on)
  go_big_quiet_want
  go_big_quiet_op
  apply Exists.intro
  refine ⟨fun x => Calls.below_of x (unhide H83 x.at_ _ _ ((unhide SR14).later x.ok)), ?_⟩
  go_big_quiet_on
  iterate 2 (go_big_quiet_want; go_big_quiet_op; go_big_quiet_on)
  go_big_quiet_want
  go_big_quiet_op
  apply Exists.intro
  refine ⟨fun x => Calls.below_of x (unhide H82 x.at_), ?_⟩
  go_big_quiet_on
  iterate 4 (go_big_quiet_want; go_big_quiet_op; go_big_quiet_on)
  refine wpQuiet_nil ?_
  intro wZ hwZ
  have hbZ : Below w14.heap.size w14 wZ := by obtain ⟨X, hX⟩ := hwZ; rw [hX]; exact X.ok
  have hbF := hw14.trans (hbZ.mono hw14.size)
  clear hwZ c0 c1' d0 d1 d2 z0 z1 hne hbZ
  go_wp2
  go_ret2
  exact ⟨rfl, hbF⟩

set_option maxRecDepth 20000 in
set_option maxHeartbeats 1000000 in
theorem round_mid2 (E M : Nat) (hf : fok E M = true) (mode : Int) (neg : Bool) (x d : Nat) (hx0 : x ≠ 0) (hbx : (lim x).length ≤ 35184372088000) (hby : (lim d).length ≤ 35184372088000)
    (em eM rL : Int) (h77 : OneOf 77 E M .i64 em) (h78 : OneOf 78 E M .i64 eM) (h76 : Log2Of x d (wrap64 (em - 1)) eM rL) (hlt : decide (rL < em) = false) (hnl : ¬ rL < em) (hle : em ≤ rL) (hgt : decide (eM < rL) = false) (hne2 : wrap64 (em - 1) = rL) : ∃ r fl, RoundOf E M mode neg x d r fl := by
  obtain ⟨m1, m2, m3, m4⟩ := fok_bd hf
  rw [hne2] at h76
  have hk := fun w => fmtOk_yes E M hf w
  have HK := hide hk
  have H77 := hide h77
  have H78 := hide h78
  have H76 := hide h76
  have HF := hide hf
  clear hk hf h77 h78 h76
  obtain ⟨k1, hk1⟩ : ∃ k, k = wrap64 (M - rL) := ⟨_, rfl⟩
  have l1 := len_shX x k1
  have l2 := len_shY d k1
  obtain ⟨n1, hn1, h81⟩ := raised_any mode neg (shX x k1) (shY d k1) (by omega) (by omega)
  have ln1 : (lim n1).length ≤ 35184372100000 + 1 := len_grow _ _ _ hn1 (by omega) (by omega)
  obtain ⟨u1, h83'⟩ := toU64_any n1 (by omega)
  have h83 : ∀ (w : World) (a : Option Addr) (cap : Nat), Sl w a cap (lim n1) → Calls Oaag.prog 83 #[.slice a (lim n1).length cap] w fun e w' => e = .returned (.int .u64 u1) ∧ Below w.heap.size w w' := by
    intro w a cap h
    refine (h83' w a cap h).mono ?_
    rintro e w' ⟨rfl, rfl⟩
    exact ⟨rfl, Below.refl _ _⟩
  clear h83'
  have l3 := len_shX x k1
  have l4 := len_shY d k1
  obtain ⟨n2, hn2, h81b⟩ := raised_any mode neg (shX x k1) (shY d k1) (by omega) (by omega)
  have ln2 : (lim n2).length ≤ 35184372100000 + 1 := len_grow _ _ _ hn2 (by omega) (by omega)
  obtain ⟨BL, hBL⟩ : ∃ T : Int, T = (bl n2 : Nat) := ⟨_, rfl⟩
  have hbl : ∀ (w : World) (a : Option Addr) (cap : Nat), Sl w a cap (lim n2) → Calls Oaag.prog 31 #[.slice a (lim n2).length cap] w fun e w' => e = .returned (.int .i64 BL) ∧ Below w.heap.size w w' := by
    intro w a cap h
    refine (bitLen_any w a cap _ n2 (val_lim n2) h (by omega)).mono ?_
    rintro e w' ⟨rfl, rfl⟩
    exact ⟨by rw [hBL], Below.refl _ _⟩
  have HBL := hide hbl
  clear hbl hBL
  obtain ⟨TN, hTN⟩ : ∃ T : Bool, T = (BL == (M : Int) + 1) := ⟨_, rfl⟩
  obtain ⟨r, fl, h82⟩ := pack_any E M (unhide HF) mode neg rL u1 (flH (shX x k1) (shY d k1)) (flS (shX x k1) (shY d k1)) TN
  obtain ⟨FH, hFH⟩ : ∃ z, z = flH (shX x k1) (shY d k1) := ⟨_, rfl⟩
  obtain ⟨FSt, hFS⟩ : ∃ z, z = flS (shX x k1) (shY d k1) := ⟨_, rfl⟩
  rw [← hFH, ← hFS] at h82
  have hkk : wrap64 (M - rL) = k1 := hk1.symm
  have HFH := hide hFH
  have HFS := hide hFS
  have L1 := hide l1
  have L2 := hide l2
  have LN1 := hide ln1
  have H81 := hide h81
  have H83 := hide h83
  have H82 := hide h82
  clear h81 h83 h82 hk1 l1 l2 hn1 ln1 hFH hFS
  have HTN := hide hTN
  have L3 := hide l3
  have L4 := hide l4
  have LN2 := hide ln2
  have H81B := hide h81b
  clear h81b l3 l4 hn2 ln2 hTN
  refine ⟨r, fl, ?_⟩
  have q24 := eqnil24
  intro w a cap l hx h a2 cap2 l2 hy h2 hl hl2
  have hlx := lim_length_le' l h.lt
  have hly := lim_length_le' l2 h2.lt
  rw [hx] at hlx
  have hld : (lim d).length ≤ 35184372088000 := by rw [← hy]; exact den1_len _ _ (by omega) (by omega)
  go_enter Oaag.func43, Oaag.ntmps43
  go_wp2_with fail
  obtain ⟨w0, hw0⟩ : ∃ w0, w0 = (w.alloc (.cells #[.int .u8 E, .int .u8 M] 33)).alloc (.cells #[.bool neg, .slice a l.length cap, .slice a2 l2.length cap2] 36) := ⟨_, rfl⟩
  have hb0 : Below w.heap.size w w0 := by rw [hw0]; exact ((Below.refl _ _).alloc (Nat.le_refl _) _).alloc (by simp) _
  have hz0 : w.heap.size + 2 ≤ w0.heap.size := by rw [hw0]; simp
  have hbx0 : Boxes w0 w.heap.size (w.heap.size + 1) E M neg (.slice a l.length cap) (.slice a2 l2.length cap2) := by
    refine ⟨?_, ?_, by omega, by omega⟩
    · rw [hw0, Below.heap_alloc _ _ _ (by simp), heap_alloc_new]
    · rw [hw0]
      have := heap_alloc_new (w.alloc (.cells #[.int .u8 E, .int .u8 M] 33)) (.cells #[.bool neg, .slice a l.length cap, .slice a2 l2.length cap2] 36)
      simpa using this
  rw [← hw0]
  have HW0 := hide hw0
  clear hw0
  refine (unhide HK _).mono ?_
  rintro e w1 ⟨rfl, hb1⟩
  have hz1 := hb1.size
  have hb01 : Below w.heap.size w w1 := hb0.trans (hb1.mono (by omega))
  obtain ⟨f0, f1, g0, g1, g2⟩ := (hbx0.later hb1).cells
  have hmr := makeRat_any w1 neg a cap l x hx (h.later hb01) a2 cap2 l2 (val l2) rfl (h2.later hb01) (by omega) (by omega)
  rw [hy] at hmr
  have HMR := hide hmr
  have fr0 := frozen_of_row w1 (w.heap.size + 1) 0 _ _ (hbx0.later hb1).q
  have HBX := hide hbx0
  clear hmr hbx0 fr0
  go_wp2_with fail
  refine (unhide HMR).mono ?_
  rintro e w2 ⟨a1, c1, a3, c3, rfl, hr1, hr3, hb2⟩
  have hz2 := hb2.size
  have hmade := made_of w w0 w1 w2 E M neg x d _ _ a1 c1 a3 c3 (unhide HW0) hb1 hb2 hr1 hr3 (by omega) hld
  have hbq := (((unhide HBX).later hb1).later hb2)
  obtain ⟨k0, k1, k2, k3, k4⟩ := hbq.cells
  have fr0 := frozen_of_row w2 (w.heap.size + 1) 0 _ _ hbq.q
  have fr1 := frozen_of_row w2 (w.heap.size + 1) 1 _ _ hbq.q
  have fr2 := frozen_of_row w2 (w.heap.size + 1) 2 _ _ hbq.q
  have hn : a1.isNone = false := by have := hmade.none; rw [this]; simpa using hx0
  have hbe := hmade.bel
  have hAll := hmade.box.all
  have hnum := hmade.num
  have hden := hmade.den
  obtain ⟨p0, p1, p2, p3, p4⟩ := hmade.box.cells
  have HM := hide hmade
  have HAll := hide hAll
  have HNum := hide hnum
  have HDen := hide hden
  clear hmade hbq hr1 hr3 HMR HBX f0 f1 g0 g1 g2 hAll hnum hden
  go_wp2_with fail
  obtain ⟨W, hW⟩ : ∃ W, W = (((w2.setCell ⟨w.heap.size + 1, 0, none⟩ (.bool neg)).setCell ⟨w.heap.size + 1, 1, none⟩ (.slice a1 (lim x).length c1)).setCell ⟨w.heap.size + 1, 2, none⟩ (.slice a3 (lim d).length c3)) := ⟨_, rfl⟩
  rw [← hW] at hbe HAll HNum HDen HM ⊢
  clear hW k0 k1 k2 k3 k4 fr0 fr1 fr2 p0 p1 p2 p3 p4
  obtain ⟨c0, c1', d0, d1, d2⟩ := unhide HAll
  have hne : Nonempty (Later W) := ⟨⟨W, Below.refl _ _⟩⟩
  refine wp_region_below (by kernel_rfl) (by kernel_rfl) ?_
  iterate 5 (go_big_quiet_want; go_big_quiet_op; go_big_quiet_on)
  go_big_quiet_want
  go_big_quiet_op
  apply Exists.intro
  refine ⟨fun x => Calls.below_of x (unhide H77 x.at_), ?_⟩
  go_big_quiet_on
  iterate 2 (go_big_quiet_want; go_big_quiet_op; go_big_quiet_on)
  go_big_quiet_want
  go_big_quiet_op
  apply Exists.intro
  refine ⟨fun x => Calls.below_of x (unhide H78 x.at_), ?_⟩
  go_big_quiet_on
  go_big_quiet_want
  go_big_quiet_op
  apply Exists.intro
  refine ⟨fun x => Calls.below_of x (unhide H76 x.at_ _ _ ((unhide HNum).later x.ok) _ _ ((unhide HDen).later x.ok)), ?_⟩
  go_big_quiet_on
  iterate 1 (go_big_quiet_want; go_big_quiet_op; go_big_quiet_on)
  refine wpQuiet_nil ?_
  intro w3 hw3
  have hb3 : Below W.heap.size W w3 := by obtain ⟨X, hX⟩ := hw3; rw [hX]; exact X.ok
  clear hw3 c0 c1' d0 d1 d2 hne
  have hM3 := (unhide HM).box.later hb3
  have hn3 := (unhide HNum).later hb3
  have hd3 := (unhide HDen).later hb3
  have hw3 := hbe.trans (hb3.mono hbe.size)
  obtain ⟨p0, p1, p2, p3, p4⟩ := hM3.cells
  have HM3 := hide hM3
  have HN3 := hide hn3
  have HD3 := hide hd3
  clear hM3 hn3 hd3 HAll HM HNum HDen hb3 hbe hb2 hz2 hb1 hz1 hb01 HW0 hb0 hz0 hx hy h h2
  go_wp2_with fail
  refine (unhide H77 _).mono ?_
  rintro e w4 ⟨rfl, hb4⟩
  have hM4 := (unhide HM3).later hb4
  have hw4 := hw3.trans (hb4.mono hw3.size)
  have hn4 := (unhide HN3).later hb4
  have hd4 := (unhide HD3).later hb4
  clear p0 p1 p2 p3 p4 HM3 hw3 HN3 HD3
  obtain ⟨p0, p1, p2, p3, p4⟩ := hM4.cells
  have HM4 := hide hM4
  have HN4 := hide hn4
  have HD4 := hide hd4
  clear hM4 hn4 hd4 hb4
  go_wp2_with fail
  refine (unhide H78 _).mono ?_
  rintro e w5 ⟨rfl, hb5⟩
  have hM5 := (unhide HM4).later hb5
  have hw5 := hw4.trans (hb5.mono hw4.size)
  have hn5 := (unhide HN4).later hb5
  have hd5 := (unhide HD4).later hb5
  clear p0 p1 p2 p3 p4 HM4 hw4 HN4 HD4
  obtain ⟨p0, p1, p2, p3, p4⟩ := hM5.cells
  have HM5 := hide hM5
  have HN5 := hide hn5
  have HD5 := hide hd5
  clear hM5 hn5 hd5 hb5
  go_wp2_with fail
  refine (shift_any _ _ _ x (unhide HN5) _ _ d (unhide HD5) k1 (by omega) (by omega)).mono ?_
  rintro e w6 ⟨a5, c5, a6, c6, rfl, s5, s6, hb6⟩
  have hM6 := (unhide HM5).later hb6
  have hw6 := hw5.trans (hb6.mono hw5.size)
  have hn6 := (unhide HN5).later hb6
  have hd6 := (unhide HD5).later hb6
  clear p0 p1 p2 p3 p4 HM5 hw5 HN5 HD5
  obtain ⟨p0, p1, p2, p3, p4⟩ := hM6.cells
  have HM6 := hide hM6
  have HN6 := hide hn6
  have HD6 := hide hd6
  clear hM6 hn6 hd6 hb6
  have hra := unhide H81 w6 a5 c5 s5 a6 c6 s6
  rw [← unhide HFH, ← unhide HFS] at hra
  have HRA := hide hra
  clear hra s5 s6
  go_wp2_with fail
  refine (unhide HRA).mono ?_
  rintro e w7 ⟨a7, c7, rfl, hr7, hb7⟩
  have sr7 := hr7.sl
  have SR7 := hide sr7
  clear sr7 hr7 HRA
  have hM7 := (unhide HM6).later hb7
  have hw7 := hw6.trans (hb7.mono hw6.size)
  have hn7 := (unhide HN6).later hb7
  have hd7 := (unhide HD6).later hb7
  clear p0 p1 p2 p3 p4 HM6 hw6 HN6 HD6
  obtain ⟨p0, p1, p2, p3, p4⟩ := hM7.cells
  have HM7 := hide hM7
  have HN7 := hide hn7
  have HD7 := hide hd7
  clear hM7 hn7 hd7 hb7
  have hb8 : Below w7.heap.size w7 (w7.alloc (.cells #[.int .i8 FH, .bool FSt] 125)) := (Below.refl _ _).alloc (Nat.le_refl _) _
  have hh8x := Half.new w7 FH FSt
  obtain ⟨w8, he8⟩ : ∃ W, W = w7.alloc (.cells #[.int .i8 FH, .bool FSt] 125) := ⟨_, rfl⟩
  rw [← he8] at hb8 hh8x
  have hM8 := (unhide HM7).later hb8
  have hw8 := hw7.trans (hb8.mono hw7.size)
  have hn8 := (unhide HN7).later hb8
  have hd8 := (unhide HD7).later hb8
  have sr8 := (unhide SR7).later hb8
  clear p0 p1 p2 p3 p4 HM7 hw7 HN7 HD7 SR7
  obtain ⟨p0, p1, p2, p3, p4⟩ := hM8.cells
  have HM8 := hide hM8
  have HN8 := hide hn8
  have HD8 := hide hd8
  have SR8 := hide sr8
  clear sr8
  clear hM8 hn8 hd8 hb8
  rw [he8] at p0 p1 p2 p3 p4
  have HE8 := hide he8
  have HHX8 := hide hh8x
  clear he8 hh8x
  go_wp2_with fail
  rw [← unhide HE8]
  refine (unhide H77 _).mono ?_
  rintro e w9 ⟨rfl, hb9⟩
  have hM9 := (unhide HM8).later hb9
  have hw9 := hw8.trans (hb9.mono hw8.size)
  have hn9 := (unhide HN8).later hb9
  have hd9 := (unhide HD8).later hb9
  have sr9 := (unhide SR8).later hb9
  have hhx9 := (unhide HHX8).later hb9
  clear p0 p1 p2 p3 p4 HM8 hw8 HN8 HD8 SR8 HHX8
  obtain ⟨p0, p1, p2, p3, p4⟩ := hM9.cells
  have HM9 := hide hM9
  have HN9 := hide hn9
  have HD9 := hide hd9
  have SR9 := hide sr9
  clear sr9
  have HHX9 := hide hhx9
  clear hhx9
  clear hM9 hn9 hd9 hb9
  go_wp2_with fail
  refine (unhide H77 _).mono ?_
  rintro e w10 ⟨rfl, hb10⟩
  have hM10 := (unhide HM9).later hb10
  have hw10 := hw9.trans (hb10.mono hw9.size)
  have hn10 := (unhide HN9).later hb10
  have hd10 := (unhide HD9).later hb10
  have sr10 := (unhide SR9).later hb10
  have hhx10 := (unhide HHX9).later hb10
  clear p0 p1 p2 p3 p4 HM9 hw9 HN9 HD9 SR9 HHX9
  obtain ⟨p0, p1, p2, p3, p4⟩ := hM10.cells
  have HM10 := hide hM10
  have HN10 := hide hn10
  have HD10 := hide hd10
  have SR10 := hide sr10
  clear sr10
  have HHX10 := hide hhx10
  clear hhx10
  clear hM10 hn10 hd10 hb10
  go_wp2_with fail
  refine (shift_any _ _ _ x (unhide HN10) _ _ d (unhide HD10) k1 (by omega) (by omega)).mono ?_
  rintro e w11 ⟨a8, c8, a9, c9, rfl, s5, s6, hb11⟩
  have hM11 := (unhide HM10).later hb11
  have hw11 := hw10.trans (hb11.mono hw10.size)
  have hn11 := (unhide HN10).later hb11
  have hd11 := (unhide HD10).later hb11
  have sr11 := (unhide SR10).later hb11
  have hhx11 := (unhide HHX10).later hb11
  clear p0 p1 p2 p3 p4 HM10 hw10 HN10 HD10 SR10 HHX10
  obtain ⟨p0, p1, p2, p3, p4⟩ := hM11.cells
  have HM11 := hide hM11
  have HN11 := hide hn11
  have HD11 := hide hd11
  have SR11 := hide sr11
  clear sr11
  have HHX11 := hide hhx11
  clear hhx11
  clear hM11 hn11 hd11 hb11
  have hra := unhide H81B w11 a8 c8 s5 a9 c9 s6
  obtain ⟨FH2, hFH2⟩ : ∃ z, z = flH (shX x k1) (shY d k1) := ⟨_, rfl⟩
  obtain ⟨FS2, hFS2⟩ : ∃ z, z = flS (shX x k1) (shY d k1) := ⟨_, rfl⟩
  rw [← hFH2, ← hFS2] at hra
  have HRA := hide hra
  clear hra s5 s6 hFH2 hFS2
  go_wp2_with fail
  refine (unhide HRA).mono ?_
  rintro e w12 ⟨a10, c10, rfl, hr12, hb12⟩
  have sp12 := hr12.sl
  have SP12 := hide sp12
  clear sp12 hr12 HRA
  have hM12 := (unhide HM11).later hb12
  have hw12 := hw11.trans (hb12.mono hw11.size)
  have hn12 := (unhide HN11).later hb12
  have hd12 := (unhide HD11).later hb12
  have sr12 := (unhide SR11).later hb12
  have hhx12 := (unhide HHX11).later hb12
  clear p0 p1 p2 p3 p4 HM11 hw11 HN11 HD11 SR11 HHX11
  obtain ⟨p0, p1, p2, p3, p4⟩ := hM12.cells
  have HM12 := hide hM12
  have HN12 := hide hn12
  have HD12 := hide hd12
  have SR12 := hide sr12
  clear sr12
  have HHX12 := hide hhx12
  clear hhx12
  clear hM12 hn12 hd12 hb12
  have hb13 : Below w12.heap.size w12 (w12.alloc (.cells #[.int .i8 FH2, .bool FS2] 125)) := (Below.refl _ _).alloc (Nat.le_refl _) _
  have hhy13 := Half.new w12 FH2 FS2
  obtain ⟨w13, he13⟩ : ∃ W, W = w12.alloc (.cells #[.int .i8 FH2, .bool FS2] 125) := ⟨_, rfl⟩
  rw [← he13] at hb13 hhy13
  have hM13 := (unhide HM12).later hb13
  have hw13 := hw12.trans (hb13.mono hw12.size)
  have hn13 := (unhide HN12).later hb13
  have hd13 := (unhide HD12).later hb13
  have sr13 := (unhide SR12).later hb13
  have hhx13 := (unhide HHX12).later hb13
  have sp13 := (unhide SP12).later hb13
  clear p0 p1 p2 p3 p4 HM12 hw12 HN12 HD12 SR12 HHX12 SP12
  obtain ⟨p0, p1, p2, p3, p4⟩ := hM13.cells
  have HM13 := hide hM13
  have HN13 := hide hn13
  have HD13 := hide hd13
  have SR13 := hide sr13
  clear sr13
  have HHX13 := hide hhx13
  clear hhx13
  have SP13 := hide sp13
  clear sp13
  clear hM13 hn13 hd13 hb13
  rw [he13] at p0 p1 p2 p3 p4
  have HE13 := hide he13
  have HHY13 := hide hhy13
  clear he13 hhy13
  go_wp2_with fail
  rw [← unhide HE13]
  obtain ⟨c0, c1', d0, d1, d2⟩ := (unhide HM13).all
  clear p0 p1 p2 p3 p4
  have hne : Nonempty (Later w13) := ⟨⟨w13, Below.refl _ _⟩⟩
  refine wp_region_below (by kernel_rfl) (by kernel_rfl) ?_
  iterate 1 (go_big_quiet_want; go_big_quiet_op; go_big_quiet_on)
  go_big_quiet_want
  go_big_quiet_op
  apply Exists.intro
  refine ⟨fun x => Calls.below_of x (unhide HBL x.at_ _ _ ((unhide SP13).later x.ok)), ?_⟩
  go_big_quiet_on
  iterate 6 (go_big_quiet_want; go_big_quiet_op; go_big_quiet_on)
  refine wpQuiet_nil ?_
  intro w14 hw14
  have hb14 : Below w13.heap.size w13 w14 := by obtain ⟨X, hX⟩ := hw14; rw [hX]; exact X.ok
  clear hw14 c0 c1' d0 d1 d2 hne
  rw [← unhide HTN]
  have hM14 := (unhide HM13).later hb14
  have hw14 := hw13.trans (hb14.mono hw13.size)
  have hn14 := (unhide HN13).later hb14
  have hd14 := (unhide HD13).later hb14
  have sr14 := (unhide SR13).later hb14
  have hhx14 := (unhide HHX13).later hb14
  have sp14 := (unhide SP13).later hb14
  clear HM13 hw13 HN13 HD13 SR13 HHX13 SP13
  obtain ⟨p0, p1, p2, p3, p4⟩ := hM14.cells
  have HM14 := hide hM14
  have HN14 := hide hn14
  have HD14 := hide hd14
  have SR14 := hide sr14
  clear sr14
  have HHX14 := hide hhx14
  clear hhx14
  have SP14 := hide sp14
  clear sp14
  clear hM14 hn14 hd14 hb14
  go_wp2_with fail
  obtain ⟨c0, c1', d0, d1, d2⟩ := (unhide HM14).all
  obtain ⟨z0, z1⟩ := (unhide HHX14).all
  clear p0 p1 p2 p3 p4
  have hne : Nonempty (Later w14) := ⟨⟨w14, Below.refl _ _⟩⟩
  refine wp_region_below (by kernel_rfl) (by kernel_rfl) ?_
  iterate 6 (go_big_quiet_want; go_big_quiet_op; go_big_quiet_on)
  go_big_quiet_want
  go_big_quiet_op
  apply Exists.intro
  refine ⟨fun x => Calls.below_of x (unhide H83 x.at_ _ _ ((unhide SR14).later x.ok)), ?_⟩
  go_big_quiet_on
  iterate 2 (go_big_quiet_want; go_big_quiet_op; go_big_quiet_on)
  go_big_quiet_want
  go_big_quiet_op
  apply Exists.intro
  refine ⟨fun x => Calls.below_of x (unhide H82 x.at_), ?_⟩
  go_big_quiet_on
  iterate 4 (go_big_quiet_want; go_big_quiet_op; go_big_quiet_on)
  refine wpQuiet_nil ?_
  intro wZ hwZ
  have hbZ : Below w14.heap.size w14 wZ := by obtain ⟨X, hX⟩ := hwZ; rw [hX]; exact X.ok
  have hbF := hw14.trans (hbZ.mono hw14.size)
  clear hwZ c0 c1' d0 d1 d2 z0 z1 hne hbZ
  go_wp2
  go_ret2
  exact ⟨rfl, hbF⟩


end Go.Proofs.Ygcoaa.NatW
