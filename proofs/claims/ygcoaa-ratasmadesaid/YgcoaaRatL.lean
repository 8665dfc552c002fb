/-
  law.RatAsMade: the walk.
-/
import Derived.Test.YgcoaaRatK
set_option linter.unusedVariables false
set_option linter.unusedSimpArgs false
namespace Go.Proofs.Ygcoaa.NatW
open Go.RowKit
open Go.Proofs.Ygcoaa.Limbs

/-- RatAsMade's memory: the format's box, the two fractions' boxes, the slices that they hold and the two that came in. -/
structure Lay (W : World) (b0 bp bq E M : Nat) (neg : Bool) (a : Option Addr) (cap : Nat) (l : List Nat) (a2 : Option Addr) (cap2 : Nat) (l2 : List Nat) (ap : Option Addr) (cp : Nat) (ap2 : Option Addr) (cp2 : Nat) (aq : Option Addr) (cq : Nat) (aq2 : Option Addr) (cq2 : Nat) : Prop where
  f : W.heap[b0]? = some (.cells #[.int .u8 E, .int .u8 M] 33 (0, 0))
  p : W.heap[bp]? = some (.cells #[.bool neg, .slice ap l.length cp, .slice ap2 l2.length cp2] 36 (0, 0))
  q : W.heap[bq]? = some (.cells #[.bool neg, .slice aq (lim (val l)).length cq, .slice aq2 (lim (den1 (val l2))).length cq2] 36 (0, 0))
  lf : b0 < W.heap.size
  lp : bp < W.heap.size
  lq : bq < W.heap.size
  s : Sl W a cap l
  s2 : Sl W a2 cap2 l2
  sp : Sl W ap cp l
  sp2 : Sl W ap2 cp2 l2
  sq : Sl W aq cq (lim (val l))
  sq2 : Sl W aq2 cq2 (lim (den1 (val l2)))

section
variable {W W' : World} {b0 bp bq E M : Nat} {neg : Bool} {a : Option Addr} {cap : Nat} {l : List Nat} {a2 : Option Addr} {cap2 : Nat} {l2 : List Nat} {ap : Option Addr} {cp : Nat} {ap2 : Option Addr} {cp2 : Nat} {aq : Option Addr} {cq : Nat} {aq2 : Option Addr} {cq2 : Nat}
theorem Lay.later (h : Lay W b0 bp bq E M neg a cap l a2 cap2 l2 ap cp ap2 cp2 aq cq aq2 cq2) (hb : Below W.heap.size W W') : Lay W' b0 bp bq E M neg a cap l a2 cap2 l2 ap cp ap2 cp2 aq cq aq2 cq2 := by
  have hs := hb.size
  have h1 := h.lf
  have h2 := h.lp
  have h3 := h.lq
  exact ⟨(hb.block _ h1).trans h.f, (hb.block _ h2).trans h.p, (hb.block _ h3).trans h.q, by omega, by omega, by omega, h.s.later hb, h.s2.later hb, h.sp.later hb, h.sp2.later hb, h.sq.later hb, h.sq2.later hb⟩
theorem Lay.cells (h : Lay W b0 bp bq E M neg a cap l a2 cap2 l2 ap cp ap2 cp2 aq cq aq2 cq2) :
    W.cell? ⟨b0, 0, none⟩ = some (.int .u8 E) ∧ W.cell? ⟨b0, 1, none⟩ = some (.int .u8 M) ∧
    W.cell? ⟨bp, 0, none⟩ = some (.bool neg) ∧ W.cell? ⟨bp, 1, none⟩ = some (.slice ap l.length cp) ∧ W.cell? ⟨bp, 2, none⟩ = some (.slice ap2 l2.length cp2) ∧
    W.cell? ⟨bq, 0, none⟩ = some (.bool neg) ∧ W.cell? ⟨bq, 1, none⟩ = some (.slice aq (lim (val l)).length cq) ∧ W.cell? ⟨bq, 2, none⟩ = some (.slice aq2 (lim (den1 (val l2))).length cq2) := by
  refine ⟨?_, ?_, ?_, ?_, ?_, ?_, ?_, ?_⟩
  · rw [cell_of_row _ _ _ _ _ _ h.f]; rfl
  · rw [cell_of_row _ _ _ _ _ _ h.f]; rfl
  · rw [cell_of_row _ _ _ _ _ _ h.p]; rfl
  · rw [cell_of_row _ _ _ _ _ _ h.p]; rfl
  · rw [cell_of_row _ _ _ _ _ _ h.p]; rfl
  · rw [cell_of_row _ _ _ _ _ _ h.q]; rfl
  · rw [cell_of_row _ _ _ _ _ _ h.q]; rfl
  · rw [cell_of_row _ _ _ _ _ _ h.q]; rfl
end

set_option maxRecDepth 20000 in
set_option maxHeartbeats 2000000 in
theorem ratAsMade_any (w : World) (E M : Nat) (mode : Int) (neg : Bool) (a : Option Addr) (cap : Nat) (l : List Nat) (h : Sl w a cap l) (a2 : Option Addr) (cap2 : Nat) (l2 : List Nat) (h2 : Sl w a2 cap2 l2) (hl : l.length ≤ 35184372088000) (hl2 : l2.length ≤ 35184372088000) :
    Calls Oaag.prog 4 #[.agg #[.int .u8 E, .int .u8 M], .int .u8 mode, .bool neg, .slice a l.length cap, .slice a2 l2.length cap2] w fun e w' => e = .returned (.bool true) ∧ Below w.heap.size w w' := by
  have q24 := eqnil24
  obtain ⟨r, hr⟩ := round_any E M mode neg (val l) (den1 (val l2))
  have HR := hide hr
  clear hr
  have H0 := hide h
  have H20 := hide h2
  clear h h2
  have hb0 : Below w.heap.size w (w.alloc (.cells #[.int .u8 E, .int .u8 M] 33)) := (Below.refl _ _).alloc (Nat.le_refl _) _
  have ht1 := twin_two (w.alloc (.cells #[.int .u8 E, .int .u8 M] 33)) a cap l ((unhide H0).later hb0) (by omega)
  have hf0 : (w.alloc (.cells #[.int .u8 E, .int .u8 M] 33)).heap[w.heap.size]? = some (.cells #[.int .u8 E, .int .u8 M] 33 (0, 0)) := heap_alloc_new _ _
  have hz0 : w.heap.size < (w.alloc (.cells #[.int .u8 E, .int .u8 M] 33)).heap.size := by simp
  obtain ⟨w0, hw0⟩ : ∃ w0, w0 = w.alloc (.cells #[.int .u8 E, .int .u8 M] 33) := ⟨_, rfl⟩
  rw [← hw0] at hb0 ht1 hf0 hz0
  have HT1 := hide ht1
  have HW0 := hide hw0
  have HF0 := hide hf0
  clear ht1 hw0 hf0
  go_enter Oaag.func4, Oaag.ntmps4
  go_wp2_with fail
  rw [← unhide HW0]
  refine (unhide HT1).mono ?_
  rintro e w1 ⟨ap, cp, rfl, hb1, tw1⟩
  have hz1 := hb1.size
  have HTW1 := hide tw1
  have hb01 := hb0.trans (hb1.mono hb0.size)
  have ht2 := twin_two w1 a2 cap2 l2 ((unhide H20).later hb01) (by omega)
  have HT2 := hide ht2
  clear ht2 HT1 tw1
  go_wp2_with fail
  refine (unhide HT2).mono ?_
  rintro e w2 ⟨ap2, cp2, rfl, hb2, tw2⟩
  have hz2 := hb2.size
  have HTW2 := hide tw2
  have hb02 := hb01.trans (hb2.mono hb01.size)
  have hmk := makeRat_any w2 neg a cap l (val l) rfl ((unhide H0).later hb02) a2 cap2 l2 (val l2) rfl ((unhide H20).later hb02) (by omega) (by omega)
  have HMK := hide hmk
  clear hmk HT2 tw2
  go_wp2_with fail
  refine (unhide HMK).mono ?_
  rintro e w3 ⟨aq, cq, aq2, cq2, rfl, hr1, hr2, hb3⟩
  have hz3 := hb3.size
  have HR1 := hide hr1
  have HR2 := hide hr2
  clear hr1 hr2 HMK
  go_wp2_with fail
  have hb03 := hb02.trans (hb3.mono hb02.size)
  have hb04 : Below w.heap.size w ((w3.alloc (.cells #[.bool neg, .slice ap l.length cp, .slice ap2 l2.length cp2] 36)).alloc (.cells #[.bool neg, .slice aq (lim (val l)).length cq, .slice aq2 (lim (den1 (val l2))).length cq2] 36)) := (hb03.alloc hb03.size _).alloc (by simp; omega) _
  have hb34 : Below w3.heap.size w3 ((w3.alloc (.cells #[.bool neg, .slice ap l.length cp, .slice ap2 l2.length cp2] 36)).alloc (.cells #[.bool neg, .slice aq (lim (val l)).length cq, .slice aq2 (lim (den1 (val l2))).length cq2] 36)) := ((Below.refl _ _).alloc (Nat.le_refl _) _).alloc (by simp) _
  have hp4 : ((w3.alloc (.cells #[.bool neg, .slice ap l.length cp, .slice ap2 l2.length cp2] 36)).alloc (.cells #[.bool neg, .slice aq (lim (val l)).length cq, .slice aq2 (lim (den1 (val l2))).length cq2] 36)).heap[w3.heap.size]? = some (.cells #[.bool neg, .slice ap l.length cp, .slice ap2 l2.length cp2] 36 (0, 0)) := by
    rw [Below.heap_alloc _ _ _ (by simp), heap_alloc_new]
  have hq4 : ((w3.alloc (.cells #[.bool neg, .slice ap l.length cp, .slice ap2 l2.length cp2] 36)).alloc (.cells #[.bool neg, .slice aq (lim (val l)).length cq, .slice aq2 (lim (den1 (val l2))).length cq2] 36)).heap[w3.heap.size + 1]? = some (.cells #[.bool neg, .slice aq (lim (val l)).length cq, .slice aq2 (lim (den1 (val l2))).length cq2] 36 (0, 0)) := by
    have := heap_alloc_new (w3.alloc (.cells #[.bool neg, .slice ap l.length cp, .slice ap2 l2.length cp2] 36)) (.cells #[.bool neg, .slice aq (lim (val l)).length cq, .slice aq2 (lim (den1 (val l2))).length cq2] 36)
    simpa using this
  have hz4 : ((w3.alloc (.cells #[.bool neg, .slice ap l.length cp, .slice ap2 l2.length cp2] 36)).alloc (.cells #[.bool neg, .slice aq (lim (val l)).length cq, .slice aq2 (lim (den1 (val l2))).length cq2] 36)).heap.size = w3.heap.size + 2 := by simp
  obtain ⟨w4, hw4⟩ : ∃ w4, w4 = ((w3.alloc (.cells #[.bool neg, .slice ap l.length cp, .slice ap2 l2.length cp2] 36)).alloc (.cells #[.bool neg, .slice aq (lim (val l)).length cq, .slice aq2 (lim (den1 (val l2))).length cq2] 36)) := ⟨_, rfl⟩
  rw [← hw4] at hb04 hb34 hp4 hq4 hz4
  have HW4 := hide hw4
  clear hw4
  have hL4 : Lay w4 w.heap.size w3.heap.size (w3.heap.size + 1) E M neg a cap l a2 cap2 l2 ap cp ap2 cp2 aq cq aq2 cq2 := by
    have hb14 := hb2.trans (hb3.mono hb2.size)
    have hb15 := hb14.trans (hb34.mono hb14.size)
    have hb24 := hb3.trans (hb34.mono hb3.size)
    have hbf := hb1.trans (hb15.mono hb1.size)
    refine ⟨(hbf.block _ hz0).trans (unhide HF0), hp4, hq4, by omega, by omega, by omega, (unhide H0).later hb04, (unhide H20).later hb04, ((unhide HTW1).later hb15).1, ((unhide HTW2).later hb24).1, ((unhide HR1).later hb34).sl, ((unhide HR2).later hb34).sl⟩
  have eN1 := same_num hL4.sp (unhide HR1)
  have eN2 := same_den hL4.sp2 (unhide HR2)
  have eOK := ok_res (unhide HR1) (unhide HR2)
  have eA := eq_twin (l := l) (unhide HTW1).2
  have eB := eq_twin (l := l2) (unhide HTW2).2
  have hlx := lim_length_le' l (unhide H0).lt
  have hld := den1_len (val l2) 35184372088000 (Nat.le_trans (lim_length_le' l2 (unhide H20).lt) hl2) (by omega)
  obtain ⟨N1, hN1⟩ : ∃ N, N = nrm ap l := ⟨_, rfl⟩
  obtain ⟨N2, hN2⟩ : ∃ N, N = (nrm ap2 l2 && !ap2.isNone) := ⟨_, rfl⟩
  rw [← hN1] at eN1
  rw [← hN2] at eN2
  have eSM : (nrm ap l && nrm ap2 l2 && !ap2.isNone) = (N1 && N2) := by rw [hN1, hN2, Bool.and_assoc]
  -- what the callees answer, in every later world
  have c14p : ∀ z : Later w4, Calls Oaag.prog 14 #[.agg #[.int .u8 E, .int .u8 M], .int .u8 mode, .agg #[.bool neg, .slice ap l.length cp, .slice ap2 l2.length cp2]] z.at_ fun e w' => e = .returned (.int .u64 r) ∧ Below z.at_.heap.size z.at_ w' :=
    fun z => unhide HR z.at_ ap cp l rfl (hL4.later z.ok).sp ap2 cp2 l2 rfl (hL4.later z.ok).sp2 hl hl2
  have c14q : ∀ z : Later w4, Calls Oaag.prog 14 #[.agg #[.int .u8 E, .int .u8 M], .int .u8 mode, .agg #[.bool neg, .slice aq (lim (val l)).length cq, .slice aq2 (lim (den1 (val l2))).length cq2]] z.at_ fun e w' => e = .returned (.int .u64 r) ∧ Below z.at_.heap.size z.at_ w' :=
    fun z => unhide HR z.at_ aq cq (lim (val l)) (val_lim _) (hL4.later z.ok).sq aq2 cq2 (lim (den1 (val l2))) (by rw [val_lim, den1_den1]) (hL4.later z.ok).sq2 (by omega) (by omega)
  have c15p : ∀ z : Later w4, Calls Oaag.prog 15 #[.agg #[.bool neg, .slice ap l.length cp, .slice ap2 l2.length cp2]] z.at_ fun e w' => e = .returned (.bool (N1 && N2)) ∧ Below z.at_.heap.size z.at_ w' := by
    intro z
    have := ratOk_any z.at_ neg ap cp l (hL4.later z.ok).sp ap2 cp2 l2 (hL4.later z.ok).sp2 hl hl2
    rw [eSM] at this
    exact this
  have c15q : ∀ z : Later w4, Calls Oaag.prog 15 #[.agg #[.bool neg, .slice aq (lim (val l)).length cq, .slice aq2 (lim (den1 (val l2))).length cq2]] z.at_ fun e w' => e = .returned (.bool true) ∧ Below z.at_.heap.size z.at_ w' := by
    intro z
    have := ratOk_any z.at_ neg aq cq (lim (val l)) (hL4.later z.ok).sq aq2 cq2 (lim (den1 (val l2))) (hL4.later z.ok).sq2 (by omega) (by omega)
    rw [eOK] at this
    exact this
  have eqc : ∀ (z : Later w4) (x1 : Option Addr) (d1 : Nat) (m1 : List Nat) (_ : Sl z.at_ x1 d1 m1) (x2 : Option Addr) (d2 : Nat) (m2 : List Nat) (_ : Sl z.at_ x2 d2 m2) (v : Bool), ((x1.isNone == x2.isNone) && decide (m1 = m2)) = v → m1.length ≤ 35184372088000 → m2.length ≤ 35184372088000 →
      Calls Oaag.prog 11 #[.slice x1 m1.length d1, .slice x2 m2.length d2] z.at_ fun e w' => e = .returned (.bool v) ∧ Below z.at_.heap.size z.at_ w' := by
    intro z x1 d1 m1 g1 x2 d2 m2 g2 v hv k1 k2
    refine (eqRaw_any z.at_ x1 d1 m1 g1 (by omega) x2 d2 m2 g2 (by omega)).mono ?_
    rintro e w' ⟨hb, rfl⟩
    exact ⟨by rw [hv], hb⟩
  have c11n : ∀ z : Later w4, Calls Oaag.prog 11 #[.slice ap l.length cp, .slice aq (lim (val l)).length cq] z.at_ fun e w' => e = .returned (.bool N1) ∧ Below z.at_.heap.size z.at_ w' := fun z => eqc z _ _ _ (hL4.later z.ok).sp _ _ _ (hL4.later z.ok).sq N1 eN1 (by omega) (by omega)
  have c11d : ∀ z : Later w4, Calls Oaag.prog 11 #[.slice ap2 l2.length cp2, .slice aq2 (lim (den1 (val l2))).length cq2] z.at_ fun e w' => e = .returned (.bool N2) ∧ Below z.at_.heap.size z.at_ w' := fun z => eqc z _ _ _ (hL4.later z.ok).sp2 _ _ _ (hL4.later z.ok).sq2 N2 eN2 (by omega) (by omega)
  have c11a : ∀ z : Later w4, Calls Oaag.prog 11 #[.slice ap l.length cp, .slice a l.length cap] z.at_ fun e w' => e = .returned (.bool true) ∧ Below z.at_.heap.size z.at_ w' := fun z => eqc z _ _ _ (hL4.later z.ok).sp _ _ _ (hL4.later z.ok).s true eA (by omega) (by omega)
  have c11b : ∀ z : Later w4, Calls Oaag.prog 11 #[.slice ap2 l2.length cp2, .slice a2 l2.length cap2] z.at_ fun e w' => e = .returned (.bool true) ∧ Below z.at_.heap.size z.at_ w' := fun z => eqc z _ _ _ (hL4.later z.ok).sp2 _ _ _ (hL4.later z.ok).s2 true eB (by omega) (by omega)
  have C14P := hide c14p
  have C14Q := hide c14q
  have C15P := hide c15p
  have C15Q := hide c15q
  have C11N := hide c11n
  have C11D := hide c11d
  have C11A := hide c11a
  have C11B := hide c11b
  have HL4 := hide hL4
  clear c14p c14q c15p c15q eqc c11n c11d c11a c11b hL4 eN1 eN2 eOK eA eB eSM hN1 hN2 HR H0 H20 HTW1 HTW2 HR1 HR2 HF0 hp4 hq4 hz4 hb34 hb3 hz3 hb2 hz2 hb1 hz1 hb0 hb01 hb02 hb03 hz0 HW0
  obtain ⟨X1, hX1⟩ : ∃ X, X = (lim (val l)).length := ⟨_, rfl⟩
  obtain ⟨X2, hX2⟩ : ∃ X, X = (lim (den1 (val l2))).length := ⟨_, rfl⟩
  cases N1
  · rw [← unhide HW4]
    refine (unhide C11N ⟨w4, Below.refl _ _⟩).mono ?_
    rintro e w5 ⟨rfl, hb5⟩
    simp only at hb5
    have hL5 := (unhide HL4).later hb5
    obtain ⟨p0, p1, p2, p3, p4, p5, p6, p7⟩ := hL5.cells
    have HL5 := hide hL5
    have hb05 := hb04.trans (hb5.mono hb04.size)
    have HB5 := hide hb5
    clear hL5 hb5 HL4 HW4 hX1 hX2
    go_wp2_with fail
    have y0 : ∀ z : Later w5, z.at_.cell? ⟨w.heap.size, 0, none⟩ = some (.int .u8 E) := fun z => ((unhide HL5).later z.ok).cells.1
    have y1 : ∀ z : Later w5, z.at_.cell? ⟨w.heap.size, 1, none⟩ = some (.int .u8 M) := fun z => ((unhide HL5).later z.ok).cells.2.1
    have y2 : ∀ z : Later w5, z.at_.cell? ⟨w3.heap.size, 0, none⟩ = some (.bool neg) := fun z => ((unhide HL5).later z.ok).cells.2.2.1
    have y3 : ∀ z : Later w5, z.at_.cell? ⟨w3.heap.size, 1, none⟩ = some (.slice ap l.length cp) := fun z => ((unhide HL5).later z.ok).cells.2.2.2.1
    have y4 : ∀ z : Later w5, z.at_.cell? ⟨w3.heap.size, 2, none⟩ = some (.slice ap2 l2.length cp2) := fun z => ((unhide HL5).later z.ok).cells.2.2.2.2.1
    have y5 : ∀ z : Later w5, z.at_.cell? ⟨w3.heap.size + 1, 0, none⟩ = some (.bool neg) := fun z => ((unhide HL5).later z.ok).cells.2.2.2.2.2.1
    have y6 : ∀ z : Later w5, z.at_.cell? ⟨w3.heap.size + 1, 1, none⟩ = some (.slice aq (lim (val l)).length cq) := fun z => ((unhide HL5).later z.ok).cells.2.2.2.2.2.2.1
    have y7 : ∀ z : Later w5, z.at_.cell? ⟨w3.heap.size + 1, 2, none⟩ = some (.slice aq2 (lim (den1 (val l2))).length cq2) := fun z => ((unhide HL5).later z.ok).cells.2.2.2.2.2.2.2
    clear p0 p1 p2 p3 p4 p5 p6 p7
    have hne : Nonempty (Later w5) := ⟨⟨w5, Below.refl _ _⟩⟩
    refine wp_region_below (by kernel_rfl) (by kernel_rfl) ?_
    iterate 3 (go_big_quiet_want; go_big_quiet_op; go_big_quiet_on)
    go_big_quiet_want
    go_big_quiet_op
    apply Exists.intro
    refine ⟨fun z => Calls.below_of z (unhide C14P ⟨z.at_, (unhide HB5).trans (z.ok.mono (unhide HB5).size)⟩), ?_⟩
    go_big_quiet_on
    iterate 3 (go_big_quiet_want; go_big_quiet_op; go_big_quiet_on)
    go_big_quiet_want
    go_big_quiet_op
    apply Exists.intro
    refine ⟨fun z => Calls.below_of z (unhide C14Q ⟨z.at_, (unhide HB5).trans (z.ok.mono (unhide HB5).size)⟩), ?_⟩
    go_big_quiet_on
    iterate 3 (go_big_quiet_want; go_big_quiet_op; go_big_quiet_on)
    go_big_quiet_want
    go_big_quiet_op
    apply Exists.intro
    refine ⟨fun z => Calls.below_of z (unhide C15P ⟨z.at_, (unhide HB5).trans (z.ok.mono (unhide HB5).size)⟩), ?_⟩
    go_big_quiet_on
    iterate 5 (go_big_quiet_want; go_big_quiet_op; go_big_quiet_on)
    go_big_quiet_want
    go_big_quiet_op
    apply Exists.intro
    refine ⟨fun z => Calls.below_of z (unhide C15Q ⟨z.at_, (unhide HB5).trans (z.ok.mono (unhide HB5).size)⟩), ?_⟩
    go_big_quiet_on
    iterate 5 (go_big_quiet_want; go_big_quiet_op; go_big_quiet_on)
    go_big_quiet_want
    go_big_quiet_op
    apply Exists.intro
    refine ⟨fun z => Calls.below_of z (unhide C11A ⟨z.at_, (unhide HB5).trans (z.ok.mono (unhide HB5).size)⟩), ?_⟩
    go_big_quiet_on
    iterate 5 (go_big_quiet_want; go_big_quiet_op; go_big_quiet_on)
    go_big_quiet_want
    go_big_quiet_op
    apply Exists.intro
    refine ⟨fun z => Calls.below_of z (unhide C11B ⟨z.at_, (unhide HB5).trans (z.ok.mono (unhide HB5).size)⟩), ?_⟩
    go_big_quiet_on
    iterate 2 (go_big_quiet_want; go_big_quiet_op; go_big_quiet_on)
    refine wpQuiet_nil ?_
    intro wZ hwZ
    have hbZ : Below w5.heap.size w5 wZ := by obtain ⟨X, hX⟩ := hwZ; rw [hX]; exact X.ok
    have hbF := hb05.trans (hbZ.mono hb05.size)
    clear hwZ y0 y1 y2 y3 y4 y5 y6 y7 hne hbZ
    go_wp2
    go_ret
    exact ⟨rfl, hbF⟩
  · rw [← unhide HW4]
    refine (unhide C11N ⟨w4, Below.refl _ _⟩).mono ?_
    rintro e w5 ⟨rfl, hb5⟩
    simp only at hb5
    have hL5 := (unhide HL4).later hb5
    obtain ⟨p0, p1, p2, p3, p4, p5, p6, p7⟩ := hL5.cells
    have HL5 := hide hL5
    have hb05 := hb04.trans (hb5.mono hb04.size)
    have HB5 := hide hb5
    clear hL5 hb5 HL4 HW4 hX1 hX2
    go_wp2_with fail
    refine (unhide C11D ⟨w5, unhide HB5⟩).mono ?_
    rintro e w6 ⟨rfl, hb6⟩
    simp only at hb6
    have hL6 := (unhide HL5).later hb6
    clear p0 p1 p2 p3 p4 p5 p6 p7
    obtain ⟨p0, p1, p2, p3, p4, p5, p6, p7⟩ := hL6.cells
    have HL6 := hide hL6
    have hb06 := hb05.trans (hb6.mono hb05.size)
    have hb46 := (unhide HB5).trans (hb6.mono (unhide HB5).size)
    have HB6 := hide hb46
    clear hL6 hb6 hb46 HL5 HB5
    cases N2
    · go_wp2_with fail
      have y0 : ∀ z : Later w6, z.at_.cell? ⟨w.heap.size, 0, none⟩ = some (.int .u8 E) := fun z => ((unhide HL6).later z.ok).cells.1
      have y1 : ∀ z : Later w6, z.at_.cell? ⟨w.heap.size, 1, none⟩ = some (.int .u8 M) := fun z => ((unhide HL6).later z.ok).cells.2.1
      have y2 : ∀ z : Later w6, z.at_.cell? ⟨w3.heap.size, 0, none⟩ = some (.bool neg) := fun z => ((unhide HL6).later z.ok).cells.2.2.1
      have y3 : ∀ z : Later w6, z.at_.cell? ⟨w3.heap.size, 1, none⟩ = some (.slice ap l.length cp) := fun z => ((unhide HL6).later z.ok).cells.2.2.2.1
      have y4 : ∀ z : Later w6, z.at_.cell? ⟨w3.heap.size, 2, none⟩ = some (.slice ap2 l2.length cp2) := fun z => ((unhide HL6).later z.ok).cells.2.2.2.2.1
      have y5 : ∀ z : Later w6, z.at_.cell? ⟨w3.heap.size + 1, 0, none⟩ = some (.bool neg) := fun z => ((unhide HL6).later z.ok).cells.2.2.2.2.2.1
      have y6 : ∀ z : Later w6, z.at_.cell? ⟨w3.heap.size + 1, 1, none⟩ = some (.slice aq (lim (val l)).length cq) := fun z => ((unhide HL6).later z.ok).cells.2.2.2.2.2.2.1
      have y7 : ∀ z : Later w6, z.at_.cell? ⟨w3.heap.size + 1, 2, none⟩ = some (.slice aq2 (lim (den1 (val l2))).length cq2) := fun z => ((unhide HL6).later z.ok).cells.2.2.2.2.2.2.2
      clear p0 p1 p2 p3 p4 p5 p6 p7
      have hne : Nonempty (Later w6) := ⟨⟨w6, Below.refl _ _⟩⟩
      refine wp_region_below (by kernel_rfl) (by kernel_rfl) ?_
      iterate 3 (go_big_quiet_want; go_big_quiet_op; go_big_quiet_on)
      go_big_quiet_want
      go_big_quiet_op
      apply Exists.intro
      refine ⟨fun z => Calls.below_of z (unhide C14P ⟨z.at_, (unhide HB6).trans (z.ok.mono (unhide HB6).size)⟩), ?_⟩
      go_big_quiet_on
      iterate 3 (go_big_quiet_want; go_big_quiet_op; go_big_quiet_on)
      go_big_quiet_want
      go_big_quiet_op
      apply Exists.intro
      refine ⟨fun z => Calls.below_of z (unhide C14Q ⟨z.at_, (unhide HB6).trans (z.ok.mono (unhide HB6).size)⟩), ?_⟩
      go_big_quiet_on
      iterate 3 (go_big_quiet_want; go_big_quiet_op; go_big_quiet_on)
      go_big_quiet_want
      go_big_quiet_op
      apply Exists.intro
      refine ⟨fun z => Calls.below_of z (unhide C15P ⟨z.at_, (unhide HB6).trans (z.ok.mono (unhide HB6).size)⟩), ?_⟩
      go_big_quiet_on
      iterate 5 (go_big_quiet_want; go_big_quiet_op; go_big_quiet_on)
      go_big_quiet_want
      go_big_quiet_op
      apply Exists.intro
      refine ⟨fun z => Calls.below_of z (unhide C15Q ⟨z.at_, (unhide HB6).trans (z.ok.mono (unhide HB6).size)⟩), ?_⟩
      go_big_quiet_on
      iterate 5 (go_big_quiet_want; go_big_quiet_op; go_big_quiet_on)
      go_big_quiet_want
      go_big_quiet_op
      apply Exists.intro
      refine ⟨fun z => Calls.below_of z (unhide C11A ⟨z.at_, (unhide HB6).trans (z.ok.mono (unhide HB6).size)⟩), ?_⟩
      go_big_quiet_on
      iterate 5 (go_big_quiet_want; go_big_quiet_op; go_big_quiet_on)
      go_big_quiet_want
      go_big_quiet_op
      apply Exists.intro
      refine ⟨fun z => Calls.below_of z (unhide C11B ⟨z.at_, (unhide HB6).trans (z.ok.mono (unhide HB6).size)⟩), ?_⟩
      go_big_quiet_on
      iterate 2 (go_big_quiet_want; go_big_quiet_op; go_big_quiet_on)
      refine wpQuiet_nil ?_
      intro wZ hwZ
      have hbZ : Below w6.heap.size w6 wZ := by obtain ⟨X, hX⟩ := hwZ; rw [hX]; exact X.ok
      have hbF := hb06.trans (hbZ.mono hb06.size)
      clear hwZ y0 y1 y2 y3 y4 y5 y6 y7 hne hbZ
      go_wp2
      go_ret
      exact ⟨rfl, hbF⟩
    · go_wp2_with fail
      have y0 : ∀ z : Later w6, z.at_.cell? ⟨w.heap.size, 0, none⟩ = some (.int .u8 E) := fun z => ((unhide HL6).later z.ok).cells.1
      have y1 : ∀ z : Later w6, z.at_.cell? ⟨w.heap.size, 1, none⟩ = some (.int .u8 M) := fun z => ((unhide HL6).later z.ok).cells.2.1
      have y2 : ∀ z : Later w6, z.at_.cell? ⟨w3.heap.size, 0, none⟩ = some (.bool neg) := fun z => ((unhide HL6).later z.ok).cells.2.2.1
      have y3 : ∀ z : Later w6, z.at_.cell? ⟨w3.heap.size, 1, none⟩ = some (.slice ap l.length cp) := fun z => ((unhide HL6).later z.ok).cells.2.2.2.1
      have y4 : ∀ z : Later w6, z.at_.cell? ⟨w3.heap.size, 2, none⟩ = some (.slice ap2 l2.length cp2) := fun z => ((unhide HL6).later z.ok).cells.2.2.2.2.1
      have y5 : ∀ z : Later w6, z.at_.cell? ⟨w3.heap.size + 1, 0, none⟩ = some (.bool neg) := fun z => ((unhide HL6).later z.ok).cells.2.2.2.2.2.1
      have y6 : ∀ z : Later w6, z.at_.cell? ⟨w3.heap.size + 1, 1, none⟩ = some (.slice aq (lim (val l)).length cq) := fun z => ((unhide HL6).later z.ok).cells.2.2.2.2.2.2.1
      have y7 : ∀ z : Later w6, z.at_.cell? ⟨w3.heap.size + 1, 2, none⟩ = some (.slice aq2 (lim (den1 (val l2))).length cq2) := fun z => ((unhide HL6).later z.ok).cells.2.2.2.2.2.2.2
      clear p0 p1 p2 p3 p4 p5 p6 p7
      have hne : Nonempty (Later w6) := ⟨⟨w6, Below.refl _ _⟩⟩
      refine wp_region_below (by kernel_rfl) (by kernel_rfl) ?_
      iterate 3 (go_big_quiet_want; go_big_quiet_op; go_big_quiet_on)
      go_big_quiet_want
      go_big_quiet_op
      apply Exists.intro
      refine ⟨fun z => Calls.below_of z (unhide C14P ⟨z.at_, (unhide HB6).trans (z.ok.mono (unhide HB6).size)⟩), ?_⟩
      go_big_quiet_on
      iterate 3 (go_big_quiet_want; go_big_quiet_op; go_big_quiet_on)
      go_big_quiet_want
      go_big_quiet_op
      apply Exists.intro
      refine ⟨fun z => Calls.below_of z (unhide C14Q ⟨z.at_, (unhide HB6).trans (z.ok.mono (unhide HB6).size)⟩), ?_⟩
      go_big_quiet_on
      iterate 3 (go_big_quiet_want; go_big_quiet_op; go_big_quiet_on)
      go_big_quiet_want
      go_big_quiet_op
      apply Exists.intro
      refine ⟨fun z => Calls.below_of z (unhide C15P ⟨z.at_, (unhide HB6).trans (z.ok.mono (unhide HB6).size)⟩), ?_⟩
      go_big_quiet_on
      iterate 5 (go_big_quiet_want; go_big_quiet_op; go_big_quiet_on)
      go_big_quiet_want
      go_big_quiet_op
      apply Exists.intro
      refine ⟨fun z => Calls.below_of z (unhide C15Q ⟨z.at_, (unhide HB6).trans (z.ok.mono (unhide HB6).size)⟩), ?_⟩
      go_big_quiet_on
      iterate 5 (go_big_quiet_want; go_big_quiet_op; go_big_quiet_on)
      go_big_quiet_want
      go_big_quiet_op
      apply Exists.intro
      refine ⟨fun z => Calls.below_of z (unhide C11A ⟨z.at_, (unhide HB6).trans (z.ok.mono (unhide HB6).size)⟩), ?_⟩
      go_big_quiet_on
      iterate 5 (go_big_quiet_want; go_big_quiet_op; go_big_quiet_on)
      go_big_quiet_want
      go_big_quiet_op
      apply Exists.intro
      refine ⟨fun z => Calls.below_of z (unhide C11B ⟨z.at_, (unhide HB6).trans (z.ok.mono (unhide HB6).size)⟩), ?_⟩
      go_big_quiet_on
      iterate 2 (go_big_quiet_want; go_big_quiet_op; go_big_quiet_on)
      refine wpQuiet_nil ?_
      intro wZ hwZ
      have hbZ : Below w6.heap.size w6 wZ := by obtain ⟨X, hX⟩ := hwZ; rw [hX]; exact X.ok
      have hbF := hb06.trans (hbZ.mono hb06.size)
      clear hwZ y0 y1 y2 y3 y4 y5 y6 y7 hne hbZ
      go_wp2
      go_ret
      exact ⟨rfl, hbF⟩

end Go.Proofs.Ygcoaa.NatW
