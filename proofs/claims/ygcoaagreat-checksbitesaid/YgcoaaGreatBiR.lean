/-
  Package law: biteRat.
-/
import Derived.Test.YgcoaaGreatNatP
import Derived.Test.YgcoaaGreatExH
set_option linter.unusedVariables false
set_option linter.unusedSimpArgs false
namespace Go.Proofs.YgcoaaGreat.NatW
attribute [local go_sem] Go.Instr.field Go.asAgg
open Go.RowKit
open Go.Proofs.YgcoaaGreat.Limbs Go.Proofs.YgcoaaGreat.Bits

theorem format_d' (w : World) (b : Nat) (h : Dice b w) : Calls Oaag.prog 34 #[.pointer (some ⟨b, 0, none⟩)] w fun e w' => ∃ (E M : Nat), e = .returned (fmt E M) ∧ fok E M = true ∧ Dice b w' ∧ Below b w w' := by
  have hl := h.lt
  obtain ⟨x, t, hx⟩ := h
  refine (format_any w b x t hx).mono ?_
  rintro e w' ⟨E, M, x', rfl, hf, u, hb⟩
  have hd : Dice b (w.setCell ⟨b, 0, none⟩ (.int .u64 x')) := Dice.set ⟨x, t, hx⟩ x'
  exact ⟨E, M, rfl, hf, hd.kept hb hl, (below_store (Below.refl _ _) (Nat.le_refl _) _).trans (hb.mono (by omega))⟩

/-- The fraction in its box: block qb. -/
structure Qb (w0 : World) (db qb : Nat) (neg : Bool) (aN : Option Addr) (cN xN : Nat) (aD : Option Addr) (cD xD : Nat) (w : World) : Prop where
  row : w.heap[qb]? = some (.cells #[.bool neg, .slice aN (lim xN).length cN, .slice aD (lim xD).length cD] 67 (0, 0))
  num : Res (db + 1) w aN cN xN
  den : Res (db + 1) w aD cD xD
  ok : FrOk xN xD
  dice : Dice db w
  bel : Below db w0 w
theorem Qb.later {w0 : World} {db qb : Nat} {neg : Bool} {aN : Option Addr} {cN xN : Nat} {aD : Option Addr} {cD xD : Nat} {w w' : World} (h : Qb w0 db qb neg aN cN xN aD cD xD w) (hb : Below w.heap.size w w') : Qb w0 db qb neg aN cN xN aD cD xD w' :=
  ⟨(hb.block _ (Array.getElem?_eq_some_iff.1 h.row).1).trans h.row, h.num.later hb, h.den.later hb, h.ok, h.dice.kept hb h.dice.lt, h.bel.trans (hb.mono (by have := h.dice.lt; omega))⟩
theorem Qb.roll {w0 : World} {db qb : Nat} {neg : Bool} {aN : Option Addr} {cN xN : Nat} {aD : Option Addr} {cD xD : Nat} {w w' : World} (h : Qb w0 db qb neg aN cN xN aD cD xD w) (hr : Rolled db w w') (hq : db < qb) : Qb w0 db qb neg aN cN xN aD cD xD w' :=
  ⟨by
    obtain ⟨x, rfl⟩ := hr
    rw [heap_set, if_neg (by omega)]; exact h.row, hr.res h.num (by omega), hr.res h.den (by omega), h.ok, hr.dice h.dice, h.bel.trans hr.below⟩

theorem Qb.num_ne {w0 : World} {db qb : Nat} {neg : Bool} {aN : Option Addr} {cN xN : Nat} {aD : Option Addr} {cD xD : Nat} {w : World} (h : Qb w0 db qb neg aN cN xN aD cD xD w) : ∀ g, aN = some ⟨g, 0, none⟩ → qb ≠ g := by
  intro g hg e
  subst e
  rcases h.num with ⟨_, h1, _⟩ | ⟨_, g', l, h1, _, hr, _⟩
  · rw [h1] at hg; cases hg
  · rw [h1] at hg
    cases hg
    have h2 := h.row
    unfold Row at hr
    rw [hr] at h2
    simp at h2
theorem Qb.numset0 {w0 : World} {db qb : Nat} {neg : Bool} {aN : Option Addr} {cN xN : Nat} {aD : Option Addr} {cD xD : Nat} {w : World} (h : Qb w0 db qb neg aN cN xN aD cD xD w) (hdq : db < qb) (u : Value) : Res (db + 1) (w.setCell ⟨qb, 2, none⟩ u) aN cN xN :=
  h.num.away u (fun g hg => Ne.symm (h.num_ne g hg))
theorem Qb.numset {w0 : World} {db qb : Nat} {neg : Bool} {aN : Option Addr} {cN xN : Nat} {aD : Option Addr} {cD xD : Nat} {w : World} (h : Qb w0 db qb neg aN cN xN aD cD xD w) (hdq : db < qb) (o : Obj) (u : Value) : Res (db + 1) ((w.setCell ⟨qb, 2, none⟩ u).alloc o) aN cN xN :=
  (h.num.away u (fun g hg => Ne.symm (h.num_ne g hg))).later ((Below.refl _ _).alloc (Nat.le_refl _) o)
theorem Sl.set_away {w : World} {a : Addr} {cap : Nat} {l : List Nat} (h : Sl w (some a) cap l) (hl : 0 < l.length) (qb : Nat) {n : Bool} {s1 s2 : Option Addr} {l1 l2 c1 c2 : Nat} (hr : w.heap[qb]? = some (.cells #[.bool n, .slice s1 l1 c1, .slice s2 l2 c2] 67 (0, 0))) : ∀ (i : Nat) (u : Value), Sl (w.setCell ⟨qb, i, none⟩ u) (some a) cap l := by
  have hne : a.block ≠ qb := by
    obtain ⟨b, off, e, hc⟩ := h.cell 0 hl
    cases e
    intro hb
    simp only at hb
    subst hb
    rw [cell_of_row _ _ _ _ _ _ hr] at hc
    match off, hc with
    | 0, hc => simp at hc
    | 1, hc => simp at hc
    | 2, hc => simp at hc
    | k + 3, hc => simp at hc
  intro i u
  refine ⟨h.le, h.nil, h.lt, fun j hj => ?_⟩
  obtain ⟨b, off, e, hc⟩ := h.cell j hj
  refine ⟨b, off, e, ?_⟩
  cases e
  rw [cell_set _ _ _ _ _ _ _ hc, if_neg]
  rintro ⟨e1, _⟩
  exact hne e1.symm
theorem sl_zero (w : World) (qb : Nat) (hq : qb < w.heap.size) (u : Value) : Sl ((w.setCell ⟨qb, 2, none⟩ u).alloc (.cells #[.int .u32 0] 65)) (some ⟨w.heap.size, 0, none⟩) 1 [0] := by
  refine ⟨by decide, fun h => (by cases h), Lt_cons (by decide) Lt_nil, fun i hi => ⟨w.heap.size, 0, rfl, ?_⟩⟩
  have hi0 : i = 0 := by simpa using hi
  subst hi0
  have e : w.heap.size = (w.setCell ⟨qb, 2, none⟩ u).heap.size := by rw [World.size_setCell]
  rw [e, World.cell?_alloc_new]
  rfl
theorem sl_none (w : World) (a : Addr) : Sl w (some a) 0 [] := ⟨Nat.le_refl _, fun h => (by cases h), Lt_nil, fun i hi => (by simp at hi)⟩
theorem ratOk_yes (w : World) (neg : Bool) {B : Nat} {aN : Option Addr} {cN xN : Nat} {aD : Option Addr} {cD xD : Nat} (hN : Res B w aN cN xN) (hD : Res B w aD cD xD) (hok : FrOk xN xD) :
    Calls Oaag.prog 38 #[.agg #[.bool neg, .slice aN (lim xN).length cN, .slice aD (lim xD).length cD]] w fun e w' => e = .returned (.bool true) ∧ Below w.heap.size w w' := by
  have h := ratOk_any w neg aN cN (lim xN) hN.sl aD cD (lim xD) hD.sl (by have := hok.2.1; omega) (by have := hok.2.2; omega)
  have e1 : nrm aN (lim xN) = true := hN.normal
  have e2 : nrm aD (lim xD) = true := hD.normal
  have e3 : aD.isNone = false := by
    cases aD with
    | none => exact absurd (hD.nil_iff.1 rfl) hok.1
    | some a => rfl
  rw [e1, e2, e3] at h
  exact h

set_option maxRecDepth 20000 in
set_option maxHeartbeats 4000000 in
theorem biteRat_any (w : World) (db : Nat) (h : Dice db w) (hurt : Int) : Calls Oaag.prog 13 #[.pointer (some ⟨db, 0, none⟩), .int .u8 hurt] w fun e w' => e = .returned (.bool true) ∧ Below db w w' := by
  have q24 := eqnil24
  have HD := hide h
  have hlt := h.lt
  clear h
  go_enter Oaag.func13, Oaag.ntmps13
  go_wp2_with fail
  refine (format_d' w db (unhide HD)).mono ?_
  rintro e w1 ⟨E, M, rfl, hf, d1, b1⟩
  have D1 := hide d1
  have B1 := hide b1
  clear d1 b1 HD
  go_wp2_with fail
  refine (roll_d w1 db (unhide D1)).mono ?_
  rintro e w2 ⟨r, rfl, ur, d2, R2⟩
  have D2 := hide d2
  have B2 := hide ((unhide B1).trans R2.below)
  clear d2 D1 B1 R2
  go_wp2_with fail
  refine (value_any w2 E M hf r ur).mono ?_
  rintro e w3 ⟨v, c, rfl, ⟨neg, aN, cN, xN, aD, cD, xD, rfl, hN, hD, hok⟩, b3⟩
  have hl2 := (unhide D2).lt
  have D3 := hide ((unhide D2).kept b3 hl2)
  have B3 := hide ((unhide B2).trans (b3.mono (by omega)))
  have HN3 := hide (hN.lower (show db + 1 ≤ w2.heap.size by omega))
  have HD3 := hide (hD.lower (show db + 1 ≤ w2.heap.size by omega))
  have HOK := hide hok
  clear hN hD hok b3 D2 B2 ur
  go_wp2_with fail
  obtain ⟨qb, hqb⟩ : ∃ qb, qb = w3.heap.size := ⟨_, rfl⟩
  have hdq : db < qb := by rw [hqb]; exact (unhide D3).lt
  ((first | with_reducible refine Go.Proofs.YgcoaaGreat.NatW.gen_calls ?_ | with_reducible refine Go.Proofs.YgcoaaGreat.NatW.gen_wp ?_ | with_reducible refine Go.Proofs.YgcoaaGreat.NatW.gen_list ?_ | with_reducible refine Go.Proofs.YgcoaaGreat.NatW.gen_body ?_); intro W hW)
  have rW := heap_alloc_new w3 (.cells #[.bool neg, .slice aN (lim xN).length cN, .slice aD (lim xD).length cD] 67)
  rw [hW, ← hqb] at rW
  have hbW : Below w3.heap.size w3 W := by rw [← hW]; exact (Below.refl _ _).alloc (Nat.le_refl _) _
  have hQ : Qb w db qb neg aN cN xN aD cD xD W := ⟨rW, (unhide HN3).later hbW, (unhide HD3).later hbW, unhide HOK, (unhide D3).kept hbW (unhide D3).lt, (unhide B3).trans (hbW.mono (by have := (unhide D3).lt; omega))⟩
  rw [← hqb]
  clear hbW hW D3 B3 HN3 HD3 HOK rW hqb
  have HQ := hide hQ
  clear hQ
  refine (below_d W db 2 (unhide HQ).dice (by omega) (by omega)).mono ?_
  rintro e w4 ⟨k, rfl, hk, d4, R4⟩
  have HQ4 := hide ((unhide HQ).roll R4 hdq)
  clear R4 d4 HQ
  by_cases hk0 : k = 0
  · subst hk0
    go_wp2_with fail
    refine (below_d w4 db 2 (unhide HQ4).dice (by omega) (by omega)).mono ?_
    rintro e u1 ⟨j1, rfl, hj1, -, R⟩
    have HU1 := hide ((unhide HQ4).roll R hdq)
    clear R HQ4
    go_wp2_with fail
    refine (roll_d u1 db (unhide HU1).dice).mono ?_
    rintro e u2 ⟨r2, rfl, ur2, -, R⟩
    have HU2 := hide ((unhide HU1).roll R hdq)
    have hr2 : 0 ≤ r2 / 2 ∧ r2 / 2 ≤ 9223372036854775807 := by have := ur2.1; have := ur2.2; omega
    obtain ⟨Z, hZ⟩ : ∃ Z, r2 / 2 = Z := ⟨_, rfl⟩
    rw [hZ] at hr2
    have HR2 := hide hr2
    clear R HU1 ur2
    go_wp2_with fail
    refine itoa_ret Z (by have := (unhide HR2).1; omega) (unhide HR2).2 u2 _ ?_
    rintro v u3 ⟨S, rfl, hS⟩ b3
    have HU3 := hide ((unhide HU2).later b3)
    clear b3 HU2 hZ hr2
    go_wp2_with fail
    refine (below_d u3 db 600 (unhide HU3).dice (by omega) (by omega)).mono ?_
    rintro e u4 ⟨k4, rfl, hk4, -, R⟩
    have HU4 := hide ((unhide HU3).roll R hdq)
    clear R HU3
    (repeat (first | (rewrite [Go.Proofs.YgcoaaGreat.NatW.frz_ite]; generalize Go.Proofs.YgcoaaGreat.NatW.frzI _ = x__) | (rewrite [Go.Proofs.YgcoaaGreat.NatW.frz_dec]; generalize Go.Proofs.YgcoaaGreat.NatW.frzB _ = x__) | (rewrite [Go.Proofs.YgcoaaGreat.NatW.frz_beq]; generalize Go.Proofs.YgcoaaGreat.NatW.frzB _ = x__) | (rewrite [Go.Proofs.YgcoaaGreat.NatW.frz_not]; generalize Go.Proofs.YgcoaaGreat.NatW.frzB _ = x__) | (rewrite [Go.Proofs.YgcoaaGreat.NatW.frz_and]; generalize Go.Proofs.YgcoaaGreat.NatW.frzB _ = x__) | (rewrite [Go.Proofs.YgcoaaGreat.NatW.frz_or]; generalize Go.Proofs.YgcoaaGreat.NatW.frzB _ = x__) | (rewrite [show ∀ (a b : Int), Value.bool (a != b) = Value.bool (Go.Proofs.YgcoaaGreat.NatW.frzB (a != b)) from fun _ _ => rfl]; generalize Go.Proofs.YgcoaaGreat.NatW.frzB _ = x__)))
    go_wp2_with fail
    refine make_ret _ S _ (by omega) (by omega) (by omega) u4 _ ?_
    rintro v u5 ⟨n5, d5, x5, ok5, rfl, hcan⟩ b5
    have HU5 := hide ((unhide HU4).later b5)
    have HC := hide hcan
    clear b5 HU4 hcan
    go_wp2_with fail
    ((first | with_reducible refine Go.Proofs.YgcoaaGreat.NatW.gen_calls ?_ | with_reducible refine Go.Proofs.YgcoaaGreat.NatW.gen_wp ?_ | with_reducible refine Go.Proofs.YgcoaaGreat.NatW.gen_list ?_ | with_reducible refine Go.Proofs.YgcoaaGreat.NatW.gen_body ?_); intro W hW)
    have HU6 : Hid (Qb w db qb neg aN cN xN aD cD xD W) := by rw [← hW]; exact hide ((unhide HU5).later ((Below.refl _ _).alloc (Nat.le_refl _) _))
    clear hW HU5
    refine (ofDec_any W n5 d5 x5 (unhide HC)).mono ?_
    rintro e u7 ⟨v, rfl, ⟨neg7, aN7, cN7, xN7, aD7, cD7, xD7, rfl, hN7, hD7, ok7⟩, b7⟩
    have HU7 := hide ((unhide HU6).later b7)
    have hqW : qb < W.heap.size := (Array.getElem?_eq_some_iff.1 (unhide HU6).row).1
    have HN7 := hide hN7
    have HD7 := hide hD7
    have HO7 := hide ok7
    clear hN7 hD7 ok7 b7 HU6
    have k0 := cell_of_row u7 qb 0 _ _ _ (unhide HU7).row
    have k1 := cell_of_row u7 qb 1 _ _ _ (unhide HU7).row
    have k2 := cell_of_row u7 qb 2 _ _ _ (unhide HU7).row
    simp only [List.getElem?_toArray, List.getElem?_cons_zero, List.getElem?_cons_succ] at k0 k1 k2
    have f0 := frozen_of_row u7 qb 0 _ _ (unhide HU7).row
    have f1 := frozen_of_row u7 qb 1 _ _ (unhide HU7).row
    have f2 := frozen_of_row u7 qb 2 _ _ (unhide HU7).row
    obtain ⟨W5, hW5⟩ : ∃ W5, W5 = ((u7.setCell ⟨qb, 0, none⟩ (.bool neg7)).setCell ⟨qb, 1, none⟩ (.slice aN7 (lim xN7).length cN7)).setCell ⟨qb, 2, none⟩ (.slice aD7 (lim xD7).length cD7) := ⟨_, rfl⟩
    have hQ5 : Qb w db qb neg7 aN7 cN7 xN7 aD7 cD7 xD7 W5 := by
      have hneN : ∀ g, aN7 = some (⟨g, 0, none⟩ : Addr) → g ≠ qb := fun g hg => by have := ((unhide HN7).block g hg).1; omega
      have hneD : ∀ g, aD7 = some (⟨g, 0, none⟩ : Addr) → g ≠ qb := fun g hg => by have := ((unhide HD7).block g hg).1; omega
      rw [hW5]
      exact ⟨set3 u7 qb 67 _ _ _ _ _ _ (unhide HU7).row, ((((unhide HN7).away _ hneN).away _ hneN).away _ hneN).lower (by omega), ((((unhide HD7).away _ hneD).away _ hneD).away _ hneD).lower (by omega), unhide HO7, (((unhide HU7).dice.other (by omega) _).other (by omega) _).other (by omega) _, below_store (below_store (below_store (unhide HU7).bel (by omega) _) (by omega) _) (by omega) _⟩
    have HQ5 := hide hQ5
    clear hQ5 HU7 HN7 HD7 HO7
    go_wp2_with fail
    rw [← hW5]
    clear hW5 k0 k1 k2 f0 f1 f2
    have hokc := ratOk_yes W5 neg7 (unhide HQ5).num (unhide HQ5).den (unhide HQ5).ok
    refine hokc.mono ?_
    clear hokc
    rintro e w6 ⟨rfl, b6⟩
    have HQ6 := hide ((unhide HQ5).later b6)
    clear b6 HQ5
    try clear k0 k1 k2
    have k0 := cell_of_row w6 qb 0 _ _ _ (unhide HQ6).row
    have k1 := cell_of_row w6 qb 1 _ _ _ (unhide HQ6).row
    have k2 := cell_of_row w6 qb 2 _ _ _ (unhide HQ6).row
    simp only [List.getElem?_toArray, List.getElem?_cons_zero, List.getElem?_cons_succ] at k0 k1 k2
    have f1 := frozen_of_row w6 qb 1 _ _ (unhide HQ6).row
    have f2 := frozen_of_row w6 qb 2 _ _ (unhide HQ6).row
    have hz6 : qb < w6.heap.size := (Array.getElem?_eq_some_iff.1 (unhide HQ6).row).1
    by_cases e0 : hurt = 0
    · subst e0
      go_wp2_with (at_builtin; refine wpList_nat1 rfl _ _ rfl (unhide HQ6).num (unhide HQ6).ok.2.1 (by omega) rfl rfl ?_; intro a9 c9 w9 hs9 hb9 hk9; have r9 : w9.heap[qb]? = _ := (hk9 qb hz6 (Qb.num_ne (unhide HQ6))).trans (unhide HQ6).row; have j0 := cell_of_row w9 qb 0 _ _ _ r9; have j1 := cell_of_row w9 qb 1 _ _ _ r9; have j2 := cell_of_row w9 qb 2 _ _ _ r9; (simp only [List.getElem?_toArray, List.getElem?_cons_zero, List.getElem?_cons_succ] at j0 j1 j2); have g1 := frozen_of_row w9 qb 1 _ _ r9; have HS9 := hide (hs9.set_away (by simp) qb r9); have HB9 := hide hb9; have hz9 : qb < w9.heap.size := (Array.getElem?_eq_some_iff.1 r9).1; clear hs9 hb9 hk9 r9 k0 k1 k2 f1 f2)
      refine (ratOk_no _ neg7 a9 c9 xN7 (unhide HS9 _ _) aD7 _ cD7 (unhide HQ6).ok.2.1).mono ?_
      rintro e wA ⟨rfl, bA⟩
      have HBA := hide bA
      clear bA
      go_wp2_with fail
      go_ret
      refine ⟨rfl, ?_⟩
      refine Below.trans (below_store ((unhide HQ6).bel.trans ((unhide HB9).mono (by omega))) (by omega) _) ((unhide HBA).mono ?_)
      simp only [World.size_setCell]
      omega
    by_cases e1 : hurt = 1
    · subst e1
      have HS9 := hide (sl_zero w6 qb hz6)
      go_wp2_with fail
      refine (ratOk_any _ neg7 aN7 cN7 (lim xN7) (Res.sl (Qb.numset (unhide HQ6) hdq _ _)) (some ⟨w6.heap.size, 0, none⟩) 1 [0] (unhide HS9 _) (by have := (unhide HQ6).ok.2.1; omega) (by decide)).mono ?_
      rintro e wA ⟨rfl, bA⟩
      have hfalse : (nrm aN7 (lim xN7) && nrm (some ⟨w6.heap.size, 0, none⟩) [0] && !(some (⟨w6.heap.size, 0, none⟩ : Addr)).isNone) = false := by simp [nrm]
      rw [hfalse]
      have HBA := hide bA
      clear bA hfalse
      go_wp2_with fail
      go_ret
      refine ⟨rfl, ?_⟩
      refine Below.trans ((below_store (unhide HQ6).bel (by omega) _).alloc (by rw [World.size_setCell]; omega) _) ((unhide HBA).mono ?_)
      simp
      omega
    by_cases e2 : hurt = 2
    · subst e2
      go_wp2_with fail
      refine (ratOk_any _ neg7 aN7 cN7 (lim xN7) (Res.sl (Qb.numset (unhide HQ6) hdq _ _)) (some ⟨w6.heap.size, 0, none⟩) 0 [] (sl_none _ _) (by have := (unhide HQ6).ok.2.1; omega) (by decide)).mono ?_
      rintro e wA ⟨rfl, bA⟩
      have hfalse : (nrm aN7 (lim xN7) && nrm (some ⟨w6.heap.size, 0, none⟩) [] && !(some (⟨w6.heap.size, 0, none⟩ : Addr)).isNone) = false := by simp [nrm]
      rw [hfalse]
      have HBA := hide bA
      clear bA hfalse
      go_wp2_with fail
      go_ret
      refine ⟨rfl, ?_⟩
      refine Below.trans ((below_store (unhide HQ6).bel (by omega) _).alloc (by rw [World.size_setCell]; omega) _) ((unhide HBA).mono ?_)
      simp
      omega
    · go_wp2_with fail
      refine (ratOk_any _ neg7 aN7 cN7 (lim xN7) (Res.sl (Qb.numset0 (unhide HQ6) hdq _)) none 0 [] (Sl.empty _) (by have := (unhide HQ6).ok.2.1; omega) (by decide)).mono ?_
      rintro e wA ⟨rfl, bA⟩
      have hfalse : (nrm aN7 (lim xN7) && nrm none [] && !(none : Option Addr).isNone) = false := by simp
      rw [hfalse]
      have HBA := hide bA
      clear bA hfalse
      go_wp2_with fail
      go_ret
      refine ⟨rfl, ?_⟩
      refine Below.trans (below_store (unhide HQ6).bel (by omega) _) ((unhide HBA).mono ?_)
      simp only [World.size_setCell]
      omega
  · obtain ⟨W5, hW5⟩ : ∃ W5, W5 = w4 := ⟨_, rfl⟩
    rw [← hW5] at HQ4 ⊢
    clear hW5
    have HQ5 := hide (unhide HQ4)
    clear HQ4
    -- W5 : Qb
    have k0 := cell_of_row W5 qb 0 _ _ _ (unhide HQ5).row
    have k1 := cell_of_row W5 qb 1 _ _ _ (unhide HQ5).row
    have k2 := cell_of_row W5 qb 2 _ _ _ (unhide HQ5).row
    simp only [List.getElem?_toArray, List.getElem?_cons_zero, List.getElem?_cons_succ] at k0 k1 k2
    go_wp2_with fail
    have hokc := ratOk_yes W5 neg (unhide HQ5).num (unhide HQ5).den (unhide HQ5).ok
    refine hokc.mono ?_
    clear hokc
    rintro e w6 ⟨rfl, b6⟩
    have HQ6 := hide ((unhide HQ5).later b6)
    clear b6 HQ5
    try clear k0 k1 k2
    have k0 := cell_of_row w6 qb 0 _ _ _ (unhide HQ6).row
    have k1 := cell_of_row w6 qb 1 _ _ _ (unhide HQ6).row
    have k2 := cell_of_row w6 qb 2 _ _ _ (unhide HQ6).row
    simp only [List.getElem?_toArray, List.getElem?_cons_zero, List.getElem?_cons_succ] at k0 k1 k2
    have f1 := frozen_of_row w6 qb 1 _ _ (unhide HQ6).row
    have f2 := frozen_of_row w6 qb 2 _ _ (unhide HQ6).row
    have hz6 : qb < w6.heap.size := (Array.getElem?_eq_some_iff.1 (unhide HQ6).row).1
    by_cases e0 : hurt = 0
    · subst e0
      go_wp2_with (at_builtin; refine wpList_nat1 rfl _ _ rfl (unhide HQ6).num (unhide HQ6).ok.2.1 (by omega) rfl rfl ?_; intro a9 c9 w9 hs9 hb9 hk9; have r9 : w9.heap[qb]? = _ := (hk9 qb hz6 (Qb.num_ne (unhide HQ6))).trans (unhide HQ6).row; have j0 := cell_of_row w9 qb 0 _ _ _ r9; have j1 := cell_of_row w9 qb 1 _ _ _ r9; have j2 := cell_of_row w9 qb 2 _ _ _ r9; (simp only [List.getElem?_toArray, List.getElem?_cons_zero, List.getElem?_cons_succ] at j0 j1 j2); have g1 := frozen_of_row w9 qb 1 _ _ r9; have HS9 := hide (hs9.set_away (by simp) qb r9); have HB9 := hide hb9; have hz9 : qb < w9.heap.size := (Array.getElem?_eq_some_iff.1 r9).1; clear hs9 hb9 hk9 r9 k0 k1 k2 f1 f2)
      refine (ratOk_no _ neg a9 c9 xN (unhide HS9 _ _) aD _ cD (unhide HQ6).ok.2.1).mono ?_
      rintro e wA ⟨rfl, bA⟩
      have HBA := hide bA
      clear bA
      go_wp2_with fail
      go_ret
      refine ⟨rfl, ?_⟩
      refine Below.trans (below_store ((unhide HQ6).bel.trans ((unhide HB9).mono (by omega))) (by omega) _) ((unhide HBA).mono ?_)
      simp only [World.size_setCell]
      omega
    by_cases e1 : hurt = 1
    · subst e1
      have HS9 := hide (sl_zero w6 qb hz6)
      go_wp2_with fail
      refine (ratOk_any _ neg aN cN (lim xN) (Res.sl (Qb.numset (unhide HQ6) hdq _ _)) (some ⟨w6.heap.size, 0, none⟩) 1 [0] (unhide HS9 _) (by have := (unhide HQ6).ok.2.1; omega) (by decide)).mono ?_
      rintro e wA ⟨rfl, bA⟩
      have hfalse : (nrm aN (lim xN) && nrm (some ⟨w6.heap.size, 0, none⟩) [0] && !(some (⟨w6.heap.size, 0, none⟩ : Addr)).isNone) = false := by simp [nrm]
      rw [hfalse]
      have HBA := hide bA
      clear bA hfalse
      go_wp2_with fail
      go_ret
      refine ⟨rfl, ?_⟩
      refine Below.trans ((below_store (unhide HQ6).bel (by omega) _).alloc (by rw [World.size_setCell]; omega) _) ((unhide HBA).mono ?_)
      simp
      omega
    by_cases e2 : hurt = 2
    · subst e2
      go_wp2_with fail
      refine (ratOk_any _ neg aN cN (lim xN) (Res.sl (Qb.numset (unhide HQ6) hdq _ _)) (some ⟨w6.heap.size, 0, none⟩) 0 [] (sl_none _ _) (by have := (unhide HQ6).ok.2.1; omega) (by decide)).mono ?_
      rintro e wA ⟨rfl, bA⟩
      have hfalse : (nrm aN (lim xN) && nrm (some ⟨w6.heap.size, 0, none⟩) [] && !(some (⟨w6.heap.size, 0, none⟩ : Addr)).isNone) = false := by simp [nrm]
      rw [hfalse]
      have HBA := hide bA
      clear bA hfalse
      go_wp2_with fail
      go_ret
      refine ⟨rfl, ?_⟩
      refine Below.trans ((below_store (unhide HQ6).bel (by omega) _).alloc (by rw [World.size_setCell]; omega) _) ((unhide HBA).mono ?_)
      simp
      omega
    · go_wp2_with fail
      refine (ratOk_any _ neg aN cN (lim xN) (Res.sl (Qb.numset0 (unhide HQ6) hdq _)) none 0 [] (Sl.empty _) (by have := (unhide HQ6).ok.2.1; omega) (by decide)).mono ?_
      rintro e wA ⟨rfl, bA⟩
      have hfalse : (nrm aN (lim xN) && nrm none [] && !(none : Option Addr).isNone) = false := by simp
      rw [hfalse]
      have HBA := hide bA
      clear bA hfalse
      go_wp2_with fail
      go_ret
      refine ⟨rfl, ?_⟩
      refine Below.trans (below_store (unhide HQ6).bel (by omega) _) ((unhide HBA).mono ?_)
      simp only [World.size_setCell]
      omega
end Go.Proofs.YgcoaaGreat.NatW
