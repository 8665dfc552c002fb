/-
  DivMod: the walk.
-/
import Derived.Test.YgcoaaGreatDivC
set_option linter.unusedVariables false
set_option linter.unusedSimpArgs false
namespace Go.Proofs.YgcoaaGreat.NatW
open Go.RowKit
open Go.Proofs.YgcoaaGreat.Limbs

/-- DivMod's answers: the quotient, the remainder, whether there is one. -/
def dq (x y : Nat) : Nat := if y = 0 then 0 else x / y
def dr (x y : Nat) : Nat := if y = 0 then 0 else x % y

set_option maxRecDepth 20000 in
set_option maxHeartbeats 1000000 in
theorem divMod_any (w : World) (a : Option Addr) (cap : Nat) (l : List Nat) (x : Nat) (hx : val l = x) (h : Sl w a cap l) (hlen : l.length + 2 ≤ 70368744177664)
    (a2 : Option Addr) (cap2 : Nat) (l2 : List Nat) (y : Nat) (hy : val l2 = y) (h2 : Sl w a2 cap2 l2) (hlen2 : l2.length + 2 ≤ 70368744177664) :
    Calls Oaag.prog 62 #[.slice a l.length cap, .slice a2 l2.length cap2] w fun e w' => ∃ a1 cap1 a2 cap2, e = .returned (.tuple #[.slice a1 (lim (dq x y)).length cap1, .slice a2 (lim (dr x y)).length cap2, .bool (decide (y ≠ 0))]) ∧
      Res w.heap.size w' a1 cap1 (dq x y) ∧ Res w.heap.size w' a2 cap2 (dr x y) ∧ Below w.heap.size w w' := by
  have q24 := eqnil24
  have ht1 := trim_any w a cap l h (by omega)
  have ht2 := trim_any w a2 cap2 l2 h2 (by omega)
  have hle := lim_length_le' l h.lt
  have hle2 := lim_length_le' l2 h2.lt
  rw [hx] at ht1 hle
  rw [hy] at ht2 hle2
  have HT1 := hide ht1
  have HT2 := hide ht2
  clear ht1 ht2
  go_enter Oaag.func62, Oaag.ntmps62
  go_wp2_with fail
  refine (unhide HT1).mono ?_; rintro e w' ⟨rfl, a1', cap1', rfl, ht1⟩
  go_wp2_with fail
  refine (unhide HT2).mono ?_; rintro e w' ⟨rfl, a2', cap2', rfl, ht2⟩
  rw [← hx] at ht1
  rw [← hy] at ht2
  have s1 := h.trim ht1
  have s2 := h2.trim ht2
  have hnone := ht2.none_iff h2
  rw [hx] at s1
  rw [hy] at s2 hnone
  clear HT1 HT2 ht1 ht2 h h2 hx hy
  have hlx : (lim x).length + 2 ≤ 70368744177664 := by omega
  have hly : (lim y).length + 2 ≤ 70368744177664 := by omega
  clear hle hle2 hlen hlen2
  by_cases hy0 : y = 0
  · have hn2 := hnone.2 hy0
    have HY := hide hy0
    clear hnone hy0
    go_wp2
    go_ret3
    have hy0 := unhide HY
    refine ⟨none, 0, none, 0, ?_, ?_, ?_, Below.refl _ _⟩
    · rw [dq, dr, if_pos hy0, if_pos hy0]; simp [hy0]; rfl
    · rw [dq, if_pos hy0]; exact Res.nil
    · rw [dr, if_pos hy0]; exact Res.nil
  · have hn2 : a2'.isNone = false := by
      cases h : a2'.isNone
      · rfl
      · exact absurd (hnone.1 h) hy0
    have edq : dq x y = x / y := by rw [dq, if_neg hy0]
    have edr : dr x y = x % y := by rw [dr, if_neg hy0]
    have edd : decide (y ≠ 0) = true := by simp [hy0]
    have EDQ := hide edq
    have EDR := hide edr
    have EDD := hide edd
    clear edq edr edd hnone
    have hcmp := cmp_any w a1' cap1' _ x (val_lim x) s1 (by omega) a2' cap2' _ y (val_lim y) s2 (by omega)
    have HC := hide hcmp
    clear hcmp
    go_wp2_with fail
    refine (unhide HC).mono ?_
    rintro e w1 ⟨hb1, rfl⟩
    clear HC
    by_cases hlt : x < y
    · have ec : cmpI x y = -1 := by simp [cmpI, hlt]
      rw [ec]
      have htk := take_any w1 a1' cap1' _ (s1.later hb1) (by omega)
      rw [val_lim] at htk
      have HTK := hide htk
      clear htk
      go_wp2_with fail
      refine (unhide HTK).mono ?_
      rintro e w2 ⟨ar, capr, rfl, hres, hb2⟩
      have HR := hide hres
      clear hres
      go_wp2
      go_ret3
      have hsz := hb1.size
      rw [unhide EDQ, unhide EDR, unhide EDD]
      refine ⟨none, 0, ar, capr, ?_, ?_, ?_, hb1.trans (hb2.mono hsz)⟩
      · rw [Nat.div_eq_of_lt hlt, Nat.mod_eq_of_lt hlt]; rfl
      · rw [Nat.div_eq_of_lt hlt]; exact Res.nil
      · rw [Nat.mod_eq_of_lt hlt]; exact (unhide HR).lower hsz
    · have ec : 0 ≤ cmpI x y := by
        simp only [cmpI, if_neg hlt]; split <;> omega
      have ecd : decide (cmpI x y < 0) = false := decide_eq_false (by omega)
      have hyp := (lim_length_pos y).2 hy0
      obtain ⟨b2, o2, rfl, hc2⟩ := s2.row hyp
      by_cases h1 : (lim y).length = 1
      · have hb0 : (((lim y).length : Int) == 1) = true := by simp [h1]
        have c0 := (hb1.cell (World.block_lt_of_cell? _ _ (hc2 0 (by omega)))).trans (hc2 0 (by omega))
        rw [Nat.add_zero] at c0
        have ey : (lim y).getD 0 0 = y := by
          have hyl := lt_of_lim_length y
          rw [h1] at hyl
          rw [lim_getD]; simp; omega
        have hyl : y < 4294967296 := by
          have hyl := lt_of_lim_length y
          rw [h1] at hyl; simpa using hyl
        rw [ey] at c0
        have hdl := divLimb_any w1 a1' cap1' _ x (val_lim x) (s1.later hb1) (by omega) y (by omega) hyl
        have HDL := hide hdl
        clear hdl hc2 h1 ey
        go_wp2_with fail
        refine (unhide HDL).mono ?_
        rintro e w2 ⟨aq, capq, rfl, hres, hb2⟩
        have hyr : x % y < y := Nat.mod_lt _ (by omega)
        have hfu := fromU64_any w2 (x % y) (by omega)
        have HF := hide hfu
        have HR := hide hres
        clear hfu hres
        go_wp2_with fail
        refine (unhide HF).mono ?_
        rintro e w3 ⟨ar, capr, rfl, hresr, hb3⟩
        have HRR := hide hresr
        clear hresr
        go_wp2
        go_ret3
        have hsz := hb1.size
        have hsz2 := hb2.size
        rw [unhide EDQ, unhide EDR, unhide EDD]
        exact ⟨aq, capq, ar, capr, rfl, ((unhide HR).later hb3).lower hsz, (unhide HRR).lower (by omega), (hb1.trans (hb2.mono hsz)).trans (hb3.mono (by omega))⟩
      · have hb0 : (((lim y).length : Int) == 1) = false := by simp; omega
        have hxy : (lim y).length ≤ (lim x).length := lim_length_mono y x (by omega)
        have hdl := divLong_any w1 a1' cap1' x (s1.later hb1) (some ⟨b2, o2, none⟩) cap2' y (s2.later hb1) (by omega) hxy hlx
        have HDL := hide hdl
        clear hdl hc2 h1
        go_wp2_with fail
        refine (unhide HDL).mono ?_
        rintro e w2 ⟨aq, capq, ar, capr, rfl, hresq, hresr, hb2⟩
        have HRQ := hide hresq
        have HRR := hide hresr
        clear hresq hresr
        go_wp2
        go_ret3
        have hsz := hb1.size
        rw [unhide EDQ, unhide EDR, unhide EDD]
        exact ⟨aq, capq, ar, capr, rfl, (unhide HRQ).lower hsz, (unhide HRR).lower hsz, hb1.trans (hb2.mono hsz)⟩

end Go.Proofs.YgcoaaGreat.NatW
