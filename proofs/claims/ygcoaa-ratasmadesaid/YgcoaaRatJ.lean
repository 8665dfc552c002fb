/-
  exact.Round, Rat.Ok.
-/
import Derived.Test.YgcoaaRatI
set_option linter.unusedVariables false
set_option linter.unusedSimpArgs false
namespace Go.Proofs.Ygcoaa.NatW
open Go.RowKit
open Go.Proofs.Ygcoaa.Limbs

/-- RoundFlags answers by the numbers alone. -/
theorem roundFlags_any (E M : Nat) (mode : Int) (neg : Bool) (x d : Nat) : ∃ r fl, RoundOf E M mode neg x d r fl := by
  by_cases hf : fok E M = true
  · by_cases hx : x = 0
    · subst hx; exact round_zero E M hf mode neg d
    · by_cases hbx : (lim x).length ≤ 35184372088000
      · by_cases hby : (lim d).length ≤ 35184372088000
        · obtain ⟨em, h77⟩ := emin_any E M hf
          obtain ⟨eM, h78⟩ := emax_any E M hf
          obtain ⟨rL, h76⟩ := log2_any x d (wrap64 (em - 1)) eM (by omega) (by omega)
          by_cases hlt : rL < em
          · by_cases hgt : eM < em
            · exact round_over1 E M hf mode neg x d hx hbx hby em eM rL h77 h78 h76 hlt hgt
            · by_cases he : rL = wrap64 (em - 1)
              · exact round_low2 E M hf mode neg x d hx hbx hby em eM rL h77 h78 h76 hlt (decide_eq_false hgt) he.symm
              · exact round_low E M hf mode neg x d hx hbx hby em eM rL h77 h78 h76 hlt (decide_eq_false hgt) (decide_eq_false he) he
          · by_cases hgt : eM < rL
            · exact round_over2 E M hf mode neg x d hx hbx hby em eM rL h77 h78 h76 (decide_eq_false hlt) hlt (Int.not_lt.mp hlt) hgt
            · by_cases he : rL = wrap64 (em - 1)
              · exact round_mid2 E M hf mode neg x d hx hbx hby em eM rL h77 h78 h76 (decide_eq_false hlt) hlt (Int.not_lt.mp hlt) (decide_eq_false hgt) he.symm
              · exact round_mid E M hf mode neg x d hx hbx hby em eM rL h77 h78 h76 (decide_eq_false hlt) hlt (Int.not_lt.mp hlt) (decide_eq_false hgt) (decide_eq_false he) he
        · refine ⟨0, 0, ?_⟩
          intro w a cap l hx h a2 cap2 l2 hy h2 hl hl2
          have hly := lim_length_le' l2 h2.lt
          have := den1_len (val l2) 35184372088000 (by omega) (by omega)
          rw [hy] at this
          exact absurd this hby
      · refine ⟨0, 0, ?_⟩
        intro w a cap l hx h a2 cap2 l2 hy h2 hl hl2
        have hlx := lim_length_le' l h.lt
        rw [hx] at hlx
        exact absurd (Nat.le_trans hlx hl) hbx
  · exact ⟨0, 0, round_bad E M (by simpa using hf) mode neg x d⟩

/-- Round's answer. -/
def Round1Of (E M : Nat) (mode : Int) (neg : Bool) (x d : Nat) (r : Int) : Prop :=
  ∀ (w : World) (a : Option Addr) (cap : Nat) (l : List Nat), val l = x → Sl w a cap l → ∀ (a2 : Option Addr) (cap2 : Nat) (l2 : List Nat), den1 (val l2) = d → Sl w a2 cap2 l2 → l.length ≤ 35184372088000 → l2.length ≤ 35184372088000 →
    Calls Oaag.prog 14 #[.agg #[.int .u8 E, .int .u8 M], .int .u8 mode, .agg #[.bool neg, .slice a l.length cap, .slice a2 l2.length cap2]] w fun e w' => e = .returned (.int .u64 r) ∧ Below w.heap.size w w'

set_option maxRecDepth 20000 in
set_option maxHeartbeats 1000000 in
theorem round_any (E M : Nat) (mode : Int) (neg : Bool) (x d : Nat) : ∃ r, Round1Of E M mode neg x d r := by
  obtain ⟨r, fl, hr⟩ := roundFlags_any E M mode neg x d
  refine ⟨r, ?_⟩
  have HR := hide hr
  clear hr
  intro w a cap l hx h a2 cap2 l2 hy h2 hl hl2
  have hb0 : Below w.heap.size w ((w.alloc (.cells #[.int .u8 E, .int .u8 M] 33)).alloc (.cells #[.bool neg, .slice a l.length cap, .slice a2 l2.length cap2] 36)) := ((Below.refl _ _).alloc (Nat.le_refl _) _).alloc (by simp) _
  have HC := hide (unhide HR _ a cap l hx (h.later hb0) a2 cap2 l2 hy (h2.later hb0) hl hl2)
  have HB0 := hide hb0
  clear hb0 HR hx hy h h2
  go_enter Oaag.func14, Oaag.ntmps14
  go_wp2_with fail
  refine (unhide HC).mono ?_
  rintro e w1 ⟨rfl, hb1⟩
  have hbF := (unhide HB0).trans (hb1.mono (unhide HB0).size)
  clear hb1 HC HB0
  go_wp2
  go_ret
  exact ⟨rfl, hbF⟩

/-- Nat.Normal's answer. -/
def nrm (a : Option Addr) (l : List Nat) : Bool := a.isNone || (decide (0 < l.length) && l.getD (l.length - 1) 0 != 0)

set_option maxRecDepth 20000 in
set_option maxHeartbeats 1000000 in
theorem ratOk_any (w : World) (neg : Bool) (a : Option Addr) (cap : Nat) (l : List Nat) (h : Sl w a cap l) (a2 : Option Addr) (cap2 : Nat) (l2 : List Nat) (h2 : Sl w a2 cap2 l2) (hl : l.length ≤ 35184372088000) (hl2 : l2.length ≤ 35184372088000) :
    Calls Oaag.prog 15 #[.agg #[.bool neg, .slice a l.length cap, .slice a2 l2.length cap2]] w fun e w' => e = .returned (.bool (nrm a l && nrm a2 l2 && !a2.isNone)) ∧ Below w.heap.size w w' := by
  have q24 := eqnil24
  have hb0 : Below w.heap.size w (w.alloc (.cells #[.bool neg, .slice a l.length cap, .slice a2 l2.length cap2] 36)) := (Below.refl _ _).alloc (Nat.le_refl _) _
  have hn1 := normal_any _ a cap l (h.later hb0) (by omega)
  have hn2 := normal_any _ a2 cap2 l2 (h2.later hb0) (by omega)
  obtain ⟨N1, hN1⟩ : ∃ N, N = nrm a l := ⟨_, rfl⟩
  obtain ⟨N2, hN2⟩ : ∃ N, N = nrm a2 l2 := ⟨_, rfl⟩
  obtain ⟨N3, hN3⟩ : ∃ N, N = a2.isNone := ⟨_, rfl⟩
  rw [show (a.isNone || (decide (0 < l.length) && l.getD (l.length - 1) 0 != 0)) = N1 from hN1.symm] at hn1
  rw [show (a2.isNone || (decide (0 < l2.length) && l2.getD (l2.length - 1) 0 != 0)) = N2 from hN2.symm] at hn2
  rw [← hN1, ← hN2, ← hN3]
  have HN1 := hide hn1
  have HN2 := hide hn2
  have HB0 := hide hb0
  have hn3 : a2.isNone = N3 := hN3.symm
  clear hn1 hn2 hb0 hN1 hN2 hN3
  have hfin : ∀ w1, (w.alloc (.cells #[.bool neg, .slice a l.length cap, .slice a2 l2.length cap2] 36)) = w1 → Below w.heap.size w w1 := by intro w1 h; rw [← h]; exact unhide HB0
  have HFIN := hide hfin
  clear hfin h h2
  cases N1
  · go_enter Oaag.func15, Oaag.ntmps15
    go_wp2_with fail
    refine (unhide HN1).mono ?_
    rintro e w1 ⟨rfl, rfl⟩
    go_wp2
    go_ret
    exact ⟨rfl, unhide HB0⟩
  · cases N2
    · go_enter Oaag.func15, Oaag.ntmps15
      go_wp2_with fail
      refine (unhide HN1).mono ?_
      rintro e w1 ⟨rfl, rfl⟩
      go_wp2_with fail
      refine (unhide HN2).mono ?_
      rintro e w1 ⟨rfl, rfl⟩
      go_wp2
      go_ret
      exact ⟨rfl, unhide HB0⟩
    · cases N3
      · go_enter Oaag.func15, Oaag.ntmps15
        go_wp2_with fail
        refine (unhide HN1).mono ?_
        rintro e w1 ⟨rfl, rfl⟩
        go_wp2_with fail
        refine (unhide HN2).mono ?_
        rintro e w1 ⟨rfl, rfl⟩
        go_wp2
        go_ret
        exact ⟨rfl, unhide HB0⟩
      · go_enter Oaag.func15, Oaag.ntmps15
        go_wp2_with fail
        refine (unhide HN1).mono ?_
        rintro e w1 ⟨rfl, rfl⟩
        go_wp2_with fail
        refine (unhide HN2).mono ?_
        rintro e w1 ⟨rfl, rfl⟩
        go_wp2
        go_ret
        exact ⟨rfl, unhide HB0⟩

end Go.Proofs.Ygcoaa.NatW
