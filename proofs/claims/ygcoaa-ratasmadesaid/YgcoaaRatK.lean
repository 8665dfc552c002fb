/-
  law.RatAsMade: the plain law.
-/
import Derived.Test.YgcoaaRatJ
import Derived.Test.YgcoaaNatLaw
set_option linter.unusedVariables false
set_option linter.unusedSimpArgs false
namespace Go.Proofs.Ygcoaa.NatW
open Go.RowKit
open Go.Proofs.Ygcoaa.Limbs

theorem top_iff (l : List Nat) (hl : Lt l) : (decide (0 < l.length) && l.getD (l.length - 1) 0 != 0) = true ↔ l = lim (val l) ∧ val l ≠ 0 := by
  constructor
  · intro h
    simp only [Bool.and_eq_true, decide_eq_true_eq, bne_iff_ne] at h
    obtain ⟨h1, h2⟩ := h
    have e := trim_end l (l.length - 1) hl (by omega) h2
    rw [Nat.sub_add_cancel h1, List.take_length] at e
    refine ⟨e, fun h0 => ?_⟩
    rw [h0, (lim_eq_nil 0).2 rfl] at e
    rw [e] at h1
    exact absurd h1 (by simp)
  · rintro ⟨h1, h2⟩
    simp only [Bool.and_eq_true, decide_eq_true_eq, bne_iff_ne]
    rw [h1]
    exact ⟨(lim_length_pos _).2 h2, lim_top _ h2⟩

theorem same_num {w : World} {a : Option Addr} {cap : Nat} {l : List Nat} (h : Sl w a cap l) {B : Nat} {w' : World} {a1 : Option Addr} {c1 : Nat} (hr : Res B w' a1 c1 (val l)) :
    ((a.isNone == a1.isNone) && decide (l = lim (val l))) = nrm a l := by
  have e1 := hr.nil_iff
  have ht := top_iff l h.lt
  unfold nrm
  cases a with
  | none =>
    have e : l = [] := List.eq_nil_of_length_eq_zero (by have := h.nil rfl; have := h.le; omega)
    subst e
    have : a1 = none := e1.2 rfl
    subst this
    rfl
  | some x =>
    have e2 : a1.isNone = decide (val l = 0) := by
      rw [Bool.eq_iff_iff, Option.isNone_iff_eq_none, e1]; simp
    rw [Bool.eq_iff_iff]
    simp only [Option.isNone_some, Bool.false_or]
    rw [ht, e2]
    simp
    exact and_comm

theorem den1_ne (y : Nat) : den1 y ≠ 0 := by unfold den1; split <;> omega
theorem den1_den1 (y : Nat) : den1 (den1 y) = den1 y := if_neg (den1_ne y)

theorem same_den {w : World} {a : Option Addr} {cap : Nat} {l : List Nat} (h : Sl w a cap l) {B : Nat} {w' : World} {a1 : Option Addr} {c1 : Nat} (hr : Res B w' a1 c1 (den1 (val l))) :
    ((a.isNone == a1.isNone) && decide (l = lim (den1 (val l)))) = (nrm a l && !a.isNone) := by
  have e1 := hr.nil_iff
  have ht := top_iff l h.lt
  have e2 : a1.isNone = false := by
    rw [Bool.eq_false_iff]
    intro hc
    exact den1_ne _ (e1.1 (Option.isNone_iff_eq_none.1 hc))
  rw [e2]
  unfold nrm
  cases a with
  | none => simp
  | some x =>
    rw [Bool.eq_iff_iff]
    simp only [Option.isNone_some, Bool.false_or, Bool.not_false, Bool.and_true, beq_self_eq_true, Bool.true_and, decide_eq_true_eq]
    rw [ht]
    constructor
    · intro e
      have hv : val l = den1 (val l) := by
        have := congrArg val e
        rwa [val_lim] at this
      have h0 := den1_ne (val l)
      exact ⟨by rw [← hv] at e; exact e, by rw [hv]; exact h0⟩
    · rintro ⟨e, h0⟩
      unfold den1
      rw [if_neg h0]
      exact e

theorem nrm_res {B : Nat} {w : World} {a : Option Addr} {cap n : Nat} (h : Res B w a cap n) : nrm a (lim n) = true := by
  unfold nrm
  rcases h with ⟨rfl, rfl, rfl⟩ | ⟨h0, g, l, rfl, _⟩
  · rfl
  · have := (top_iff (lim n) (Lt_lim n)).2 ⟨by rw [val_lim], by rw [val_lim]; exact h0⟩
    rw [this]; rfl

theorem ok_res {B B' : Nat} {w w' : World} {a a' : Option Addr} {cap n cap' y : Nat} (h : Res B w a cap n) (h' : Res B' w' a' cap' (den1 y)) : (nrm a (lim n) && nrm a' (lim (den1 y)) && !a'.isNone) = true := by
  rw [nrm_res h, nrm_res h']
  have e1 := h'.nil_iff
  have e2 : a'.isNone = false := by
    rw [Bool.eq_false_iff]
    intro hc
    exact den1_ne _ (e1.1 (Option.isNone_iff_eq_none.1 hc))
  rw [e2]; rfl

end Go.Proofs.Ygcoaa.NatW
