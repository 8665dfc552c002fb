/-
  Floats: Ldexp of a number above zero, by whole numbers.
-/
import Derived.Test.YgcoaaGreatFlQ
set_option linter.unusedVariables false
set_option maxRecDepth 20000
namespace Go.Proofs.YgcoaaGreat.NatW
open Go.RowKit
attribute [local go_sem] Go.Instr.field Go.asAgg ext421 ext345 ext423 ext346

theorem val_fields {b E f : Nat} (h : b = E * 4503599627370496 + f) (hf : f < 4503599627370496) (hE : 1 ≤ E) : val b = (4503599627370496 + f) * 2 ^ (E - 1) := by
  have e0 : ¬ b < 4503599627370496 := by omega
  have e1 : b % 4503599627370496 = f := by omega
  have e2 : b / 4503599627370496 = E := by omega
  unfold val man sft
  rw [if_neg e0, if_neg e0, e1, e2]
theorem read_one : FloatKind.f64.format.read 4607182418800017408 = .number false 4503599627370496 (-52) := by decide
theorem read_m53 : FloatKind.f64.format.read 4368491638549381120 = .number false 4503599627370496 (-105) := by decide
theorem fin_one : Fin64 4607182418800017408 := by unfold Fin64; omega
theorem fin_m53 : Fin64 4368491638549381120 := by unfold Fin64; omega

theorem ldexp_fin {y n E f : Nat} {e : Int} (h : Fin64 y) (h0 : 0 < y) (hN : Nrm y n E f e) (hr : NRet 465 #[.float .f64 y] (.tuple #[.float .f64 n, .int .i64 e])) (k : Nat) (hk : k ≤ 5000)
    (T : Int) (hT : (k : Int) + e + ((E : Int) - 1023) = T) (T1 : -1074 ≤ T) (T2 : T ≤ 1023) (hb : val y * 2 ^ k < 2 ^ 2098) :
    ∃ l, Fin64 l ∧ val l = val y * 2 ^ k ∧ FRet .f64 463 #[.float .f64 y, .int .i64 k] l := by
  have hx := h.lt
  have h2 := h.nan
  have h3 := isInf_fin h
  have h1 := eq0_fin h h0
  have hq := (field_E hN.eq hN.hf hN.E2).2
  have hF := field_f hN.eq hN.hf hN.E2
  have hn' : n < 18446744073709551616 := by have := hN.fin; unfold Fin64 at this; omega
  have e1 : -52 ≤ e := by have := hN.he; omega
  have e2 : e ≤ 0 := by have := hN.he; omega
  have E1 := hN.E1
  have E2 := hN.E2
  have hf := hN.hf
  have hv := hN.hval
  have hrep : ∃ M s, val y * 2 ^ k = M * 2 ^ s ∧ M < 9007199254740992 := ⟨man y, sft y + k, by unfold val; rw [Nat.mul_assoc, ← Nat.pow_add], man_lt y⟩
  obtain ⟨g, hg⟩ : ∃ g : Nat, (-e).toNat = g := ⟨_, rfl⟩
  rw [hg] at hv
  have hvv : val y * 2 ^ k * 2 ^ g = (4503599627370496 + f) * 2 ^ (E - 1 + k) := by
    rw [Nat.mul_assoc, Nat.mul_comm (2 ^ k), ← Nat.mul_assoc, hv, Nat.mul_assoc, ← Nat.pow_add]
  have HR := hide hr
  have HN := hide hN
  clear hr hN
  by_cases t3 : T < -1022
  · obtain ⟨B, hB⟩ : ∃ B : Nat, (B : Int) = T + 53 + 1023 := ⟨(T + 53 + 1023).toNat, by omega⟩
    have hJ := join_f (f := f) (k := B) hf (by omega)
    obtain ⟨b, hbb⟩ : ∃ b, b = B * 4503599627370496 + f := ⟨_, rfl⟩
    rw [← hbb, hB] at hJ
    have hvb := val_fields hbb hf (by omega)
    have hfb : Fin64 b := by unfold Fin64; omega
    obtain ⟨⟨m1, m2⟩, m3⟩ := mul_val (V := val y * 2 ^ k) hfb fin_m53 read_m53 (Or.inr ⟨by decide, by
      rw [show (-((-105 : Int) + 52)).toNat = 53 by decide]
      have hp := Nat.two_pow_pos g
      apply Nat.eq_of_mul_eq_mul_right hp
      rw [Nat.mul_assoc _ (2 ^ 53), Nat.mul_comm (2 ^ 53), ← Nat.mul_assoc, hvv, hvb, Nat.mul_assoc, Nat.mul_assoc, ← Nat.pow_add, ← Nat.pow_add]
      congr 2
      omega⟩) hrep hb
    refine ⟨_, m1, m2, ?_⟩
    rw [← m3]
    clear m1 m2 m3 hvb hfb hbb hvv hv hrep hb h h0 hg
    intro w K hK
    have HK := hide hK; clear hK
    have S := Same.refl w
    go_enter Oaag.func463, Oaag.ntmps463
    go_wp2_with (first | (refine mIsNaN _ _ _ ?_; rewrite [h2]; intro w1 s1; replace S := Same.trans S s1; clear s1) | (refine mIsInf _ (by assumption) _ _ ?_; rewrite [h3]; intro w1 s1; replace S := Same.trans S s1; clear s1) | (refine (unhide HR) _ _ ?_; intro w1 s1; replace S := Same.trans S s1; clear s1) | (refine upon_arith (by simp) ?_; intro r w1 hl s1; replace S := Same.trans S s1; clear s1; rewrite [Oper.upon_value]))
    exact unhide HK _ _ (by assumption) S
  · obtain ⟨B, hB⟩ : ∃ B : Nat, (B : Int) = T + 1023 := ⟨(T + 1023).toNat, by omega⟩
    have hJ := join_f (f := f) (k := B) hf (by omega)
    obtain ⟨b, hbb⟩ : ∃ b, b = B * 4503599627370496 + f := ⟨_, rfl⟩
    rw [← hbb, hB] at hJ
    have hvb := val_fields hbb hf (by omega)
    have hfb : Fin64 b := by unfold Fin64; omega
    obtain ⟨⟨m1, m2⟩, m3⟩ := mul_val (V := val y * 2 ^ k) hfb fin_one read_one (Or.inl ⟨by decide, by
      rw [show ((-52 : Int) + 52).toNat = 0 by decide, Nat.pow_zero, Nat.mul_one]
      have hp := Nat.two_pow_pos g
      apply Nat.eq_of_mul_eq_mul_right hp
      rw [hvv, hvb, Nat.mul_assoc, ← Nat.pow_add]
      congr 2
      omega⟩) hrep hb
    refine ⟨_, m1, m2, ?_⟩
    rw [← m3]
    clear m1 m2 m3 hvb hfb hbb hvv hv hrep hb h h0 hg
    intro w K hK
    have HK := hide hK; clear hK
    have S := Same.refl w
    go_enter Oaag.func463, Oaag.ntmps463
    go_wp2_with (first | (refine mIsNaN _ _ _ ?_; rewrite [h2]; intro w1 s1; replace S := Same.trans S s1; clear s1) | (refine mIsInf _ (by assumption) _ _ ?_; rewrite [h3]; intro w1 s1; replace S := Same.trans S s1; clear s1) | (refine (unhide HR) _ _ ?_; intro w1 s1; replace S := Same.trans S s1; clear s1) | (refine upon_arith (by simp) ?_; intro r w1 hl s1; replace S := Same.trans S s1; clear s1; rewrite [Oper.upon_value]))
    exact unhide HK _ _ (by assumption) S
theorem Ldexp_fin {y l : Nat} {k : Nat} (hl : Fin64 l) (hr : FRet .f64 463 #[.float .f64 y, .int .i64 k] l) : NRet 448 #[.float .f64 y, .int .i64 k] (.float .f64 l) := by
  have hn := hl.num.notNan
  clear hl
  have HR := hide hr
  clear hr
  intro w K hK
  have HK := hide hK; clear hK
  have S := Same.refl w
  go_enter Oaag.func448, Oaag.ntmps448
  go_wp2_with (first | (refine unhide HR _ _ ?_; intro r w1 hl s1; have hq := hl.eq hn; subst hq; replace S := Same.trans S s1; clear s1 hl))
  exact unhide HK _ S


end Go.Proofs.YgcoaaGreat.NatW
