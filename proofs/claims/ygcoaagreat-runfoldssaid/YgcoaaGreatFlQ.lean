/-
  Floats: Frexp and Ldexp of a number above zero, by whole numbers.
-/
import Derived.Test.YgcoaaGreatFlP
set_option linter.unusedVariables false
set_option maxRecDepth 20000
namespace Go.Proofs.YgcoaaGreat.NatW
open Go.RowKit
attribute [local go_sem] Go.Instr.field Go.asAgg ext421 ext345 ext423 ext346

theorem Fin64.lt {x : Nat} (h : Fin64 x) : x < 2 ^ FloatKind.f64.format.width := by rw [w64]; unfold Fin64 at h; omega
theorem Fin64.num {x : Nat} (h : Fin64 x) : numK .f64 x := ⟨_, _, _, read_fin h⟩
theorem Fin64.nan {x : Nat} (h : Fin64 x) : (FloatKind.f64.format.read x).isNaN = false := by rw [read_fin h]; rfl
theorem abs_fin {x : Nat} (h : x < 9223372036854775808) : absC x = x := by
  unfold absC
  have e := u64_andNot_nat x 9223372036854775808 (by omega) (by decide)
  have e' : bits .andNot .u64 (x : Int) 9223372036854775808 = ((x &&& (18446744073709551615 - 9223372036854775808) : Nat) : Int) := e
  rw [e', show (18446744073709551615 - 9223372036854775808 : Nat) = 2 ^ 63 - 1 by decide, Nat.and_two_pow_sub_one_eq_mod]
  rw [show (2 : Nat) ^ 63 = 9223372036854775808 by decide, Nat.mod_eq_of_lt h]
  rfl
set_option exponentiation.threshold 3000 in
theorem isInf_fin {x : Nat} (h : Fin64 x) : isInf x = false := by
  unfold isInf
  rw [abs_fin (by unfold Fin64 at h; omega)]
  cases hc : (FloatKind.f64.format.order x 9218868437227405311 == some .gt) with
  | false => rfl
  | true =>
    exfalso
    have h1 := (order_val h (y := 9218868437227405311) (by unfold Fin64; omega)).2.2.1 hc
    have h2 := man_lt x
    have h3 := sft_le h
    have e : val 9218868437227405311 = 9007199254740991 * 2 ^ 2045 := by unfold val; rw [show man 9218868437227405311 = 9007199254740991 by decide, show sft 9218868437227405311 = 2045 by decide]
    rw [e] at h1
    unfold val at h1
    have hp : 2 ^ sft x ≤ 2 ^ 2045 := Nat.pow_le_pow_right (by decide) h3
    generalize (2 : Nat) ^ 2045 = P at *
    have hm : man x ≤ 9007199254740991 := by omega
    have := Nat.mul_le_mul hm hp
    exact absurd h1 (by omega)
theorem zero_fin {x : Nat} (h : Fin64 x) (h0 : 0 < x) : 0 < val x := by
  unfold val man
  split
  · exact Nat.mul_pos h0 (Nat.two_pow_pos _)
  · exact Nat.mul_pos (by omega) (Nat.two_pow_pos _)
theorem val_zero : val 0 = 0 := by decide
theorem eq0_fin {x : Nat} (h : Fin64 x) (h0 : 0 < x) : (FloatKind.f64.format.order x 0 == some .eq) = false := by
  cases hc : (FloatKind.f64.format.order x 0 == some .eq) with
  | false => rfl
  | true =>
    exfalso
    have h1 := (order_val h (y := 0) (by unfold Fin64; omega)).2.1.1 hc
    have := zero_fin h h0
    rw [val_zero] at h1
    omega

/-- x made normal: its exponent field, its fraction field. -/
structure Nrm (x n E f : Nat) (e : Int) : Prop where
  fin : Fin64 n
  eq : n = E * 4503599627370496 + f
  hf : f < 4503599627370496
  E1 : 1 ≤ E
  E2 : E ≤ 2046
  he : e = 0 ∨ e = -52
  hval : val x * 2 ^ (-e).toNat = (4503599627370496 + f) * 2 ^ (E - 1)
theorem read_52 : FloatKind.f64.format.read 4841369599423283200 = .number false 4503599627370496 0 := by decide
theorem norm_fin {x : Nat} (h : Fin64 x) (h0 : 0 < x) : ∃ n E f e, Nrm x n E f e ∧ NRet 465 #[.float .f64 x] (.tuple #[.float .f64 n, .int .i64 e]) := by
  have hx := h.lt
  have habs := abs_fin (x := x) (by unfold Fin64 at h; omega)
  have hf2 : Fin64 4503599627370496 := by unfold Fin64; omega
  have hv2 : val 4503599627370496 = 4503599627370496 := by decide
  have HN := hide h.num
  by_cases hs : x < 4503599627370496
  · have hvx : val x = x := by unfold val man sft; rw [if_pos hs, if_pos hs]; simp
    have hb : (FloatKind.f64.format.order (absC x) 4503599627370496 == some .lt) = true := by
      rw [habs]; exact (order_val h hf2).1.2 (by rw [hvx, hv2]; exact hs)
    obtain ⟨⟨hn1, hn2⟩, _⟩ := mul_val (V := val x * 2 ^ 52) h (y := 4841369599423283200) (by unfold Fin64; omega) read_52 (Or.inl ⟨by decide, rfl⟩) ⟨man x, sft x + 52, by unfold val; rw [Nat.mul_assoc, ← Nat.pow_add], man_lt x⟩ (by
      rw [hvx]
      calc x * 2 ^ 52 < 2 ^ 52 * 2 ^ 52 := Nat.mul_lt_mul_of_pos_right (by rw [show (2 : Nat) ^ 52 = 4503599627370496 by decide]; exact hs) (Nat.two_pow_pos _)
        _ = 2 ^ 104 := by decide
        _ ≤ 2 ^ 2098 := Nat.pow_le_pow_right (by decide) (by decide))
    have hw : NRet 465 #[.float .f64 x] (.tuple #[.float .f64 (fa .mul .f64 x 4841369599423283200), .int .i64 (-52)]) := by
      clear hn1 hn2 hvx hs h0 habs hf2 hv2

      intro w K hK
      have HK := hide hK; clear hK
      have S := Same.refl w
      go_enter Oaag.func465, Oaag.ntmps465
      go_wp2_with (first | (refine mAbs _ (by assumption) _ _ ?_; intro w1 s1; replace S := Same.trans S s1; clear s1) | (refine upon_num (by simp) (unhide HN) num_52 ?_; intro w1 s1; replace S := Same.trans S s1; clear s1; rewrite [Oper.upon_value]))
      exact unhide HK _ S
    obtain ⟨n, hn⟩ : ∃ n, n = fa .mul .f64 x 4841369599423283200 := ⟨_, rfl⟩
    rw [← hn] at hn1 hn2 hw
    have hge : 4503599627370496 ≤ n := by
      rcases Nat.lt_or_ge n 4503599627370496 with hlt | hge
      · exfalso
        have : val n = n := by unfold val man sft; rw [if_pos hlt, if_pos hlt]; simp
        rw [this, hvx] at hn2
        have : 1 * 2 ^ 52 ≤ x * 2 ^ 52 := Nat.mul_le_mul_right _ h0
        have h52 : (2 : Nat) ^ 52 = 4503599627370496 := by decide
        omega
      · exact hge
    refine ⟨n, n / 4503599627370496, n % 4503599627370496, -52, ⟨hn1, by omega, Nat.mod_lt _ (by decide), by omega, by unfold Fin64 at hn1; omega, Or.inr rfl, ?_⟩, hw⟩
    rw [show (-(-52 : Int)).toNat = 52 by decide, ← hn2]
    unfold val man sft
    rw [if_neg (by omega), if_neg (by omega)]
  · have hb : (FloatKind.f64.format.order (absC x) 4503599627370496 == some .lt) = false := by
      rw [habs]
      cases hc : (FloatKind.f64.format.order x 4503599627370496 == some .lt) with
      | false => rfl
      | true =>
        exfalso
        have := (order_val h hf2).1.1 hc
        rw [hv2] at this
        unfold val man at this
        rw [if_neg hs] at this
        have h2 : (4503599627370496 + x % 4503599627370496) * 1 ≤ (4503599627370496 + x % 4503599627370496) * 2 ^ sft x := Nat.mul_le_mul_left _ (Nat.two_pow_pos _)
        omega
    have hw : NRet 465 #[.float .f64 x] (.tuple #[.float .f64 x, .int .i64 0]) := by
      clear hs h0 habs hf2 hv2
      intro w K hK
      have HK := hide hK; clear hK
      have S := Same.refl w
      go_enter Oaag.func465, Oaag.ntmps465
      go_wp2_with (first | (refine mAbs _ (by assumption) _ _ ?_; intro w1 s1; replace S := Same.trans S s1; clear s1))
      exact unhide HK _ S
    refine ⟨x, x / 4503599627370496, x % 4503599627370496, 0, ⟨h, by omega, Nat.mod_lt _ (by decide), by omega, by unfold Fin64 at h; omega, Or.inl rfl, ?_⟩, hw⟩
    rw [show (-(0 : Int)).toNat = 0 by decide, Nat.pow_zero, Nat.mul_one]
    unfold val man sft
    rw [if_neg hs, if_neg hs]

theorem field_E {n E f : Nat} (h : n = E * 4503599627370496 + f) (hf : f < 4503599627370496) (hE : E ≤ 2046) : bits .and .u64 ((n : Int) / 4503599627370496) 2047 = (E : Int) ∧ bits .and .i64 ((n : Int) / 4503599627370496) 2047 = (E : Int) := by
  have hc : (n : Int) / 4503599627370496 = (E : Int) := by omega
  rw [hc]
  have h1 := (bits_nat .i64 63 (by decide) (fun a h0 h1 => Sf.wrap_in (by simp [IntKind.min, IntKind.signed, IntKind.bits]; omega) (by simp [IntKind.max, IntKind.signed, IntKind.bits]; omega)) E 2047 (by omega) (by decide)).1
  have h2 := (bits_nat .u64 64 (by decide) (fun a h0 h1 => Sf.wrap_in (by simp [IntKind.min, IntKind.signed]; omega) (by simp [IntKind.max, IntKind.signed, IntKind.bits]; omega)) E 2047 (by omega) (by decide)).1
  have e : E &&& 2047 = E := by
    rw [show (2047 : Nat) = 2 ^ 11 - 1 by decide, Nat.and_two_pow_sub_one_eq_mod]
    exact Nat.mod_eq_of_lt (by have : (2 : Nat) ^ 11 = 2048 := by decide
                               omega)
  rw [e] at h1 h2
  exact ⟨h2, h1⟩
theorem field_f {n E f : Nat} (h : n = E * 4503599627370496 + f) (hf : f < 4503599627370496) (hE : E ≤ 2046) : bits .andNot .u64 (n : Int) 9218868437227405312 = (f : Int) := by
  have hn : n < 9223372036854775808 := by omega
  have e := u64_andNot_nat n 9218868437227405312 (by omega) (by decide)
  have e' : bits .andNot .u64 (n : Int) 9218868437227405312 = ((n &&& (18446744073709551615 - 9218868437227405312) : Nat) : Int) := e
  rw [e']
  congr 1
  rw [show (18446744073709551615 - 9218868437227405312 : Nat) = 2 ^ 63 ||| (2 ^ 52 - 1) by decide, Nat.and_or_distrib_left]
  have h1 : n &&& 2 ^ 63 = 0 := by
    apply Nat.eq_of_testBit_eq
    intro i
    rw [Nat.testBit_and, Nat.testBit_two_pow, Nat.zero_testBit]
    by_cases h : 63 = i
    · subst h
      rw [Nat.testBit_lt_two_pow (by rw [show (2 : Nat) ^ 63 = 9223372036854775808 by decide]; exact hn)]
      rfl
    · simp [h]
  rw [h1, Nat.and_two_pow_sub_one_eq_mod, Nat.zero_or, show (2 : Nat) ^ 52 = 4503599627370496 by decide]
  omega
theorem join_f {f k : Nat} (hf : f < 4503599627370496) (hk : k ≤ 2047) : bits .or .u64 (f : Int) ((k : Int) * 4503599627370496) = ((k * 4503599627370496 + f : Nat) : Int) := by
  have e := u64_or_nat f (k * 4503599627370496) (by omega) (by omega)
  have hc : ((k : Int) * 4503599627370496) = ((k * 4503599627370496 : Nat) : Int) := by omega
  rw [hc, e]
  congr 1
  rw [Nat.or_comm, Nat.mul_comm, show (4503599627370496 : Nat) = 2 ^ 52 by decide]
  exact (Nat.two_pow_add_eq_or_of_lt (by rw [show (2 : Nat) ^ 52 = 4503599627370496 by decide]; exact hf) k).symm

/-- Frexp. -/
theorem frexp_fin {x n E f : Nat} {e : Int} (h : Fin64 x) (h0 : 0 < x) (hN : Nrm x n E f e) (hr : NRet 465 #[.float .f64 x] (.tuple #[.float .f64 n, .int .i64 e])) :
    NRet 475 #[.float .f64 x] (.tuple #[.float .f64 (4602678819172646912 + f), .int .i64 (e + (E : Int) - 1022)]) := by
  have hx := h.lt
  have h2 := h.nan
  have h3 := isInf_fin h
  have h1 := eq0_fin h h0
  have hE := (field_E hN.eq hN.hf hN.E2).1
  have hF := field_f hN.eq hN.hf hN.E2
  have hJ := join_f (k := 1022) hN.hf (by decide)
  have hJ' : bits .or .u64 (f : Int) 4602678819172646912 = ((1022 * 4503599627370496 + f : Nat) : Int) := hJ
  have hn' : n < 18446744073709551616 := by have := hN.fin; unfold Fin64 at this; omega
  have e1 : -52 ≤ e := by have := hN.he; omega
  have e2 : e ≤ 0 := by have := hN.he; omega
  have E1 := hN.E1
  have E2 := hN.E2
  have hf := hN.hf
  obtain ⟨g, hg⟩ : ∃ g : Nat, g = 1022 * 4503599627370496 + f := ⟨_, rfl⟩
  rw [← hg] at hJ'
  have hg' : 4602678819172646912 + f = g := by omega
  rw [hg']
  have hG : e + (E : Int) - 1022 = e + ((E : Int) - 1023 + 1) := by omega
  rw [hG]
  clear hJ hg hg' hG hN h h0
  have HR := hide hr
  clear hr
  intro w K hK
  have HK := hide hK; clear hK
  have S := Same.refl w
  go_enter Oaag.func475, Oaag.ntmps475
  go_wp2_with (first | (refine mIsNaN _ _ _ ?_; rewrite [h2]; intro w1 s1; replace S := Same.trans S s1; clear s1) | (refine mIsInf _ (by assumption) _ _ ?_; rewrite [h3]; intro w1 s1; replace S := Same.trans S s1; clear s1) | (refine (unhide HR) _ _ ?_; intro w1 s1; replace S := Same.trans S s1; clear s1))
  exact unhide HK _ S

theorem Frexp_fin {x n E f : Nat} {e : Int} (h : Fin64 x) (h0 : 0 < x) (hN : Nrm x n E f e) (hr : NRet 465 #[.float .f64 x] (.tuple #[.float .f64 n, .int .i64 e])) :
    NRet 473 #[.float .f64 x] (.tuple #[.float .f64 (4602678819172646912 + f), .int .i64 (e + (E : Int) - 1022)]) := by
  have hr := frexp_fin h h0 hN hr
  have HR := hide hr
  clear hr
  generalize 4602678819172646912 + f = g at *
  intro w K hK
  have HK := hide hK; clear hK
  have S := Same.refl w
  go_enter Oaag.func473, Oaag.ntmps473
  go_wp2_with (first | (refine (unhide HR) _ _ ?_; intro w1 s1; replace S := Same.trans S s1; clear s1))
  exact unhide HK _ S


end Go.Proofs.YgcoaaGreat.NatW
