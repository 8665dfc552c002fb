/-
  Floats: a float64 that is not negative, as a whole number of its least unit (no Go in sight).
-/
import Derived.Test.YgcoaaGreatFlN
set_option linter.unusedVariables false
set_option maxRecDepth 20000
namespace Go.Proofs.YgcoaaGreat.NatW

theorem f64_binade : Ieee.Format.binade FloatKind.f64.format = 4503599627370496 := by decide
theorem f64_inf : Ieee.Format.infRung FloatKind.f64.format = 9218868437227405312 := by decide
theorem f64_least : Ieee.Format.leastPlace FloatKind.f64.format = -1074 := by decide
theorem f64_frac : FloatKind.f64.format.fractionBits = 52 := by decide
theorem f64_sign : Ieee.Format.signWeight FloatKind.f64.format = 9223372036854775808 := by decide

def man (x : Nat) : Nat := if x < 4503599627370496 then x else 4503599627370496 + x % 4503599627370496
def sft (x : Nat) : Nat := if x < 4503599627370496 then 0 else x / 4503599627370496 - 1
/-- In units of 2^-1074. -/
def val (x : Nat) : Nat := man x * 2 ^ sft x
def Fin64 (x : Nat) : Prop := x < 9218868437227405312

theorem read_fin {x : Nat} (h : Fin64 x) : FloatKind.f64.format.read x = .number false (man x) (-1074 + (sft x : Int)) := by
  unfold Fin64 at h
  unfold Ieee.Format.read
  simp only [f64_binade, f64_inf, f64_least, f64_sign]
  have e1 : x % 9223372036854775808 = x := Nat.mod_eq_of_lt (by omega)
  have e2 : (x / 9223372036854775808 % 2 == 1) = false := by
    rw [Nat.div_eq_of_lt (by omega)]; rfl
  rw [e1, e2]
  unfold man sft
  split
  · simp
  · first | rw [if_pos h] | rfl
theorem man_lt (x : Nat) : man x < 9007199254740992 := by
  unfold man
  have := Nat.mod_lt x (show 0 < 4503599627370496 by decide)
  split <;> omega
theorem sft_le {x : Nat} (h : Fin64 x) : sft x ≤ 2045 := by
  unfold Fin64 at h
  unfold sft
  split <;> omega

theorem cut_even_mul (s : Bool) (n d : Nat) : Ieee.Toward.even.cut s (n * 2 ^ d) d = n := by
  rcases Nat.eq_zero_or_pos n with rfl | hn
  · unfold Ieee.Toward.cut
    simp
  · have hp := Nat.two_pow_pos d
    have hne : n * 2 ^ d ≠ 0 := Nat.mul_ne_zero (by omega) (by omega)
    have hl : d ≤ (n * 2 ^ d).log2 := (Nat.le_log2 hne).2 (by
      calc 2 ^ d = 1 * 2 ^ d := by omega
        _ ≤ n * 2 ^ d := Nat.mul_le_mul_right _ hn)
    unfold Ieee.Toward.cut
    simp only [Nat.one_shiftLeft]
    rw [Nat.min_eq_left (by omega), Nat.mul_mod_left, Nat.mul_div_cancel _ hp]
    have e1 : decide (2 ^ d < 2 * 0) = false := by simp
    have e2 : (2 ^ d == 2 * 0) = false := by simp
    rw [e1, e2]
    simp

theorem log2_mul (n k : Nat) (hn : n ≠ 0) : (n * 2 ^ k).log2 = n.log2 + k := by
  rw [← Nat.shiftLeft_eq]; exact log2_shl n k hn

/-- A number that a float64 has, written. -/
theorem near_exact {mag V : Nat} {place : Int} (hV : (0 ≤ place + 1074 ∧ mag * 2 ^ (place + 1074).toNat = V) ∨ (place + 1074 < 0 ∧ mag = V * 2 ^ (-(place + 1074)).toNat))
    (hr : ∃ M s, V = M * 2 ^ s ∧ M < 9007199254740992) (hb : V < 2 ^ 2098) : ∃ x, Fin64 x ∧ FloatKind.f64.format.nearest false mag place = x ∧ val x = V := by
  by_cases hV0 : V = 0
  · subst hV0
    have hm : mag = 0 := by
      rcases hV with ⟨_, h⟩ | ⟨_, h⟩
      · rcases Nat.mul_eq_zero.1 h with h | h
        · exact h
        · have := Nat.two_pow_pos (place + 1074).toNat; omega
      · omega
    refine ⟨0, by unfold Fin64; omega, ?_, by decide⟩
    rw [hm]
    unfold Ieee.Format.nearest
    rw [if_pos rfl]
    rfl
  have hm : mag ≠ 0 := by
    intro h
    subst h
    rcases hV with ⟨_, h⟩ | ⟨_, h⟩
    · omega
    · have := Nat.two_pow_pos (-(place + 1074)).toNat
      rcases Nat.mul_eq_zero.1 h.symm with h | h <;> omega
  -- the logarithms
  have hlog : (V.log2 : Int) = place + 1074 + mag.log2 := by
    rcases hV with ⟨h0, h⟩ | ⟨h0, h⟩
    · rw [← h, log2_mul _ _ hm]; omega
    · rw [h, log2_mul _ _ hV0]; omega
  have hVl : V.log2 < 2098 := (Nat.log2_lt hV0).2 hb
  obtain ⟨d, hd⟩ : ∃ d : Nat, d = V.log2 - 52 := ⟨_, rfl⟩
  -- V is a multiple of 2^d
  obtain ⟨Q, hQ⟩ : ∃ Q, V = Q * 2 ^ d := by
    obtain ⟨M, s, h1, h2⟩ := hr
    have hM : M ≠ 0 := by intro h; subst h; omega
    have hl : V.log2 = M.log2 + s := by rw [h1, log2_mul _ _ hM]
    have h53 : (2 : Nat) ^ 53 = 9007199254740992 := by decide
    have hM52 : M.log2 < 53 := (Nat.log2_lt hM).2 (by omega)
    refine ⟨M * 2 ^ (s - d), ?_⟩
    rw [h1, Nat.mul_assoc, ← Nat.pow_add]
    congr 2
    omega
  have hQ0 : Q ≠ 0 := by intro h; subst h; omega
  have hQl : Q.log2 + d = V.log2 := by rw [hQ, log2_mul _ _ hQ0]
  have hQ1 : Q < 9007199254740992 := by
    have : Q < 2 ^ (Q.log2 + 1) := Nat.lt_log2_self
    have h2 : 2 ^ (Q.log2 + 1) ≤ 2 ^ 53 := Nat.pow_le_pow_right (by decide) (by omega)
    have : (2 : Nat) ^ 53 = 9007199254740992 := by decide
    omega
  have hQ2 : 0 < d → 4503599627370496 ≤ Q := by
    intro h
    have : 2 ^ Q.log2 ≤ Q := Nat.log2_self_le hQ0
    have h2 : 2 ^ 52 ≤ 2 ^ Q.log2 := Nat.pow_le_pow_right (by decide) (by omega)
    have : (2 : Nat) ^ 52 = 4503599627370496 := by decide
    omega
  have hlast : max (place + (mag.log2 : Int) - ((52 : Nat) : Int)) (-1074) = (d : Int) - 1074 := by omega
  have hkept : Ieee.Toward.even.cut false (mag <<< (place - ((d : Int) - 1074)).toNat) ((d : Int) - 1074 - place).toNat = Q := by
    by_cases hc : (d : Int) - 1074 ≤ place
    · have e : ((d : Int) - 1074 - place).toNat = 0 := by omega
      rw [e, cut_even_zero, Nat.shiftLeft_eq]
      rcases hV with ⟨h0, h⟩ | ⟨h0, h⟩
      · have hp := Nat.two_pow_pos d
        apply Nat.eq_of_mul_eq_mul_right hp
        rw [← hQ, ← h, Nat.mul_assoc, ← Nat.pow_add]
        congr 2
        omega
      · omega
    · have e : (place - ((d : Int) - 1074)).toNat = 0 := by omega
      rw [e, Nat.shiftLeft_zero]
      obtain ⟨g, hg⟩ : ∃ g, ((d : Int) - 1074 - place).toNat = g := ⟨_, rfl⟩
      rw [hg]
      have hmag : mag = Q * 2 ^ g := by
        rcases hV with ⟨h0, h⟩ | ⟨h0, h⟩
        · have hp := Nat.two_pow_pos (place + 1074).toNat
          apply Nat.eq_of_mul_eq_mul_right hp
          rw [h, hQ, Nat.mul_assoc, ← Nat.pow_add]
          congr 2
          omega
        · rw [h, hQ, Nat.mul_assoc, ← Nat.pow_add]
          congr 2
          omega
      rw [hmag]
      exact cut_even_mul false Q g
  obtain ⟨x, hx⟩ : ∃ x, x = d * 4503599627370496 + Q := ⟨_, rfl⟩
  refine ⟨x, ?_, ?_, ?_⟩
  · unfold Fin64; omega
  · unfold Ieee.Format.nearest
    rw [if_neg hm]
    simp only [f64_binade, f64_inf, f64_least, f64_frac]
    rw [hlast, hkept]
    unfold Ieee.Format.word
    rw [if_neg (by decide)]
    have e : ((d : Int) - 1074 - -1074).toNat = d := by omega
    rw [e, ← hx]
    omega
  · rw [hQ]
    unfold val man sft
    by_cases h0 : d = 0
    · have hxQ : x = Q := by omega
      rw [hxQ, h0, Nat.pow_zero, Nat.mul_one]
      split
      · simp
      · have h1 : Q / 4503599627370496 - 1 = 0 := by omega
        have h2 : 4503599627370496 + Q % 4503599627370496 = Q := by omega
        rw [h1, h2, Nat.pow_zero, Nat.mul_one]
    · have h1 := hQ2 (by omega)
      have e0 : ¬ x < 4503599627370496 := by omega
      have e1 : 4503599627370496 + x % 4503599627370496 = Q := by omega
      have e2 : x / 4503599627370496 - 1 = d := by omega
      rw [if_neg e0, if_neg e0, e1, e2]
end Go.Proofs.YgcoaaGreat.NatW
