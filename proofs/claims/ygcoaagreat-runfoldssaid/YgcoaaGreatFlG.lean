/-
  Floats: plain laws on numbers cut and rounded (no Go in sight).
-/
import Derived.Test.YgcoaaGreatFlF
set_option linter.unusedVariables false
set_option maxRecDepth 20000
namespace Go.Proofs.YgcoaaGreat.NatW

theorem cut_zero (s : Bool) (n d : Nat) : Ieee.Toward.zero.cut s n d = n / 2 ^ d := by
  unfold Ieee.Toward.cut
  simp only [Bool.toNat_false, Nat.add_zero, Nat.one_shiftLeft]
  by_cases h : d ≤ n.log2 + 2
  · rw [Nat.min_eq_left h]
  · rw [Nat.min_eq_right (by omega)]
    have h1 : n < 2 ^ (n.log2 + 1) := Nat.lt_log2_self
    have h2 : 2 ^ (n.log2 + 1) ≤ 2 ^ (n.log2 + 2) := Nat.pow_le_pow_right (by decide) (by omega)
    have h3 : 2 ^ (n.log2 + 1) ≤ 2 ^ d := Nat.pow_le_pow_right (by decide) (by omega)
    rw [Nat.div_eq_of_lt (by omega), Nat.div_eq_of_lt (by omega)]

theorem cut_zero_lt {s : Bool} {m : Nat} {i : Int} {N j : Nat} (h : m <<< (i - min i (j : Int)).toNat < N <<< ((j : Int) - min i (j : Int)).toNat) : Ieee.Toward.zero.cut s (m <<< i.toNat) (-i).toNat < N * 2 ^ j := by
  rw [cut_zero]
  rw [Nat.shiftLeft_eq, Nat.shiftLeft_eq] at h
  rw [Nat.shiftLeft_eq]
  by_cases hi : 0 ≤ i
  · obtain ⟨p, rfl⟩ := Int.eq_ofNat_of_zero_le hi
    have e : (-(p : Int)).toNat = 0 := by omega
    rw [e, Nat.pow_zero, Nat.div_one]
    have e1 : ((p : Int)).toNat = p := by omega
    rw [e1]
    by_cases hp : p ≤ j
    · have e2 : ((p : Int) - min (p : Int) (j : Int)).toNat = 0 := by omega
      have e3 : ((j : Int) - min (p : Int) (j : Int)).toNat = j - p := by omega
      rw [e2, e3, Nat.pow_zero, Nat.mul_one] at h
      calc m * 2 ^ p < N * 2 ^ (j - p) * 2 ^ p := Nat.mul_lt_mul_of_pos_right h (Nat.two_pow_pos _)
        _ = N * 2 ^ j := by rw [Nat.mul_assoc, ← Nat.pow_add]; congr 2; omega
    · have e2 : ((p : Int) - min (p : Int) (j : Int)).toNat = p - j := by omega
      have e3 : ((j : Int) - min (p : Int) (j : Int)).toNat = 0 := by omega
      rw [e2, e3, Nat.pow_zero, Nat.mul_one] at h
      calc m * 2 ^ p = m * 2 ^ (p - j) * 2 ^ j := by rw [Nat.mul_assoc, ← Nat.pow_add]; congr 2; omega
        _ < N * 2 ^ j := Nat.mul_lt_mul_of_pos_right h (Nat.two_pow_pos _)
  · obtain ⟨q, hq⟩ : ∃ q : Nat, i = -(q : Int) := ⟨(-i).toNat, by omega⟩
    subst hq
    have e : (- -(q : Int)).toNat = q := by omega
    have e1 : (-(q : Int)).toNat = 0 := by omega
    have e2 : (-(q : Int) - min (-(q : Int)) (j : Int)).toNat = 0 := by omega
    have e3 : ((j : Int) - min (-(q : Int)) (j : Int)).toNat = j + q := by omega
    rw [e2, e3, Nat.pow_zero, Nat.mul_one, Nat.pow_add, ← Nat.mul_assoc] at h
    rw [e, e1, Nat.pow_zero, Nat.mul_one]
    exact Nat.div_lt_of_lt_mul (by rw [Nat.mul_comm]; exact h)

theorem cut_zero_le {s : Bool} {m : Nat} {i : Int} {N j : Nat} (h : m <<< (i - min i (j : Int)).toNat ≤ N <<< ((j : Int) - min i (j : Int)).toNat) : Ieee.Toward.zero.cut s (m <<< i.toNat) (-i).toNat ≤ N * 2 ^ j := by
  rw [cut_zero]
  rw [Nat.shiftLeft_eq, Nat.shiftLeft_eq] at h
  rw [Nat.shiftLeft_eq]
  by_cases hi : 0 ≤ i
  · obtain ⟨p, rfl⟩ := Int.eq_ofNat_of_zero_le hi
    have e : (-(p : Int)).toNat = 0 := by omega
    rw [e, Nat.pow_zero, Nat.div_one]
    have e1 : ((p : Int)).toNat = p := by omega
    rw [e1]
    by_cases hp : p ≤ j
    · have e2 : ((p : Int) - min (p : Int) (j : Int)).toNat = 0 := by omega
      have e3 : ((j : Int) - min (p : Int) (j : Int)).toNat = j - p := by omega
      rw [e2, e3, Nat.pow_zero, Nat.mul_one] at h
      calc m * 2 ^ p ≤ N * 2 ^ (j - p) * 2 ^ p := Nat.mul_le_mul_right _ h
        _ = N * 2 ^ j := by rw [Nat.mul_assoc, ← Nat.pow_add]; congr 2; omega
    · have e2 : ((p : Int) - min (p : Int) (j : Int)).toNat = p - j := by omega
      have e3 : ((j : Int) - min (p : Int) (j : Int)).toNat = 0 := by omega
      rw [e2, e3, Nat.pow_zero, Nat.mul_one] at h
      calc m * 2 ^ p = m * 2 ^ (p - j) * 2 ^ j := by rw [Nat.mul_assoc, ← Nat.pow_add]; congr 2; omega
        _ ≤ N * 2 ^ j := Nat.mul_le_mul_right _ h
  · obtain ⟨q, hq⟩ : ∃ q : Nat, i = -(q : Int) := ⟨(-i).toNat, by omega⟩
    subst hq
    have e : (- -(q : Int)).toNat = q := by omega
    have e1 : (-(q : Int)).toNat = 0 := by omega
    have e2 : (-(q : Int) - min (-(q : Int)) (j : Int)).toNat = 0 := by omega
    have e3 : ((j : Int) - min (-(q : Int)) (j : Int)).toNat = j + q := by omega
    rw [e2, e3, Nat.pow_zero, Nat.mul_one, Nat.pow_add, ← Nat.mul_assoc] at h
    rw [e, e1, Nat.pow_zero, Nat.mul_one]
    exact Nat.div_le_of_le_mul (by rw [Nat.mul_comm]; exact h)

theorem cmp_lt {a b : Int} (h : compare a b = .lt) : a < b := by
  simp only [compare, compareOfLessAndEq] at h
  split at h
  · assumption
  · split at h <;> cases h
theorem cmp_gt {a b : Int} (h : compare a b = .gt) : b < a := by
  simp only [compare, compareOfLessAndEq] at h
  split at h
  · cases h
  · split at h
    · cases h
    · omega
theorem cmp_eq {a b : Int} (h : compare a b = .eq) : a = b := by
  simp only [compare, compareOfLessAndEq] at h
  split at h
  · cases h
  · split at h
    · assumption
    · cases h

/-- A number between -2^63 and 2^63 is one of int64. -/
theorem toInt_in {k : FloatKind} {x c1 c2 N j : Nat} (hN : N * 2 ^ j = 9223372036854775808) (hj : True) (h1 : k.format.read c1 = .number true N (j : Int)) (h2 : k.format.read c2 = .number false N (j : Int))
    (ha : (k.format.order x c1 == some .gt || k.format.order x c1 == some .eq) = true) (hb : (k.format.order x c2 == some .lt) = true) : ∃ n, floatToIntVal k x .i64 = some n := by
  unfold Ieee.Format.order at ha hb
  rw [h1] at ha
  rw [h2] at hb
  unfold floatToIntVal FloatKind.decode
  cases hd : k.format.read x with
  | nan s f => rw [hd] at hb; simp [Ieee.Datum.order] at hb
  | infinity s =>
    rw [hd] at ha hb
    cases s <;> simp [Ieee.Datum.order] at ha hb
  | number s m i =>
    rw [hd] at ha hb
    simp only [Ieee.Datum.order] at ha hb
    simp only [Ieee.Datum.toInt, Ieee.Datum.integral]
    have hb' : Ieee.signed s m (i - min i (j : Int)).toNat < Ieee.signed false N ((j : Int) - min i (j : Int)).toNat := by
      have := eq_of_beq hb
      simp only [Option.some.injEq] at this
      exact cmp_lt this
    have ha' : Ieee.signed true N ((j : Int) - min i (j : Int)).toNat ≤ Ieee.signed s m (i - min i (j : Int)).toNat := by
      rcases Bool.or_eq_true_iff.1 ha with h | h
      · have := eq_of_beq h
        simp only [Option.some.injEq] at this
        have := cmp_gt this
        omega
      · have := eq_of_beq h
        simp only [Option.some.injEq] at this
        have := cmp_eq this
        omega
    refine ⟨_, if_pos ?_⟩
    have hmin : IntKind.min .i64 = -9223372036854775808 := by decide
    have hmax : IntKind.max .i64 = 9223372036854775807 := by decide
    rw [hmin, hmax]
    cases s with
    | false =>
      simp only [Ieee.signed, Bool.false_eq_true, if_false] at hb'
      have := cut_zero_lt (s := false) (m := m) (i := i) (N := N) (j := j) (by omega)
      simp only [Ieee.signed, Bool.false_eq_true, if_false, Nat.shiftLeft_zero]
      omega
    | true =>
      simp only [Ieee.signed, if_true] at ha'
      have := cut_zero_le (s := true) (m := m) (i := i) (N := N) (j := j) (by omega)
      simp only [Ieee.signed, if_true, Nat.shiftLeft_zero]
      omega
end Go.Proofs.YgcoaaGreat.NatW
