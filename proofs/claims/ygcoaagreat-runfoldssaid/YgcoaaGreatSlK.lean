/-
  Package slow: the bit length and the top bit (plain).
-/
import Derived.Test.YgcoaaGreatSlJ
import Derived.Test.YgcoaaGreatSlC
set_option linter.unusedVariables false
set_option linter.unusedSimpArgs false
namespace Go.Proofs.YgcoaaGreat.NatW

theorem pow_cancel {x k : Nat} (hk : k ≤ 63) (h1 : 9223372036854775808 ≤ x * 2 ^ k) (h2 : x * 2 ^ k < 18446744073709551616) : 2 ^ (63 - k) ≤ x ∧ x < 2 ^ (63 - k + 1) := by
  have hp : 0 < 2 ^ k := Nat.two_pow_pos k
  have e1 : (9223372036854775808 : Nat) = 2 ^ (63 - k) * 2 ^ k := by rw [← Nat.pow_add, Nat.sub_add_cancel hk]
  have e2 : (18446744073709551616 : Nat) = 2 ^ (63 - k + 1) * 2 ^ k := by rw [← Nat.pow_add, show 63 - k + 1 + k = 64 by omega]
  rw [e1] at h1
  rw [e2] at h2
  exact ⟨Nat.le_of_mul_le_mul_right h1 hp, Nat.lt_of_mul_lt_mul_right h2⟩
theorem bitr_nat {x : Nat} {k : Int} (h0 : 0 ≤ k) (h : k ≤ 63 ∧ 9223372036854775808 ≤ (x : Int) * 2 ^ k.toNat ∧ (x : Int) * 2 ^ k.toNat < 18446744073709551616) : ∃ K : Nat, k = K ∧ K ≤ 63 ∧ 9223372036854775808 ≤ x * 2 ^ K ∧ x * 2 ^ K < 18446744073709551616 := by
  obtain ⟨K, rfl⟩ := Int.eq_ofNat_of_zero_le h0
  obtain ⟨a, b, c⟩ := h
  have e : ((x : Int) * 2 ^ (K : Int).toNat) = ((x * 2 ^ K : Nat) : Int) := by simp
  rw [e] at b c
  exact ⟨K, rfl, by omega, by omega, by omega⟩
theorem top_of_bits {n : Nat} {c : Nat → Nat} {B : Int} (hn : Nz n c) (hz : ∀ j, n ≤ j → c j = 0) (hB : BitR n c B) : ∃ p : Nat, Top n c p ∧ B = (p : Int) + 1 := by
  obtain ⟨h1, hc⟩ := hn
  obtain ⟨m, rfl⟩ : ∃ m, n = m + 1 := ⟨n - 1, by omega⟩
  obtain ⟨k, k0, k1, eB, hk⟩ := hB.2 h1
  obtain ⟨K, rfl, hK, q1, q2⟩ := bitr_nat k0 (hk hc)
  rw [Nat.add_sub_cancel] at q1 q2
  obtain ⟨g1, g2⟩ := pow_cancel hK q1 q2
  have ed : (64 * m + (63 - K)) / 64 = m := by omega
  have em : (64 * m + (63 - K)) % 64 = 63 - K := by omega
  exact ⟨64 * m + (63 - K), ⟨by rw [ed], by rw [ed, em]; exact g1, by rw [ed, em]; exact g2, fun j hj => hz j (by rw [ed] at hj; omega)⟩, by omega⟩
theorem bits_of_top {n p : Nat} {c : Nat → Nat} {B : Int} (ht : Top n c p) (hB : BitR n c B) : B = (p : Int) + 1 := by
  obtain ⟨e, h1, h2, hz⟩ := ht
  have hp := Nat.two_pow_pos (p % 64)
  have hnz : Nz n c := ⟨by omega, by rw [e, Nat.add_sub_cancel]; omega⟩
  obtain ⟨p', ht', hB'⟩ := top_of_bits hnz (fun j hj => hz j (by omega)) hB
  obtain ⟨e', h1', h2', _⟩ := ht'
  have hq : p / 64 = p' / 64 := by omega
  rw [← hq] at h1' h2'
  have hr : p % 64 = p' % 64 := by
    rcases Nat.lt_trichotomy (p % 64) (p' % 64) with g | g | g
    · have := Nat.pow_le_pow_right (show 0 < 2 by omega) (show p % 64 + 1 ≤ p' % 64 by omega)
      omega
    · exact g
    · have := Nat.pow_le_pow_right (show 0 < 2 by omega) (show p' % 64 + 1 ≤ p % 64 by omega)
      omega
  omega
/-- A number with a top bit is not zero. -/
theorem nval_top {n p : Nat} {c : Nat → Nat} (ht : Top n c p) (hp : p < 3328) : 1 ≤ nval c 52 := by
  have hc : 1 ≤ c (p / 64) := Nat.le_trans (Nat.two_pow_pos _) ht.lo
  have key : ∀ k, p / 64 < k → 1 ≤ nval c k := by
    intro k hk
    induction k with
    | zero => omega
    | succ k ih =>
      unfold nval
      by_cases e : p / 64 = k
      · rw [← e]
        have : 1 ≤ c (p / 64) * 18446744073709551616 ^ (p / 64) := Nat.mul_pos hc (Nat.pow_pos (by decide))
        omega
      · have := ih (by omega)
        omega
  exact key 52 (by omega)
end Go.Proofs.YgcoaaGreat.NatW
