/-
  Plain facts: a word smeared down from its highest bit.
-/
import Derived.Test.YgcoaaGreatLimbs
set_option linter.unusedVariables false
namespace Go.Proofs.YgcoaaGreat.Bits

def sm (x j : Nat) : Nat := x ||| (x / 2 ^ j)

theorem sm_step (x k j : Nat) (h : ∀ i, i < k → k ≤ i + j → x.testBit i = true) (i : Nat) (hi : i < k) (hk : k ≤ i + 2 * j) : (sm x j).testBit i = true := by
  unfold sm
  rw [Nat.testBit_or, Bool.or_eq_true]
  by_cases h1 : k ≤ i + j
  · exact .inl (h i hi h1)
  · right
    rw [Nat.testBit_div_two_pow]
    exact h (i + j) (by omega) (by omega)
theorem sm_lt (x k j : Nat) (h : x < 2 ^ k) : sm x j < 2 ^ k := Nat.or_lt_two_pow h (Nat.lt_of_le_of_lt (Nat.div_le_self _ _) h)

def smear (x : Nat) : Nat := sm (sm (sm (sm (sm (sm x 1) 2) 4) 8) 16) 32

/-- All the bits below the highest are set. -/
theorem smear_eq (x k : Nat) (hk : k ≤ 63) (h1 : 2 ^ k ≤ x) (h2 : x < 2 ^ (k + 1)) : smear x = 2 ^ (k + 1) - 1 := by
  have h0 : ∀ i, i < k + 1 → k + 1 ≤ i + 1 → x.testBit i = true := by
    intro i hi hik
    obtain rfl : i = k := by omega
    rw [Nat.testBit_eq_decide_div_mod_eq]
    have hd : x / 2 ^ i = 1 := by
      apply Nat.div_eq_of_lt_le
      · omega
      · rw [Nat.pow_succ] at h2; omega
    simp [hd]
  have s1 := sm_step x (k + 1) 1 h0
  have s2 := sm_step _ (k + 1) 2 s1
  have s3 := sm_step _ (k + 1) 4 s2
  have s4 := sm_step _ (k + 1) 8 s3
  have s5 := sm_step _ (k + 1) 16 s4
  have s6 := sm_step _ (k + 1) 32 s5
  have hlt : smear x < 2 ^ (k + 1) := sm_lt _ _ _ (sm_lt _ _ _ (sm_lt _ _ _ (sm_lt _ _ _ (sm_lt _ _ _ (sm_lt _ _ _ h2)))))
  apply Nat.eq_of_testBit_eq
  intro i
  rw [Nat.testBit_two_pow_sub_one]
  by_cases hi : i < k + 1
  · rw [decide_eq_true hi]
    exact s6 i hi (by omega)
  · rw [decide_eq_false hi]
    exact Nat.testBit_lt_two_pow (Nat.lt_of_lt_of_le hlt (Nat.pow_le_pow_right (by omega) (by omega)))

/-- The highest bit's place. -/
theorem top_of (x : Nat) (h0 : x ≠ 0) (h : x < 2 ^ 64) : ∃ k, k ≤ 63 ∧ 2 ^ k ≤ x ∧ x < 2 ^ (k + 1) := by
  refine ⟨Nat.log2 x, ?_, Nat.log2_self_le h0, Nat.lt_log2_self⟩
  have := (Nat.log2_lt h0).2 h
  omega

end Go.Proofs.YgcoaaGreat.Bits
