/-
  PLAIN: bit lengths, comparison, bits, sums, products, shifts of limbs. Nothing of Go here.
-/
import Derived.Test.YgcoaaGreatLimbs
set_option linter.unusedVariables false
set_option linter.unusedSimpArgs false
namespace Go.Proofs.YgcoaaGreat.Limbs

/-- How many significant bits n has. -/
def bl (n : Nat) : Nat := if n = 0 then 0 else n.log2 + 1

theorem bl_zero : bl 0 = 0 := rfl
theorem bl_half (n : Nat) (h : n ≠ 0) : bl n = bl (n / 2) + 1 := by
  unfold bl
  rw [if_neg h]
  by_cases h1 : n / 2 = 0
  · rw [if_pos h1]
    obtain rfl : n = 1 := by omega
    rfl
  · rw [if_neg h1]
    rw [Nat.log2_def]
    rw [if_pos (by omega)]
theorem bl_lt (n : Nat) : n < 2 ^ bl n := by
  unfold bl
  split
  · subst n; simp
  · exact Nat.lt_log2_self
theorem bl_ge (n : Nat) (h : n ≠ 0) : 2 ^ (bl n - 1) ≤ n := by
  unfold bl
  rw [if_neg h, Nat.add_sub_cancel]
  exact Nat.log2_self_le h
theorem bl_pos (n : Nat) (h : n ≠ 0) : 0 < bl n := by unfold bl; rw [if_neg h]; omega
theorem bl_le (n k : Nat) (h : n < 2 ^ k) : bl n ≤ k := by
  by_cases h0 : n = 0
  · subst h0; simp [bl]
  · have h1 := bl_ge n h0
    have h2 := bl_pos n h0
    have h3 : 2 ^ (bl n - 1) < 2 ^ k := Nat.lt_of_le_of_lt h1 h
    have h4 := (Nat.pow_lt_pow_iff_right (by omega : 1 < 2)).1 h3
    omega
theorem bl_eq (n k : Nat) (h1 : 2 ^ k ≤ n) (h2 : n < 2 ^ (k + 1)) : bl n = k + 1 := by
  have h0 : n ≠ 0 := by have := Nat.pow_pos (n := k) (by omega : 0 < 2); omega
  have h3 := bl_le n _ h2
  have h4 : 2 ^ k < 2 ^ bl n := Nat.lt_of_le_of_lt h1 (bl_lt n)
  have h5 := (Nat.pow_lt_pow_iff_right (by omega : 1 < 2)).1 h4
  omega
theorem bl32 (x : Nat) (h : x < 4294967296) : bl x ≤ 32 := bl_le x 32 h
theorem bl_mono (a b : Nat) (h : a ≤ b) : bl a ≤ bl b := bl_le a _ (Nat.lt_of_le_of_lt h (bl_lt b))

theorem base_pow (k : Nat) : 4294967296 ^ k = 2 ^ (32 * k) := by
  rw [show (4294967296 : Nat) = 2 ^ 32 from rfl, ← Nat.pow_mul]

/-- A list's number, cut at place k. -/
theorem val_split (l : List Nat) (k : Nat) (h : k ≤ l.length) : val l = val (l.take k) + 4294967296 ^ k * val (l.drop k) := by
  have := val_append (l.take k) (l.drop k)
  rwa [List.take_append_drop, List.length_take, Nat.min_eq_left h] at this

theorem drop_getD (l : List Nat) (k : Nat) (h : k < l.length) : l.drop k = l.getD k 0 :: l.drop (k + 1) := by
  rw [List.getD_eq_getElem?_getD, List.getElem?_eq_getElem h]
  exact List.drop_eq_getElem_cons h

theorem val_drop (l : List Nat) (k : Nat) (h : k < l.length) : val (l.drop k) = l.getD k 0 + 4294967296 * val (l.drop (k + 1)) := by
  rw [drop_getD l k h, val_cons]

theorem val_take_lt (l : List Nat) (hl : Lt l) (k : Nat) (h : k ≤ l.length) : val (l.take k) < 4294967296 ^ k := by
  have := val_lt (l.take k) (Lt_take hl k)
  rwa [List.length_take, Nat.min_eq_left h] at this

theorem val_div (l : List Nat) (hl : Lt l) (k : Nat) (h : k ≤ l.length) : val l / 4294967296 ^ k = val (l.drop k) := by
  have h1 := val_split l k h
  have h2 := val_take_lt l hl k h
  rw [h1, Nat.add_mul_div_left _ _ (by omega), Nat.div_eq_of_lt h2, Nat.zero_add]

theorem val_mod (l : List Nat) (hl : Lt l) (k : Nat) (h : k ≤ l.length) : val l % 4294967296 ^ k = val (l.take k) := by
  have h1 := val_split l k h
  have h2 := val_take_lt l hl k h
  rw [h1, Nat.add_mul_mod_self_left, Nat.mod_eq_of_lt h2]

theorem getD_eq (l : List Nat) (hl : Lt l) (k : Nat) : l.getD k 0 = val l / 4294967296 ^ k % 4294967296 := by
  by_cases h : k < l.length
  · rw [val_div l hl k (by omega), val_drop l k h, Nat.add_mul_mod_self_left, Nat.mod_eq_of_lt (getD_lt l hl k)]
  · have h1 := val_lt l hl
    have h2 : val l < 4294967296 ^ k := Nat.lt_of_lt_of_le h1 (Nat.pow_le_pow_right (by omega) (by omega))
    rw [Nat.div_eq_of_lt h2]
    rw [List.getD_eq_getElem?_getD, List.getElem?_eq_none (by omega)]; rfl

theorem lim_getD (n k : Nat) : (lim n).getD k 0 = n / 4294967296 ^ k % 4294967296 := by
  have := getD_eq (lim n) (Lt_lim n) k
  rwa [val_lim] at this

theorem lim_top (n : Nat) (h : n ≠ 0) : (lim n).getD ((lim n).length - 1) 0 ≠ 0 := by
  have hn : lim n ≠ [] := fun e => h ((lim_eq_nil n).1 e)
  have h1 := lim_last n hn
  rw [List.getLast_eq_getElem] at h1
  rw [List.getD_eq_getElem?_getD, List.getElem?_eq_getElem (by have := List.length_pos_iff.2 hn; omega)]
  exact h1

/-- BitLen. -/
theorem bl_lim (n : Nat) (h : n ≠ 0) : bl n = 32 * ((lim n).length - 1) + bl ((lim n).getD ((lim n).length - 1) 0) := by
  have hp := (lim_length_pos n).2 h
  obtain ⟨k, hk⟩ : ∃ k, (lim n).length = k + 1 := ⟨(lim n).length - 1, by omega⟩
  have h1 := val_split (lim n) k (by omega)
  have h2 := val_take_lt (lim n) (Lt_lim n) k (by omega)
  have h3 := val_drop (lim n) k (by omega)
  rw [List.drop_of_length_le (by omega : (lim n).length ≤ k + 1), val_nil, Nat.mul_zero, Nat.add_zero] at h3
  rw [h3, val_lim] at h1
  rw [hk, Nat.add_sub_cancel]
  have h4 := lim_top n h
  rw [hk, Nat.add_sub_cancel] at h4
  generalize (lim n).getD k 0 = t at h1 h4
  have h5 := bl_ge t h4
  have h6 := bl_lt t
  have h7 := bl_pos t h4
  obtain ⟨m, hm⟩ : ∃ m, bl t = m + 1 := ⟨bl t - 1, by omega⟩
  rw [hm] at h5 h6 ⊢
  rw [base_pow] at h1 h2
  rw [← Nat.add_assoc]
  simp only [Nat.add_sub_cancel] at h5
  apply bl_eq
  · rw [Nat.pow_add, h1]
    exact Nat.le_trans (Nat.mul_le_mul_left _ h5) (Nat.le_add_left _ _)
  · rw [Nat.add_assoc, Nat.pow_add, h1]
    have : 2 ^ (32 * k) * (t + 1) ≤ 2 ^ (32 * k) * 2 ^ (m + 1) := Nat.mul_le_mul_left _ h6
    rw [Nat.mul_add] at this
    omega

/-- Cmp's answer. -/
def cmpI (a b : Nat) : Int := if a < b then -1 else if b < a then 1 else 0

theorem cmp_len_lt (a b : Nat) (h : (lim a).length < (lim b).length) : a < b := by
  rcases Nat.lt_or_ge a b with h1 | h1
  · exact h1
  · have := lim_length_mono b a h1; omega

/-- At equal lengths, the limbs above place i equal, place i decides. -/
theorem cmp_at (l m : List Nat) (hl : Lt l) (hm : Lt m) (i : Nat) (h1 : i < l.length) (h2 : i < m.length) (he : l.drop (i + 1) = m.drop (i + 1)) (h : l.getD i 0 < m.getD i 0) : val l < val m := by
  have e1 := val_split l i (by omega)
  have e2 := val_split m i (by omega)
  rw [val_drop l i h1] at e1
  rw [val_drop m i h2, ← he] at e2
  have h3 := val_take_lt l hl i (by omega)
  generalize val (l.drop (i + 1)) = t at e1 e2
  generalize l.getD i 0 = x at *
  generalize m.getD i 0 = y at *
  have h4 : 4294967296 ^ i * (x + 1 + 4294967296 * t) ≤ 4294967296 ^ i * (y + 4294967296 * t) := Nat.mul_le_mul_left _ (by omega)
  have h5 : 4294967296 ^ i * (x + 1 + 4294967296 * t) = 4294967296 ^ i * (x + 4294967296 * t) + 4294967296 ^ i := by
    rw [show x + 1 + 4294967296 * t = (x + 4294967296 * t) + 1 from by omega, Nat.mul_add, Nat.mul_one]
  omega

/-- Bit. -/
def bitAt (n : Nat) (i : Int) : Bool := decide (0 ≤ i) && n.testBit i.toNat

theorem testBit_limb (n j r : Nat) (h : r < 32) : ((lim n).getD j 0).testBit r = n.testBit (32 * j + r) := by
  rw [lim_getD, base_pow, show (4294967296 : Nat) = 2 ^ 32 from rfl, Nat.testBit_mod_two_pow, Nat.testBit_div_two_pow]
  simp [h, Nat.add_comm]

theorem testBit_row (l : List Nat) (hl : Lt l) (j r : Nat) (h : r < 32) : (l.getD j 0).testBit r = (val l).testBit (32 * j + r) := by
  rw [getD_eq l hl, ← lim_getD, testBit_limb _ _ _ h]

theorem testBit_ge (l : List Nat) (hl : Lt l) (k : Nat) (h : 32 * l.length ≤ k) : (val l).testBit k = false := by
  apply Nat.testBit_lt_two_pow
  have h1 := val_lt l hl
  rw [base_pow] at h1
  exact Nat.lt_of_lt_of_le h1 (Nat.pow_le_pow_right (by omega) h)

/-- Two lists of limbs of one length, place by place. -/
theorem drop_step (l m : List Nat) (i : Nat) (h1 : i < l.length) (h2 : i < m.length) (he : l.drop (i + 1) = m.drop (i + 1)) (h : l.getD i 0 = m.getD i 0) : l.drop i = m.drop i := by
  rw [drop_getD l i h1, drop_getD m i h2, he, h]

theorem take_step (l m : List Nat) (i : Nat) (h1 : i < l.length) (h2 : i < m.length) (he : l.take i = m.take i) (h : l.getD i 0 = m.getD i 0) : l.take (i + 1) = m.take (i + 1) := by
  rw [take_succ_getD l i h1, take_succ_getD m i h2, he, h]

end Go.Proofs.YgcoaaGreat.Limbs
