/-
  PLAIN: the loops of Mul, Add, Succ, Sub, lift, Shr: what a round does. Nothing of Go here.
-/
import Derived.Test.YgcoaaGreatLimbs2
set_option linter.unusedVariables false
set_option linter.unusedSimpArgs false
namespace Go.Proofs.YgcoaaGreat.Limbs

theorem getD_set (l : List Nat) (k v t : Nat) : (l.set k v).getD t 0 = if k = t ∧ k < l.length then v else l.getD t 0 := by
  simp only [List.getD_eq_getElem?_getD, List.getElem?_set]
  by_cases h : k = t
  · subst h
    by_cases h2 : k < l.length
    · simp [h2]
    · simp [h2]
  · simp [h]

theorem gset_ne (l : List Nat) (k v t : Nat) (h : k ≠ t) : (l.set k v).getD t 0 = l.getD t 0 := by
  rw [getD_set, if_neg (by omega)]

theorem getD_replicate (n t : Nat) : (List.replicate n 0).getD t 0 = 0 := by
  simp only [List.getD_eq_getElem?_getD, List.getElem?_replicate]
  split <;> rfl

theorem prod_lt (a b : Nat) (ha : a < 4294967296) (hb : b < 4294967296) : a * b ≤ 18446744065119617025 := by
  have := Nat.mul_le_mul (show a ≤ 4294967295 from by omega) (show b ≤ 4294967295 from by omega)
  omega

/-- One place takes x = its limb and what is added; the rest goes on as a carry. -/
theorem carry_step (cl : List Nat) (k x d : Nat) (hk : k < cl.length) (hx : x = d + cl.getD k 0) :
    val (cl.set k (x % 4294967296)) + 4294967296 ^ (k + 1) * (x / 4294967296) = val cl + 4294967296 ^ k * d := by
  have h1 := val_set cl k (x % 4294967296) hk
  have h2 : 4294967296 ^ k * (x % 4294967296) + 4294967296 ^ (k + 1) * (x / 4294967296) = 4294967296 ^ k * x := by
    rw [Nat.pow_succ, Nat.mul_assoc, ← Nat.mul_add, Nat.mod_add_div]
  have h3 : 4294967296 ^ k * x = 4294967296 ^ k * d + 4294967296 ^ k * cl.getD k 0 := by rw [hx, Nat.mul_add]
  omega

/-- Mul, the inner loop. -/
theorem mul_step (cl m : List Nat) (i j a c P x : Nat) (hj : j < m.length) (hk : i + j < cl.length)
    (hx : x = c + (a * m.getD j 0 + cl.getD (i + j) 0))
    (h : val cl + 4294967296 ^ (i + j) * c = P + 4294967296 ^ i * (a * val (m.take j))) :
    val (cl.set (i + j) (x % 4294967296)) + 4294967296 ^ (i + (j + 1)) * (x / 4294967296) = P + 4294967296 ^ i * (a * val (m.take (j + 1))) := by
  have h1 := carry_step cl (i + j) x (c + a * m.getD j 0) hk (by omega)
  rw [← Nat.add_assoc, h1, val_take_succ m j hj, Nat.mul_add, ← Nat.add_assoc, h]
  generalize m.getD j 0 = y
  rw [Nat.mul_add, Nat.mul_add, Nat.pow_add, Nat.add_assoc]
  congr 2
  rw [Nat.mul_assoc, Nat.mul_left_comm (4294967296 ^ j) a y]

theorem mul_top (cl m : List Nat) (i a c P : Nat) (hk : i + m.length < cl.length) (hz : cl.getD (i + m.length) 0 = 0)
    (h : val cl + 4294967296 ^ (i + m.length) * c = P + 4294967296 ^ i * (a * val (m.take m.length))) :
    val (cl.set (i + m.length) c) = P + 4294967296 ^ i * (a * val m) := by
  have h1 := val_set cl (i + m.length) c hk
  rw [hz, Nat.mul_zero, Nat.add_zero] at h1
  rw [List.take_length] at h
  omega

theorem mul_next (l : List Nat) (i n : Nat) (hi : i < l.length) : val (l.take i) * n + 4294967296 ^ i * (l.getD i 0 * n) = val (l.take (i + 1)) * n := by
  rw [val_take_succ l i hi, Nat.add_mul, Nat.mul_assoc]

/-- Add: a place of the sum. -/
theorem add_step (cl : List Nat) (k x d A : Nat) (hk : k < cl.length) (hz : cl.getD k 0 = 0) (c : Nat) (hx : x = c + d)
    (h : val cl + 4294967296 ^ k * c = A) : val (cl.set k (x % 4294967296)) + 4294967296 ^ (k + 1) * (x / 4294967296) = A + 4294967296 ^ k * d := by
  have h1 := carry_step cl k x (c + d) hk (by omega)
  rw [h1, Nat.mul_add]; omega

theorem take_all (l : List Nat) (k : Nat) (h : l.length ≤ k) : l.take k = l := List.take_of_length_le h
theorem val_take_beyond (l : List Nat) (k : Nat) (h : l.length ≤ k) : val (l.take (k + 1)) = val (l.take k) := by
  rw [take_all l k h, take_all l (k + 1) (by omega)]

/-- lift: a limb's two halves. -/
theorem pow_split (r : Nat) (hr : r < 32) : 4294967296 = 2 ^ (32 - r) * 2 ^ r := by
  rw [← Nat.pow_add, show 32 - r + r = 32 from by omega]
theorem shl_low (X r : Nat) (hr : r < 32) : X * 2 ^ r % 4294967296 = X % 2 ^ (32 - r) * 2 ^ r := by
  have e := Nat.mul_mod_mul_right (2 ^ r) X (2 ^ (32 - r))
  rw [← pow_split r hr] at e
  exact e
theorem shl_low_le (X r : Nat) (hr : r < 32) : X * 2 ^ r % 4294967296 + 2 ^ r ≤ 4294967296 := by
  rw [shl_low X r hr]
  have h1 : X % 2 ^ (32 - r) < 2 ^ (32 - r) := Nat.mod_lt _ (Nat.pow_pos (by omega))
  have h2 : (X % 2 ^ (32 - r) + 1) * 2 ^ r ≤ 2 ^ (32 - r) * 2 ^ r := Nat.mul_le_mul_right _ h1
  rw [← pow_split r hr, Nat.add_mul, Nat.one_mul] at h2
  exact h2
theorem shl_high_lt (X r : Nat) (hX : X < 4294967296) : X * 2 ^ r / 4294967296 < 2 ^ r := by
  rw [Nat.div_lt_iff_lt_mul (by omega), Nat.mul_comm]
  exact Nat.mul_lt_mul_of_pos_left hX (Nat.pow_pos (by omega))
theorem shl_lt (X r : Nat) (hX : X < 4294967296) (hr : r < 32) : X * 2 ^ r < 18446744073709551616 := by
  have h1 : 2 ^ r ≤ 2 ^ 31 := Nat.pow_le_pow_right (by omega) (by omega)
  have h2 : X * 2 ^ r ≤ 4294967295 * 2 ^ 31 := Nat.mul_le_mul (by omega) h1
  omega
theorem pow32_le (r : Nat) (hr : r < 32) : 2 ^ r ≤ 2147483648 := Nat.pow_le_pow_right (n := 2) (by omega) (show r ≤ 31 by omega)

theorem lift_step (cl L : List Nat) (i s r : Nat) (hL : Lt L) (hr : r < 32) (hi : i < L.length) (hk : i + s + 1 < cl.length)
    (hlow : cl.getD (i + s) 0 < 2 ^ r) (hzero : ∀ t, i + s + 1 ≤ t → cl.getD t 0 = 0)
    (h : val cl = 4294967296 ^ s * (2 ^ r * val (L.take i))) (X : Nat) (hX : X = L.getD i 0) :
    val ((cl.set (i + s) (cl.getD (i + s) 0 + X * 2 ^ r % 4294967296)).set (i + s + 1) (X * 2 ^ r / 4294967296)) = 4294967296 ^ s * (2 ^ r * val (L.take (i + 1))) := by
  have h1 := val_set cl (i + s) (cl.getD (i + s) 0 + X * 2 ^ r % 4294967296) (by omega)
  have h2 := val_set (cl.set (i + s) (cl.getD (i + s) 0 + X * 2 ^ r % 4294967296)) (i + s + 1) (X * 2 ^ r / 4294967296) (by simpa using hk)
  rw [gset_ne _ _ _ _ (by omega), hzero _ (Nat.le_refl _), Nat.mul_zero, Nat.add_zero] at h2
  rw [h2]
  rw [Nat.mul_add] at h1
  have h3 : 4294967296 ^ (i + s) * (X * 2 ^ r % 4294967296) + 4294967296 ^ (i + s + 1) * (X * 2 ^ r / 4294967296) = 4294967296 ^ (i + s) * (X * 2 ^ r) := by
    rw [Nat.pow_succ, Nat.mul_assoc, ← Nat.mul_add, Nat.mod_add_div]
  rw [val_take_succ L i hi, ← hX, Nat.mul_add, Nat.mul_add, ← h]
  have h4 : 4294967296 ^ s * (2 ^ r * (4294967296 ^ i * X)) = 4294967296 ^ (i + s) * (X * 2 ^ r) := by
    rw [Nat.pow_add]
    generalize 4294967296 ^ s = p
    generalize 4294967296 ^ i = q
    generalize 2 ^ r = t
    rw [Nat.mul_comm t, Nat.mul_assoc q X t, ← Nat.mul_assoc p, Nat.mul_comm p q]
  omega

theorem lift_end (L : List Nat) (k x : Nat) (h : val L = x) : 4294967296 ^ (k / 32) * (2 ^ (k % 32) * val (L.take L.length)) = x * 2 ^ k := by
  rw [List.take_length, h, base_pow, ← Nat.mul_assoc, ← Nat.pow_add, show 32 * (k / 32) + k % 32 = k from by omega, Nat.mul_comm]

/-! Shr -/
theorem two_limbs (y r : Nat) (hr : r < 32) : y % 18446744073709551616 / 2 ^ r % 4294967296 = y / 2 ^ r % 4294967296 := by
  rw [show (18446744073709551616 : Nat) = 2 ^ 64 from rfl, show (4294967296 : Nat) = 2 ^ 32 from rfl]
  apply Nat.eq_of_testBit_eq
  intro j
  simp only [Nat.testBit_mod_two_pow, Nat.testBit_div_two_pow]
  by_cases hj : j < 32
  · have : j + r < 64 := by omega
    simp [hj, this]
  · simp [hj]

theorem shr_div (x k i : Nat) : x / 2 ^ k / 4294967296 ^ i = x / 4294967296 ^ (i + k / 32) / 2 ^ (k % 32) := by
  rw [Nat.div_div_eq_div_mul, Nat.div_div_eq_div_mul, base_pow, base_pow, ← Nat.pow_add, ← Nat.pow_add]
  congr 2
  omega

/-- The two limbs at place j of x's limbs. -/
theorem pair_at (x j : Nat) : (lim x).getD j 0 + 4294967296 * (lim x).getD (j + 1) 0 = x / 4294967296 ^ j % 18446744073709551616 := by
  rw [lim_getD, lim_getD, Nat.pow_succ, ← Nat.div_div_eq_div_mul, show (18446744073709551616 : Nat) = 4294967296 * 4294967296 from rfl, Nat.mod_mul]

theorem shr_limb (x k i : Nat) : ((lim x).getD (i + k / 32) 0 + 4294967296 * (lim x).getD (i + k / 32 + 1) 0) / 2 ^ (k % 32) % 4294967296 = x / 2 ^ k / 4294967296 ^ i % 4294967296 := by
  rw [pair_at, two_limbs _ _ (by omega), shr_div]

theorem shr_step (ql : List Nat) (i q v : Nat) (hi : i < ql.length) (hz : ql.getD i 0 = 0) (h : val ql = q % 4294967296 ^ i) (hv : v = q / 4294967296 ^ i % 4294967296) :
    val (ql.set i v) = q % 4294967296 ^ (i + 1) := by
  have h1 := val_set ql i v hi
  rw [hz, Nat.mul_zero, Nat.add_zero] at h1
  rw [h1, h, hv, Nat.mod_pow_succ]

theorem shr_end (x k : Nat) (h : k / 32 < (lim x).length) : x / 2 ^ k % 4294967296 ^ ((lim x).length - k / 32) = x / 2 ^ k := by
  apply Nat.mod_eq_of_lt
  have h1 := lt_of_lim_length x
  rw [Nat.div_lt_iff_lt_mul (Nat.pow_pos (by omega))]
  refine Nat.lt_of_lt_of_le h1 ?_
  rw [base_pow, base_pow, ← Nat.pow_add]
  exact Nat.pow_le_pow_right (by omega) (by omega)

theorem getD_beyond (l : List Nat) (j : Nat) (h : l.length ≤ j) : l.getD j 0 = 0 := by
  rw [List.getD_eq_getElem?_getD, List.getElem?_eq_none (by omega)]; rfl

theorem shr_gone (x k : Nat) (h : (lim x).length ≤ k / 32) : x / 2 ^ k = 0 ∧ x % 2 ^ k = x := by
  have h1 := lt_of_lim_length x
  have h2 : x < 2 ^ k := by
    refine Nat.lt_of_lt_of_le h1 ?_
    rw [base_pow]
    exact Nat.pow_le_pow_right (by omega) (by omega)
  exact ⟨Nat.div_eq_of_lt h2, Nat.mod_eq_of_lt h2⟩

/-- What Shr pushes out. -/
theorem shr_lost (x k : Nat) (h : k / 32 < (lim x).length) : x % 2 ^ k = val ((lim x).take (k / 32)) + 4294967296 ^ (k / 32) * ((lim x).getD (k / 32) 0 % 2 ^ (k % 32)) := by
  have e : 2 ^ k = 4294967296 ^ (k / 32) * 2 ^ (k % 32) := by
    rw [base_pow, ← Nat.pow_add]; congr 1; omega
  rw [e, Nat.mod_mul]
  have h1 := val_mod (lim x) (Lt_lim x) (k / 32) (by omega)
  rw [val_lim] at h1
  rw [h1, lim_getD]
  congr 2
  rw [show (4294967296 : Nat) = 2 ^ 32 from rfl]
  apply Nat.eq_of_testBit_eq
  intro j
  simp only [Nat.testBit_mod_two_pow]
  by_cases hj : j < k % 32
  · have : j < 32 := by omega
    simp [hj, this]
  · simp [hj]

theorem shr_lost_iff (x k : Nat) (h : k / 32 < (lim x).length) : (x % 2 ^ k ≠ 0) ↔ (val ((lim x).take (k / 32)) ≠ 0 ∨ (lim x).getD (k / 32) 0 % 2 ^ (k % 32) ≠ 0) := by
  rw [shr_lost x k h]
  have hp : 0 < 4294967296 ^ (k / 32) := Nat.pow_pos (by omega)
  constructor
  · intro h1
    by_cases h2 : val ((lim x).take (k / 32)) = 0
    · right; intro h3; rw [h2, h3] at h1; simp at h1
    · exact .inl h2
  · rintro (h1 | h1)
    · omega
    · have : 0 < 4294967296 ^ (k / 32) * ((lim x).getD (k / 32) 0 % 2 ^ (k % 32)) := Nat.mul_pos hp (by omega)
      omega

theorem lost_step (L : List Nat) (i : Nat) (h : i < L.length) : (val (L.take (i + 1)) ≠ 0) ↔ (val (L.take i) ≠ 0 ∨ L.getD i 0 ≠ 0) := by
  rw [val_take_succ L i h]
  have hp : 0 < 4294967296 ^ i := Nat.pow_pos (by omega)
  constructor
  · intro h1
    by_cases h2 : val (L.take i) = 0
    · right; intro h3; rw [h2, h3] at h1; simp at h1
    · exact .inl h2
  · rintro (h1 | h1)
    · omega
    · have : 0 < 4294967296 ^ i * L.getD i 0 := Nat.mul_pos hp (by omega)
      omega

end Go.Proofs.YgcoaaGreat.Limbs
