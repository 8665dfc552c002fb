/-
  PLAIN: long division of limbs: the round of divLong, its start and its end. Nothing of Go here.
-/
import Derived.Test.YgcoaaGreatDivPlain
set_option linter.unusedVariables false
set_option linter.unusedSimpArgs false
namespace Go.Proofs.YgcoaaGreat.Limbs

theorem getD_val_le (l : List Nat) (t : Nat) : 4294967296 ^ t * l.getD t 0 ≤ val l := by
  by_cases h : t < l.length
  · have h1 := val_split l t (by omega)
    rw [val_drop l t h, Nat.mul_add] at h1
    omega
  · rw [getD_beyond l t (by omega)]; simp

theorem zero_above (l : List Nat) (k t : Nat) (h : val l < 4294967296 ^ k) (ht : k ≤ t) : l.getD t 0 = 0 := by
  have h1 := getD_val_le l t
  rcases Nat.eq_zero_or_pos (l.getD t 0) with e | e
  · exact e
  · exfalso
    have h2 : 4294967296 ^ k ≤ 4294967296 ^ t := Nat.pow_le_pow_right (by omega) ht
    have h3 : 4294967296 ^ t * 1 ≤ 4294967296 ^ t * l.getD t 0 := Nat.mul_le_mul_left _ e
    omega

theorem val_zeros (l : List Nat) (h : ∀ t, l.getD t 0 = 0) : val l = 0 := by
  induction l with
  | nil => rfl
  | cons x xs ih =>
    have h0 := h 0
    have h1 := ih (fun t => by have := h (t + 1); simpa using this)
    rw [val_cons, h1]
    simpa using h0

theorem lt_of_zero (l : List Nat) (k : Nat) (hl : Lt l) (h : ∀ t, k ≤ t → l.getD t 0 = 0) : val l < 4294967296 ^ k := by
  rcases Nat.lt_or_ge k l.length with hk | hk
  · have h1 := val_split l k (by omega)
    have h2 : val (l.drop k) = 0 := val_zeros _ (fun t => by
      have := h (k + t) (by omega)
      simpa [List.getElem?_drop] using this)
    rw [h2, Nat.mul_zero, Nat.add_zero] at h1
    rw [h1]
    exact val_take_lt l hl k (by omega)
  · exact Nat.lt_of_lt_of_le (val_lt l hl) (Nat.pow_le_pow_right (by omega) hk)

theorem pow_pos (k : Nat) : 0 < 4294967296 ^ k := Nat.pow_pos (by omega)

theorem mul3 (F E : Nat) : F * 4294967296 * E = 4294967296 * (F * E) := by rw [Nat.mul_comm F, Nat.mul_assoc]

/-- What divLong's round knows of u, d and the quotient limb: all that the guess needs. -/
theorem round_guess (ul D : List Nat) (j n : Nat) (hul : Lt ul) (hD : Lt D) (hn : D.length = n) (h2 : 2 ≤ n) (hlen : j + n < ul.length) (hd : 2147483648 ≤ D.getD (n - 1) 0)
    (hlt : val ul < 4294967296 ^ (j + 1) * val D) :
    ul.getD (j + n) 0 ≤ D.getD (n - 1) 0 ∧ ∀ q, q = val (ul.drop j) / val D →
      q ≤ gst (ul.getD (j + n) 0 * 4294967296 + ul.getD (j + n - 1) 0) (ul.getD (j + n - 2) 0) (D.getD (n - 1) 0) (D.getD (n - 2) 0) ∧
      gst (ul.getD (j + n) 0 * 4294967296 + ul.getD (j + n - 1) 0) (ul.getD (j + n - 2) 0) (D.getD (n - 1) 0) (D.getD (n - 2) 0) ≤ q + 1 := by
  obtain ⟨m, rfl⟩ : ∃ m, n = m + 2 := ⟨n - 2, by omega⟩
  simp only [show m + 2 - 1 = m + 1 from rfl, show m + 2 - 2 = m from rfl, show j + (m + 2) - 1 = j + m + 1 from rfl, show j + (m + 2) - 2 = j + m from rfl, show j + (m + 2) = j + m + 2 from rfl] at *
  -- d
  have hW : val D = (D.getD (m + 1) 0 * 4294967296 + D.getD m 0) * 4294967296 ^ m + val (D.take m) := by
    have h1 := val_split D m (by omega)
    rw [val_drop D m (by omega), val_drop D (m + 1) (by omega), List.drop_of_length_le (by omega : D.length ≤ m + 1 + 1), val_nil] at h1
    rw [h1, Nat.mul_comm (4294967296 ^ m)]
    generalize 4294967296 ^ m = E
    rw [Nat.add_comm (val (D.take m))]
    congr 2
    omega
  have hw := val_take_lt D hD m (by omega)
  -- u above place j
  have hpj := pow_pos j
  have hV : val (ul.drop j) < 4294967296 * val D := by
    have h1 := val_split ul j (by omega)
    rw [Nat.pow_succ, Nat.mul_assoc] at hlt
    have : 4294967296 ^ j * val (ul.drop j) < 4294967296 ^ j * (4294967296 * val D) := by omega
    exact Nat.lt_of_mul_lt_mul_left this
  have hDn := val_lt D hD
  rw [hn] at hDn
  have hz : ul.drop (j + m + 3) = ul.drop (j + m + 3) := rfl
  have hz0 : val (ul.drop (j + m + 3)) = 0 := by
    apply val_zeros
    intro t
    have hu : val ul < 4294967296 ^ (j + m + 3) := by
      refine Nat.lt_of_lt_of_le hlt ?_
      rw [show j + m + 3 = (j + 1) + (m + 2) from by omega, Nat.pow_add 4294967296 (j + 1) (m + 2)]
      exact Nat.mul_le_mul_left _ (Nat.le_of_lt hDn)
    have := zero_above ul (j + m + 3) (j + m + 3 + t) hu (by omega)
    simpa [List.getElem?_drop] using this
  have hdd : ul.drop (j + m) = (ul.drop j).drop m := by rw [List.drop_drop]
  have hVs : val (ul.drop j) = ((ul.getD (j + m + 2) 0 * 4294967296 + ul.getD (j + m + 1) 0) * 4294967296 + ul.getD (j + m) 0) * 4294967296 ^ m + val ((ul.drop j).take m) := by
    have h1 := val_split (ul.drop j) m (by simp; omega)
    rw [← hdd, val_drop ul (j + m) (by omega), val_drop ul (j + m + 1) (by omega), val_drop ul (j + m + 1 + 1) (by omega)] at h1
    rw [show j + m + 1 + 1 + 1 = j + m + 3 from rfl, hz0, show j + m + 1 + 1 = j + m + 2 from rfl] at h1
    rw [h1, Nat.mul_comm (4294967296 ^ m)]
    generalize 4294967296 ^ m = E
    rw [Nat.add_comm (val ((ul.drop j).take m))]
    congr 2
    omega
  have hv := val_take_lt (ul.drop j) (Lt_drop hul j) m (by simp; omega)
  have p1 := getD_lt D hD m
  have p2 := getD_lt D hD (m + 1)
  constructor
  · -- the top limb
    rcases Nat.lt_or_ge (D.getD (m + 1) 0) (ul.getD (j + m + 2) 0) with h | h
    · exfalso
      have h3 : (D.getD (m + 1) 0 + 1) * 4294967296 * 4294967296 ≤ (ul.getD (j + m + 2) 0 * 4294967296 + ul.getD (j + m + 1) 0) * 4294967296 + ul.getD (j + m) 0 := by omega
      have h4 := Nat.mul_le_mul_right (4294967296 ^ m) h3
      have h5 : val D < (D.getD (m + 1) 0 + 1) * 4294967296 * 4294967296 ^ m := by
        have h6 : (D.getD (m + 1) 0 * 4294967296 + D.getD m 0 + 1) * 4294967296 ^ m ≤ (D.getD (m + 1) 0 + 1) * 4294967296 * 4294967296 ^ m := Nat.mul_le_mul_right _ (by omega)
        rw [Nat.add_mul _ 1, Nat.one_mul] at h6
        omega
      have h7 : 4294967296 * val D ≤ (D.getD (m + 1) 0 + 1) * 4294967296 * 4294967296 * 4294967296 ^ m := by
        have := Nat.mul_le_mul_left 4294967296 (Nat.le_of_lt h5)
        exact Nat.le_trans this (Nat.le_of_eq (mul3 _ _).symm)
      omega
    · exact h
  · intro q hq
    exact knuth (val (ul.drop j)) (val D) (4294967296 ^ m) q _ _ _ _ _ _ hVs hW hv hw hd hq hV

/-- The round without a borrow: the guess was right. -/
theorem round_no (ul ul' : List Nat) (j dg W q : Nat) (hul : Lt ul) (hj : j ≤ ul.length) (hW : 0 < W) (hq : q = val (ul.drop j) / W) (h1 : q ≤ dg) (h : val ul' + 4294967296 ^ j * (dg * W) = val ul) : dg = q := by
  have h2 := val_split ul j hj
  have h3 := val_take_lt ul hul j hj
  have h4 : 4294967296 ^ j * (dg * W) < 4294967296 ^ j * (val (ul.drop j) + 1) := by rw [Nat.mul_add]; omega
  have h5 := Nat.lt_of_mul_lt_mul_left h4
  have h6 : dg ≤ q := by rw [hq]; exact (Nat.le_div_iff_mul_le hW).2 (by omega)
  omega

/-- The round with a borrow: the guess was one too great; putBack mends it. -/
theorem round_yes (ul ul' ul'' : List Nat) (j k dg W q co : Nat) (hul : Lt ul) (hj : j ≤ ul.length) (hW : 0 < W) (hq : q = val (ul.drop j) / W) (h1 : dg ≤ q + 1)
    (hb : val ul < 4294967296 ^ k) (hb' : val ul' < 4294967296 ^ k) (hb'' : val ul'' < 4294967296 ^ k)
    (h : val ul' + 4294967296 ^ j * (dg * W) = val ul + 4294967296 ^ k) (h2 : val ul'' + 4294967296 ^ k * co = val ul' + 4294967296 ^ j * W) :
    dg = q + 1 ∧ val ul'' + 4294967296 ^ j * (q * W) = val ul := by
  have hs := val_split ul j hj
  have h3 : 4294967296 ^ j * val (ul.drop j) < 4294967296 ^ j * (dg * W) := by omega
  have h4 := Nat.lt_of_mul_lt_mul_left h3
  have h5 : q < dg := by rw [hq]; exact (Nat.div_lt_iff_lt_mul hW).2 h4
  have h6 : dg = q + 1 := by omega
  refine ⟨h6, ?_⟩
  have h7 : 4294967296 ^ j * (q * W) ≤ val ul := by
    have : q * W ≤ val (ul.drop j) := by rw [hq]; exact Nat.div_mul_le_self _ _
    have := Nat.mul_le_mul_left (4294967296 ^ j) this
    omega
  have h8 : 4294967296 ^ j * (dg * W) = 4294967296 ^ j * (q * W) + 4294967296 ^ j * W := by rw [h6, Nat.add_mul, Nat.one_mul, Nat.mul_add]
  have h9 : val ul'' + 4294967296 ^ k * co + 4294967296 ^ j * (q * W) = val ul + 4294967296 ^ k := by omega
  match co, h9 with
  | 0, h9 => rw [Nat.mul_zero] at h9; omega
  | 1, h9 => rw [Nat.mul_one] at h9; omega
  | c + 2, h9 =>
    have : 4294967296 ^ k * (c + 2) = 4294967296 ^ k * c + 4294967296 ^ k * 2 := Nat.mul_add _ _ _
    omega

/-- What the round leaves. -/
theorem round_rest (ul ul' : List Nat) (j W q : Nat) (hul : Lt ul) (hj : j ≤ ul.length) (hW : 0 < W) (hq : q = val (ul.drop j) / W) (h : val ul' + 4294967296 ^ j * (q * W) = val ul) : val ul' < 4294967296 ^ j * W := by
  have h2 := val_split ul j hj
  have h3 := val_take_lt ul hul j hj
  have h4 : val (ul.drop j) < q * W + W := by
    have := Nat.lt_div_mul_add (a := val (ul.drop j)) hW
    rw [← hq] at this; exact this
  have h5 : 4294967296 ^ j * (val (ul.drop j) + 1) ≤ 4294967296 ^ j * (q * W + W) := Nat.mul_le_mul_left _ h4
  rw [Nat.mul_add, Nat.mul_add] at h5
  omega

theorem round_quot (ql : List Nat) (j q W A U U' : Nat) (hj : j < ql.length) (hz : ql.getD j 0 = 0) (h : U + val ql * W = A) (h2 : U' + 4294967296 ^ j * (q * W) = U) : U' + val (ql.set j q) * W = A := by
  have h1 := val_set ql j q hj
  rw [hz, Nat.mul_zero, Nat.add_zero] at h1
  rw [h1, Nat.add_mul, Nat.mul_assoc]
  omega

/-- The shifted divisor has as many limbs, its top bit set. -/
theorem norm_div (y n s : Nat) (h0 : y ≠ 0) (hn : (lim y).length = n) (hs : s = 32 - bl ((lim y).getD (n - 1) 0)) :
    (lim (y * 2 ^ s)).length = n ∧ 2147483648 ≤ (lim (y * 2 ^ s)).getD (n - 1) 0 ∧ s < 32 := by
  have hp := (lim_length_pos y).2 h0
  have htop := lim_top y h0
  have hbl := bl_lim y h0
  rw [hn] at htop hbl
  have h1 := bl32 _ (getD_lt (lim y) (Lt_lim y) (n - 1))
  have h2 := bl_pos _ htop
  have hbs : bl y + s = 32 * n := by omega
  have hlt := bl_lt y
  have hge := bl_ge y h0
  have hy := bl_pos y h0
  have e1 : y * 2 ^ s < 4294967296 ^ n := by
    rw [base_pow, ← hbs, Nat.pow_add]
    exact Nat.mul_lt_mul_of_pos_right hlt (Nat.pow_pos (by omega))
  have e2 : 4294967296 ^ (n - 1) * 2147483648 ≤ y * 2 ^ s := by
    have : 4294967296 ^ (n - 1) * 2147483648 = 2 ^ (bl y - 1) * 2 ^ s := by
      rw [base_pow, show (2147483648 : Nat) = 2 ^ 31 from rfl, ← Nat.pow_add, ← Nat.pow_add]
      congr 1; omega
    rw [this]
    exact Nat.mul_le_mul_right _ hge
  have e3 : (lim (y * 2 ^ s)).length ≤ n := lim_length_le _ _ e1
  have e4 : n ≤ (lim (y * 2 ^ s)).length := by
    have h3 := lt_of_lim_length (y * 2 ^ s)
    have h4 : 4294967296 ^ (n - 1) < 4294967296 ^ (lim (y * 2 ^ s)).length := by omega
    have := (Nat.pow_lt_pow_iff_right (by omega : 1 < 4294967296)).1 h4
    omega
  refine ⟨by omega, ?_, by omega⟩
  rw [lim_getD]
  have h5 : 2147483648 ≤ y * 2 ^ s / 4294967296 ^ (n - 1) := (Nat.le_div_iff_mul_le (pow_pos _)).2 (by rw [Nat.mul_comm]; exact e2)
  have h6 : y * 2 ^ s / 4294967296 ^ (n - 1) < 4294967296 := by
    refine (Nat.div_lt_iff_lt_mul (pow_pos _)).2 ?_
    rw [Nat.mul_comm 4294967296 (4294967296 ^ (n - 1)), ← Nat.pow_succ, Nat.succ_eq_add_one, show n - 1 + 1 = n from by omega]
    exact e1
  omega

theorem div_start (x y la n s : Nat) (hx : x < 4294967296 ^ la) (hy : y ≠ 0) (hn : (lim y).length = n) (hle : n ≤ la) : x * 2 ^ s < 4294967296 ^ (la - n + 1) * (y * 2 ^ s) := by
  have hp := (lim_length_pos y).2 hy
  have h1 := ge_of_lim_length y hy
  rw [hn] at h1
  have h2 : x < 4294967296 ^ (la - n + 1) * y := by
    refine Nat.lt_of_lt_of_le hx ?_
    rw [show la = (la - n + 1) + (n - 1) from by omega, Nat.pow_add]
    rw [show la - n + 1 + (n - 1) - n + 1 = la - n + 1 from by omega]
    exact Nat.mul_le_mul_left _ h1
  rw [← Nat.mul_assoc]
  exact Nat.mul_lt_mul_of_pos_right h2 (Nat.pow_pos (by omega))

theorem div_end (x y s U Q : Nat) (hy : y ≠ 0) (h : U + Q * (y * 2 ^ s) = x * 2 ^ s) (hlt : U < y * 2 ^ s) : Q = x / y ∧ U / 2 ^ s = x % y := by
  have hp : 0 < 2 ^ s := Nat.pow_pos (by omega)
  have hd := Nat.div_add_mod U (2 ^ s)
  have h1 : U % 2 ^ s = 0 := by
    have : (U + Q * (y * 2 ^ s)) % 2 ^ s = 0 := by rw [h]; exact Nat.mul_mod_left _ _
    rwa [← Nat.mul_assoc, Nat.add_mul_mod_self_right] at this
  have h2 : U = U / 2 ^ s * 2 ^ s := by rw [Nat.mul_comm]; omega
  generalize U / 2 ^ s = R at *
  rw [h2] at h hlt
  have h3 : R < y := Nat.lt_of_mul_lt_mul_right hlt
  have h4 : R + Q * y = x := by
    have : (R + Q * y) * 2 ^ s = x * 2 ^ s := by rw [Nat.add_mul, Nat.mul_assoc]; exact h
    exact Nat.eq_of_mul_eq_mul_right hp this
  rw [← h4]
  constructor
  · rw [Nat.add_mul_div_right _ _ (by omega), Nat.div_eq_of_lt h3, Nat.zero_add]
  · rw [Nat.add_mul_mod_self_right, Nat.mod_eq_of_lt h3]

end Go.Proofs.YgcoaaGreat.Limbs
