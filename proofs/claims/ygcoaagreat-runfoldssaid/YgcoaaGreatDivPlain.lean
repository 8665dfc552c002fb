/-
  PLAIN: long division of limbs. Nothing of Go here.
-/
import Derived.Test.YgcoaaGreatLimbs3
set_option linter.unusedVariables false
set_option linter.unusedSimpArgs false
namespace Go.Proofs.YgcoaaGreat.Limbs

/-! divLimb: from the top -/
theorem divLimb_step (L ql : List Nat) (j d r X : Nat) (hj : j < L.length) (hq : j < ql.length) (hd : 0 < d) (hX : X = L.getD j 0)
    (hr : r = val (L.drop (j + 1)) % d) (hv : val ql = 4294967296 ^ (j + 1) * (val (L.drop (j + 1)) / d)) (hz : ql.getD j 0 = 0) :
    (r * 4294967296 + X) % d = val (L.drop j) % d ∧ val (ql.set j ((r * 4294967296 + X) / d)) = 4294967296 ^ j * (val (L.drop j) / d) := by
  have h1 := val_drop L j hj
  have h2 := Nat.div_add_mod (val (L.drop (j + 1))) d
  rw [← hr] at h2
  generalize val (L.drop (j + 1)) / d = Q at h2 hv
  have h3 : val (L.drop j) = d * (4294967296 * Q) + (r * 4294967296 + X) := by
    rw [h1, ← hX, ← h2, Nat.mul_add, Nat.mul_left_comm]; omega
  constructor
  · rw [h3, Nat.mul_add_mod]
  · have h4 := val_set ql j ((r * 4294967296 + X) / d) hq
    rw [hz, Nat.mul_zero, Nat.add_zero] at h4
    rw [h4, hv, h3, Nat.mul_add_div hd, Nat.mul_add, Nat.pow_succ, Nat.mul_assoc]

theorem digit_lt (r d X : Nat) (hd : r < d) (hX : X < 4294967296) : (r * 4294967296 + X) / d < 4294967296 := by
  rw [Nat.div_lt_iff_lt_mul (by omega)]
  have : (r + 1) * 4294967296 ≤ d * 4294967296 := Nat.mul_le_mul_right _ hd
  rw [Nat.mul_comm 4294967296 d]; omega

/-! guess -/
/-- The quotient limb that guess answers. -/
def gst (head u0 d1 d0 : Nat) : Nat := min 4294967295 ((head * 4294967296 + u0) / (d1 * 4294967296 + d0))

theorem gst_le (head u0 d1 d0 n : Nat) (h : (head * 4294967296 + u0) / (d1 * 4294967296 + d0) ≤ n) : gst head u0 d1 d0 ≤ n := Nat.le_trans (Nat.min_le_right _ _) h
theorem gst_le' (head u0 d1 d0 n : Nat) (h : 4294967295 ≤ n) : gst head u0 d1 d0 ≤ n := Nat.le_trans (Nat.min_le_left _ _) h
theorem le_gst (head u0 d1 d0 n : Nat) (h1 : n ≤ 4294967295) (h : n ≤ (head * 4294967296 + u0) / (d1 * 4294967296 + d0)) : n ≤ gst head u0 d1 d0 := Nat.le_min.2 ⟨h1, h⟩
theorem gst_lt (head u0 d1 d0 : Nat) : gst head u0 d1 d0 < 4294967296 := Nat.lt_succ_of_le (Nat.min_le_left _ _)

theorem guess_le (est rest head d1 d0 u0 : Nat) (h : est * d1 + rest = head) : est * (d1 * 4294967296 + d0) ≤ head * 4294967296 + u0 ↔ est * d0 ≤ rest * 4294967296 + u0 := by
  rw [← h, Nat.mul_add, Nat.add_mul, ← Nat.mul_assoc]; omega

theorem guess_exit (est rest head u0 d1 d0 : Nat) (hD : 0 < d1) (h : est * d1 + rest = head) (h1 : est ≤ 4294967295) (h2 : est * d0 ≤ rest * 4294967296 + u0) (hm : gst head u0 d1 d0 ≤ est) :
    est = gst head u0 d1 d0 := by
  have h3 := (guess_le est rest head d1 d0 u0 h).2 h2
  refine Nat.le_antisymm (le_gst _ _ _ _ _ h1 ?_) hm
  exact (Nat.le_div_iff_mul_le (by omega)).2 h3

theorem guess_far (est rest d0 u0 : Nat) (h1 : est ≤ 4294967295) (hd : d0 < 4294967296) (hr : 4294967296 ≤ rest) : est * d0 ≤ rest * 4294967296 + u0 := by
  have := Nat.mul_le_mul h1 (show d0 ≤ 4294967295 from by omega)
  omega

theorem guess_go (est rest head u0 d1 d0 : Nat) (hD : 0 < d1) (h : est * d1 + rest = head) (h1 : 4294967296 ≤ est ∨ rest * 4294967296 + u0 < est * d0) (hm : gst head u0 d1 d0 ≤ est) :
    1 ≤ est ∧ gst head u0 d1 d0 ≤ est - 1 ∧ (est - 1) * d1 + (rest + d1) = head := by
  have h0 : 1 ≤ est := by
    rcases h1 with h1 | h1
    · omega
    · rcases Nat.eq_zero_or_pos est with e | e
      · subst e; simp at h1
      · exact e
  refine ⟨h0, ?_, ?_⟩
  · rcases h1 with h1 | h1
    · exact gst_le' _ _ _ _ _ (by omega)
    · have h3 : ¬ est * (d1 * 4294967296 + d0) ≤ head * 4294967296 + u0 := fun h3 => by
        have := (guess_le est rest head d1 d0 u0 h).1 h3; omega
      have h4 : (head * 4294967296 + u0) / (d1 * 4294967296 + d0) < est := (Nat.div_lt_iff_lt_mul (by omega)).2 (Nat.lt_of_not_le h3)
      exact gst_le _ _ _ _ _ (Nat.le_sub_one_of_lt h4)
  · obtain ⟨e, rfl⟩ : ∃ e, est = e + 1 := ⟨est - 1, by omega⟩
    rw [Nat.add_mul] at h
    simp only [Nat.add_sub_cancel]
    omega

theorem guess_start (head u2 u1 u0 d1 d0 : Nat) (hh : head = u2 * 4294967296 + u1) (hu1 : u1 < 4294967296) (hu0 : u0 < 4294967296) (hu2 : u2 ≤ d1) (hd1 : d1 < 4294967296) (hd : 2147483648 ≤ d1) :
    head / d1 * d1 + head % d1 = head ∧ head % d1 < d1 ∧ head / d1 ≤ 4294967297 ∧ (head / d1 = 4294967297 → head % d1 + d1 < 4294967296) ∧ gst head u0 d1 d0 ≤ head / d1 := by
  have h1 := Nat.div_add_mod head d1
  have h2 := Nat.mod_lt head (show 0 < d1 from by omega)
  rw [Nat.mul_comm] at h1
  have hle : head ≤ d1 * 4294967296 + u1 := by
    have := Nat.mul_le_mul_right 4294967296 hu2; omega
  refine ⟨h1, h2, ?_, ?_, gst_le _ _ _ _ _ ?_⟩
  · have h3 : head / d1 < 4294967298 := (Nat.div_lt_iff_lt_mul (by omega)).2 (by omega)
    omega
  · intro e
    have h4 : 4294967297 * d1 + head % d1 = head := by rw [← e]; exact h1
    omega
  · refine (Nat.le_div_iff_mul_le (by omega)).2 ?_
    have h4 := Nat.div_mul_le_self (head * 4294967296 + u0) (d1 * 4294967296 + d0)
    obtain ⟨z, hz⟩ : ∃ z, z = (head * 4294967296 + u0) / (d1 * 4294967296 + d0) := ⟨_, rfl⟩
    rw [← hz] at h4 ⊢
    have h5 : z * (d1 * 4294967296) ≤ z * (d1 * 4294967296 + d0) := Nat.mul_le_mul_left _ (by omega)
    rw [← Nat.mul_assoc] at h5
    omega

/-- KNUTH: the guess is right, or one too great. -/
theorem knuth_core (V W E q U D v' w' : Nat) (hV : V = U * E + v') (hW : W = D * E + w') (hv : v' < E) (hw : w' < E) (hqD : q < D) (hq : q = V / W) : q ≤ U / D ∧ U / D ≤ q + 1 := by
  have hE : 0 < E := by omega
  have hDp : 0 < D := by omega
  have hWp : 0 < W := by
    have : 0 < D * E := Nat.mul_pos hDp hE
    omega
  have hq2 : q * W ≤ V := by rw [hq]; exact Nat.div_mul_le_self _ _
  have hq3 : V < (q + 1) * W := by
    have := Nat.lt_div_mul_add (a := V) hWp
    rw [Nat.add_mul, Nat.one_mul, hq]; exact this
  constructor
  · have h1 : q * D ≤ U := by
      have h2 : q * D * E ≤ q * W := by rw [hW, Nat.mul_add, Nat.mul_assoc]; omega
      have h3 : q * D * E < (U + 1) * E := by rw [Nat.add_mul, Nat.one_mul]; omega
      have := Nat.lt_of_mul_lt_mul_right h3
      omega
    exact (Nat.le_div_iff_mul_le hDp).2 h1
  · rcases Nat.lt_or_ge (q + 1) (U / D) with h | h
    · exfalso
      have h1 : (q + 2) * D ≤ U := (Nat.le_div_iff_mul_le hDp).1 h
      have h2 : (q + 2) * D * E ≤ V := by
        have := Nat.mul_le_mul_right E h1; omega
      have h3 : W < (D + 1) * E := by rw [Nat.add_mul, Nat.one_mul]; omega
      have h4 : (q + 1) * W ≤ (q + 1) * ((D + 1) * E) := Nat.mul_le_mul_left _ (by omega)
      have h5 : (q + 2) * D * E < (q + 1) * (D + 1) * E := by rw [Nat.mul_assoc (q + 1)]; omega
      have h6 := Nat.lt_of_mul_lt_mul_right h5
      have h7 : (q + 2) * D = q * D + 2 * D := Nat.add_mul _ _ _
      have h8 : (q + 1) * (D + 1) = q * D + q + D + 1 := by
        rw [Nat.add_mul, Nat.mul_add]; omega
      omega
    · omega

theorem knuth (V W E q head u0 d1 d0 v' w' : Nat) (hV : V = (head * 4294967296 + u0) * E + v') (hW : W = (d1 * 4294967296 + d0) * E + w') (hv : v' < E) (hw : w' < E) (hd : 2147483648 ≤ d1)
    (hq : q = V / W) (hlt : V < 4294967296 * W) : q ≤ gst head u0 d1 d0 ∧ gst head u0 d1 d0 ≤ q + 1 := by
  have hWp : 0 < W := by omega
  have hq1 : q < 4294967296 := by rw [hq]; exact (Nat.div_lt_iff_lt_mul hWp).2 hlt
  have h := knuth_core V W E q _ _ v' w' hV hW hv hw (by omega) hq
  exact ⟨le_gst _ _ _ _ _ (by omega) h.1, gst_le _ _ _ _ _ h.2⟩

/-! takeAway -/
theorem take_step_val (ul D : List Nat) (V j i dg c b t u' c' b' : Nat) (k : Nat) (hk : k = j + i) (hku : k < ul.length)
    (hu : u' + t % 4294967296 + b = ul.getD k 0 + 4294967296 * b') (hc : c' = t / 4294967296) (ht : t = c + dg * D.getD i 0)
    (hi : val (D.take (i + 1)) = val (D.take i) + 4294967296 ^ i * D.getD i 0)
    (h : val ul + 4294967296 ^ j * (dg * val (D.take i)) = V + 4294967296 ^ (j + i) * (c + b)) :
    val (ul.set k u') + 4294967296 ^ j * (dg * val (D.take (i + 1))) = V + 4294967296 ^ (j + (i + 1)) * (c' + b') := by
  have h1 := val_set ul k u' hku
  rw [hi]
  generalize D.getD i 0 = x at *
  generalize ul.getD k 0 = y at *
  subst hk
  have e1 : 4294967296 ^ (j + (i + 1)) = 4294967296 ^ (j + i) * 4294967296 := by rw [← Nat.add_assoc, Nat.pow_succ]
  have e2 : 4294967296 ^ j * (dg * (val (D.take i) + 4294967296 ^ i * x)) = 4294967296 ^ j * (dg * val (D.take i)) + 4294967296 ^ (j + i) * (dg * x) := by
    rw [Nat.mul_add, Nat.mul_add, Nat.pow_add, Nat.mul_assoc, Nat.mul_left_comm dg]
  rw [e1, e2]
  generalize 4294967296 ^ (j + i) = P at *
  have e3 : P * 4294967296 * (c' + b') = P * (4294967296 * c') + P * (4294967296 * b') := by rw [Nat.mul_assoc, Nat.mul_add, Nat.mul_add]
  rw [e3]
  have e4 : 4294967296 * c' + t % 4294967296 = t := by rw [hc]; exact Nat.div_add_mod t _
  have e5 : P * (4294967296 * c') + P * (t % 4294967296) = P * c + P * (dg * x) := by rw [← Nat.mul_add, e4, ht, Nat.mul_add]
  have e6 : P * u' + P * (t % 4294967296) + P * b = P * y + P * (4294967296 * b') := by rw [← Nat.mul_add, ← Nat.mul_add, ← Nat.mul_add, hu]
  rw [Nat.mul_add] at h
  omega

/-! putBack -/
theorem back_step_val (ul D : List Nat) (V j i c t : Nat) (k : Nat) (hk : k = j + i) (hku : k < ul.length)
    (ht : t = c + ul.getD k 0 + D.getD i 0)
    (hi : val (D.take (i + 1)) = val (D.take i) + 4294967296 ^ i * D.getD i 0)
    (h : val ul + 4294967296 ^ (j + i) * c = V + 4294967296 ^ j * val (D.take i)) :
    val (ul.set k (t % 4294967296)) + 4294967296 ^ (j + (i + 1)) * (t / 4294967296) = V + 4294967296 ^ j * val (D.take (i + 1)) := by
  subst hk
  have h1 := carry_step ul (j + i) t (c + D.getD i 0) hku (by omega)
  rw [← Nat.add_assoc, h1, hi, Nat.mul_add, Nat.mul_add, ← Nat.mul_assoc (4294967296 ^ j), ← Nat.pow_add]
  omega

theorem take_more (D : List Nat) (i : Nat) : val (D.take (i + 1)) = val (D.take i) + 4294967296 ^ i * D.getD i 0 := by
  by_cases h : i < D.length
  · exact val_take_succ D i h
  · rw [val_take_beyond D i (by omega), getD_beyond D i (by omega)]; simp

end Go.Proofs.YgcoaaGreat.Limbs
