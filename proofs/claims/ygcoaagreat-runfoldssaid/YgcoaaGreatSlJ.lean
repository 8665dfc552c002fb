/-
  Package slow: where shl moves the top bit (plain).
-/
import Derived.Test.YgcoaaGreatSlI
set_option linter.unusedVariables false
set_option linter.unusedSimpArgs false
namespace Go.Proofs.YgcoaaGreat.NatW

/-- Bit p is the top one of the number. -/
structure Top (n : Nat) (c : Nat → Nat) (p : Nat) : Prop where
  n : n = p / 64 + 1
  lo : 2 ^ (p % 64) ≤ c (p / 64)
  hi : c (p / 64) < 2 ^ (p % 64 + 1)
  z : ∀ j, p / 64 < j → c j = 0

theorem div_range (x r t : Nat) (ht : t ≤ r) (h1 : 2 ^ r ≤ x) (h2 : x < 2 ^ (r + 1)) : 2 ^ (r - t) ≤ x / 2 ^ t ∧ x / 2 ^ t < 2 ^ (r + 1 - t) := by
  have hp : 0 < 2 ^ t := Nat.two_pow_pos t
  constructor
  · rw [Nat.le_div_iff_mul_le hp, ← Nat.pow_add]
    rwa [Nat.sub_add_cancel ht]
  · rw [Nat.div_lt_iff_lt_mul hp, ← Nat.pow_add]
    rwa [Nat.sub_add_cancel (by omega)]

theorem top_limb {c : Nat → Nat} {q r mv s : Nat} (hu : ∀ i, c i < 18446744073709551616) (hs : s < 64) (hr : r + s < 64) (h1 : 2 ^ r ≤ c q) (h2 : c q < 2 ^ (r + 1)) : 2 ^ (r + s) ≤ shv c mv s (q + mv) ∧ shv c mv s (q + mv) < 2 ^ (r + s + 1) := by
  unfold shv
  rw [if_neg (by omega), Nat.add_sub_cancel]
  have e64 : (18446744073709551616 : Nat) = 2 ^ 64 := by decide
  have a1 : c q * 2 ^ s < 2 ^ (r + s + 1) := by
    have := Nat.mul_lt_mul_of_pos_right h2 (Nat.two_pow_pos s)
    rw [← Nat.pow_add] at this
    rwa [show r + 1 + s = r + s + 1 by omega] at this
  have a2 : 2 ^ (r + s) ≤ c q * 2 ^ s := by
    rw [Nat.pow_add]; exact Nat.mul_le_mul_right _ h1
  have a3 : 2 ^ (r + s + 1) ≤ 2 ^ 64 := Nat.pow_le_pow_right (by omega) (by omega)
  rw [Nat.mod_eq_of_lt (by rw [e64]; omega)]
  refine ⟨Nat.le_trans a2 Nat.left_le_or, Nat.or_lt_two_pow a1 ?_⟩
  split
  · have := hu (q - 1)
    have b1 : c (q - 1) / 2 ^ (64 - s) < 2 ^ s := by
      rw [Nat.div_lt_iff_lt_mul (Nat.two_pow_pos _), ← Nat.pow_add, show s + (64 - s) = 64 by omega, ← e64]
      exact this
    exact Nat.lt_of_lt_of_le b1 (Nat.pow_le_pow_right (by omega) (by omega))
  · exact Nat.two_pow_pos _
theorem over_zero {c : Nat → Nat} {q r mv s : Nat} (hs : s < 64) (hr : r + s < 64) (h2 : c q < 2 ^ (r + 1)) (hz : c (q + 1) = 0) : shv c mv s (q + 1 + mv) = 0 := by
  unfold shv
  rw [if_neg (by omega), Nat.add_sub_cancel, hz, Nat.add_sub_cancel]
  split
  · rw [Nat.div_eq_of_lt (Nat.lt_of_lt_of_le h2 (Nat.pow_le_pow_right (by omega) (by omega)))]
    simp
  · simp
theorem over_limb {c : Nat → Nat} {q r mv s : Nat} (hs : s < 64) (hr : 64 ≤ r + s) (hr2 : r < 64) (h1 : 2 ^ r ≤ c q) (h2 : c q < 2 ^ (r + 1)) (hz : c (q + 1) = 0) : 2 ^ (r + s - 64) ≤ shv c mv s (q + 1 + mv) ∧ shv c mv s (q + 1 + mv) < 2 ^ (r + s - 64 + 1) := by
  unfold shv
  rw [if_neg (by omega), Nat.add_sub_cancel, hz, Nat.add_sub_cancel, if_pos ⟨by omega, by omega⟩, Nat.zero_mul, Nat.zero_mod, Nat.zero_or]
  have := div_range (c q) r (64 - s) (by omega) h1 h2
  rw [show r - (64 - s) = r + s - 64 by omega, show r + 1 - (64 - s) = r + s - 64 + 1 by omega] at this
  exact this

theorem top_shl {b n mv s p : Nat} {c0 : Nat → Nat} {w w' : Go.World} (hu : ∀ i, c0 i < 18446744073709551616) (hs : s < 64) (ht : Top n c0 p) (hp : p + (64 * mv + s) < 3328) (h : ShP b (min (n + mv + 1) 52) mv s c0 w w') :
    ∃ n' c, BigX b n' c w' ∧ Top n' c (p + (64 * mv + s)) ∧ w'.tape = (fun _ _ => 0) ∧ Keep b w w' := by
  obtain ⟨n', c, hX, hn', hsh, hhi, hzz, hnz, hT, hK⟩ := h
  obtain ⟨e, h1, h2, hz⟩ := ht
  refine ⟨n', c, hX, ?_, hT, hK⟩
  obtain ⟨q, hq⟩ : ∃ q, p / 64 = q := ⟨_, rfl⟩
  obtain ⟨r, hr⟩ : ∃ r, p % 64 = r := ⟨_, rfl⟩
  rw [hq, hr] at h1 h2
  rw [hq] at e hz
  subst e
  have hzq : c0 (q + 1) = 0 := hz _ (by omega)
  rcases Nat.lt_or_ge (r + s) 64 with hc | hc
  · have t1 := top_limb (mv := mv) hu hs hc h1 h2
    have z1 := over_zero (mv := mv) hs hc h2 hzq
    have ed : (p + (64 * mv + s)) / 64 = q + mv := by omega
    have em : (p + (64 * mv + s)) % 64 = r + s := by omega
    have c1 : c (q + mv) = shv c0 mv s (q + mv) := hsh _ (by omega)
    have hpos : 0 < 2 ^ (r + s) := Nat.two_pow_pos _
    have hzo : ∀ j, q + mv < j → c j = 0 := by
      intro j hj
      by_cases hj1 : j < min (q + 1 + mv + 1) 52
      · have : j = q + 1 + mv := by omega
        rw [hsh j hj1, this]
        exact z1
      · rw [hhi j (by omega)]
        exact hz j (by omega)
    have hnn : n' = q + mv + 1 := by
      rcases Nat.lt_or_ge (q + mv) n' with g | g
      · rcases hnz with g2 | g2
        · omega
        · rcases Nat.lt_or_ge (q + mv + 1) n' with g3 | g3
          · exact absurd (hzo (n' - 1) (by omega)) g2
          · omega
      · have := hzz (q + mv) g (by omega)
        omega
    exact ⟨by rw [ed]; exact hnn, by rw [ed, em, c1]; exact t1.1, by rw [ed, em, c1]; exact t1.2, by rw [ed]; exact hzo⟩
  · have t1 := over_limb (mv := mv) hs hc (by omega) h1 h2 hzq
    have ed : (p + (64 * mv + s)) / 64 = q + 1 + mv := by omega
    have em : (p + (64 * mv + s)) % 64 = r + s - 64 := by omega
    have c1 : c (q + 1 + mv) = shv c0 mv s (q + 1 + mv) := hsh _ (by omega)
    have hpos : 0 < 2 ^ (r + s - 64) := Nat.two_pow_pos _
    have hzo : ∀ j, q + 1 + mv < j → c j = 0 := by
      intro j hj
      rw [hhi j (by omega)]
      exact hz j (by omega)
    have hnn : n' = q + 1 + mv + 1 := by
      rcases Nat.lt_or_ge (q + 1 + mv) n' with g | g
      · omega
      · have := hzz (q + 1 + mv) g (by omega)
        omega
    exact ⟨by rw [ed]; exact hnn, by rw [ed, em, c1]; exact t1.1, by rw [ed, em, c1]; exact t1.2, by rw [ed]; exact hzo⟩
end Go.Proofs.YgcoaaGreat.NatW
