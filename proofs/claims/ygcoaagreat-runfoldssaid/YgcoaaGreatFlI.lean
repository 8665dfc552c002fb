/-
  Floats: how great a root is; what lies within float32.
-/
import Derived.Test.YgcoaaGreatFlH
set_option linter.unusedVariables false
set_option maxRecDepth 20000
namespace Go.Proofs.YgcoaaGreat.NatW
open Go.RowKit

theorem narrow_in {x : Nat} (h1 : (FloatKind.f64.format.order x 5183643170835005440 == some .gt || FloatKind.f64.format.order x 5183643170835005440 == some .eq) = false)
    (h2 : (FloatKind.f64.format.order x (Op.negFloat .f64 5183643170835005440) == some .lt || FloatKind.f64.format.order x (Op.negFloat .f64 5183643170835005440) == some .eq) = false)
    (s : Bool) (m : Nat) (e : Int) (h : FloatKind.f64.decode x = .number s m e) : (FloatKind.f32.decode (FloatKind.f32.encode (.number s m e))).isInfinity = false := by
  refine narrow_fin x s m e h ?_
  unfold Ieee.Format.order at h1 h2
  rw [r47] at h1
  rw [r47n] at h2
  rw [show FloatKind.f64.format.read x = _ from h] at h1 h2
  simp only [Ieee.Datum.order, Bool.or_eq_false_iff, beq_eq_false_iff_ne, ne_eq, Option.some.injEq] at h1 h2
  cases s with
  | false =>
    simp only [Ieee.signed, Bool.false_eq_true, if_false] at h1
    cases hc : compare ((m <<< (e - min e 75).toNat : Nat) : Int) ((9007198986305536 <<< (75 - min e 75).toNat : Nat) : Int) with
    | lt => have := cmp_lt hc; omega
    | eq => exact absurd hc h1.2
    | gt => exact absurd hc h1.1
  | true =>
    simp only [Ieee.signed, if_true] at h2
    cases hc : compare (-((m <<< (e - min e 75).toNat : Nat) : Int)) (-((9007198986305536 <<< (75 - min e 75).toNat : Nat) : Int)) with
    | gt => have := cmp_gt hc; omega
    | eq => exact absurd hc h2.2
    | lt => exact absurd hc h2.1

/-- The word nearest to a number is not much greater. -/
theorem near_log (neg : Bool) (M : Nat) (P : Int) (s : Bool) (m : Nat) (e : Int) (h : FloatKind.f64.decode (FloatKind.f64.encode (.number neg M P)) = .number s m e) (hm : m ≠ 0) : e + m.log2 ≤ max (P + M.log2) (-1022) + 1 := by
  have e1 : Ieee.Format.binade FloatKind.f64.format = 4503599627370496 := by decide
  have e2 : Ieee.Format.infRung FloatKind.f64.format = 9218868437227405312 := by decide
  have e3 : Ieee.Format.leastPlace FloatKind.f64.format = -1074 := by decide
  have e4 : FloatKind.f64.format.fractionBits = 52 := by decide
  have e5 : Ieee.Format.signWeight FloatKind.f64.format = 9223372036854775808 := by decide
  obtain ⟨rung, hw, hr⟩ : ∃ rung, FloatKind.f64.format.nearest neg M P = FloatKind.f64.format.word neg rung ∧ (rung : Int) ≤ max (P + M.log2 + 1022) 0 * 4503599627370496 + 9007199254740992 := by
    unfold Ieee.Format.nearest
    split
    · exact ⟨0, rfl, by omega⟩
    · rename_i hM
      refine ⟨_, rfl, ?_⟩
      rw [e1, e2, e3, e4]
      have hk := kept_le neg 52 M P (max (P + M.log2 - ((52 : Nat) : Int)) (-1074)) hM (by omega)
      have h53 : (2 : Nat) ^ (52 + 1) = 9007199254740992 := by decide
      rw [h53] at hk
      generalize Ieee.Toward.even.cut neg (M <<< (P - max (P + ↑M.log2 - ((52 : Nat) : Int)) (-1074)).toNat) (max (P + ↑M.log2 - ((52 : Nat) : Int)) (-1074) - P).toNat = kept at *
      have hmm : ((max (P + ↑M.log2 - ((52 : Nat) : Int)) (-1074) - -1074).toNat : Int) = max (P + M.log2 + 1022) 0 := by omega
      omega
  have h' : FloatKind.f64.format.read (FloatKind.f64.format.word neg rung) = .number s m e := by rw [← hw]; exact h
  unfold Ieee.Format.read at h'
  simp only [e1, e2, e3, e5] at h'
  have hrr : rung ≤ 9218868437227405312 ∨ 9218868437227405312 < rung := by omega
  generalize hg : FloatKind.f64.format.word neg rung % 9223372036854775808 = r at h'
  have hrle : r ≤ rung := by
    rw [← hg]
    unfold Ieee.Format.word
    rw [e5]
    split
    · rw [Nat.add_mod_left]; exact Nat.mod_le _ _
    · exact Nat.mod_le _ _
  split at h'
  · injection h' with a1 a2 a3
    have : m.log2 < 52 := (Nat.log2_lt hm).2 (by have : (2 : Nat) ^ 52 = 4503599627370496 := by decide
                                                 omega)
    omega
  · split at h'
    · injection h' with a1 a2 a3
      have hmod := Nat.mod_lt r (show 0 < 4503599627370496 by decide)
      have : m.log2 < 53 := (Nat.log2_lt hm).2 (by have : (2 : Nat) ^ 53 = 9007199254740992 := by decide
                                                   omega)
      omega
    · split at h' <;> cases h'

theorem rootFrom_lt (n : Nat) : ∀ t r, Ieee.Datum.rootFrom n t r < r + 2 ^ t
  | 0, r => by unfold Ieee.Datum.rootFrom; simp
  | t + 1, r => by
    unfold Ieee.Datum.rootFrom
    rw [Nat.one_shiftLeft]
    simp only
    split
    · have := rootFrom_lt n t (r + 2 ^ t)
      rw [Nat.pow_succ]; omega
    · have := rootFrom_lt n t r
      have := Nat.two_pow_pos t
      rw [Nat.pow_succ]; omega

theorem log2_shl (m k : Nat) (hm : m ≠ 0) : (m <<< k).log2 = m.log2 + k := by
  rw [Nat.shiftLeft_eq]
  have h1 : 2 ^ m.log2 ≤ m := Nat.log2_self_le hm
  have h2 : m < 2 ^ (m.log2 + 1) := Nat.lt_log2_self
  have hp := Nat.two_pow_pos k
  have hne : m * 2 ^ k ≠ 0 := Nat.mul_ne_zero hm (by omega)
  have a : (m * 2 ^ k).log2 < m.log2 + k + 1 := (Nat.log2_lt hne).2 (by
    rw [show m.log2 + k + 1 = m.log2 + 1 + k by omega, Nat.pow_add]
    exact Nat.mul_lt_mul_of_pos_right h2 hp)
  have b : m.log2 + k ≤ (m * 2 ^ k).log2 := (Nat.le_log2 hne).2 (by
    rw [Nat.pow_add]
    exact Nat.mul_le_mul_right _ h1)
  omega

/-- The root of a number below 2^129. -/
theorem sqrt_fin (c : Nat) (hc : ∀ s m e, FloatKind.f64.decode c = .number s m e → m ≠ 0 → e + m.log2 ≤ 128) (s : Bool) (m : Nat) (e : Int) (h : FloatKind.f64.decode (sqrtC c) = .number s m e) :
    (FloatKind.f32.decode (FloatKind.f32.encode (.number s m e))).isInfinity = false := by
  have e1 : Ieee.Format.binade FloatKind.f32.format = 8388608 := by decide
  have e2 : Ieee.Format.infRung FloatKind.f32.format = 2139095040 := by decide
  have e3 : Ieee.Format.leastPlace FloatKind.f32.format = -149 := by decide
  have e4 : FloatKind.f32.format.fractionBits = 23 := by decide
  refine nearest_fin s m e (by decide) fun hm => ?_
  suffices hb : e + m.log2 ≤ 126 by rw [e1, e2, e3, e4]; omega
  unfold sqrtC Ieee.Format.sqrt at h
  cases hd : FloatKind.f64.format.read c with
  | nan s' f =>
    rw [hd] at h
    simp only [Ieee.Datum.root, Option.map_none, Option.getD_none] at h
    rw [show FloatKind.f64.decode nan64 = .nan false 2251799813685248 by decide] at h
    cases h
  | infinity s' =>
    rw [hd] at h
    simp only [Ieee.Datum.root] at h
    split at h
    · simp only [Option.map_none, Option.getD_none] at h
      rw [show FloatKind.f64.decode nan64 = .nan false 2251799813685248 by decide] at h
      cases h
    · simp only [Option.map_some, Option.getD_some] at h
      rename_i hs
      have : s' = false := by simpa using hs
      subst this
      rw [show FloatKind.f64.decode (FloatKind.f64.format.write (.infinity false)) = .infinity false by decide] at h
      cases h
  | number s' m' i =>
    have hc' := hc s' m' i hd
    rw [hd] at h
    simp only [Ieee.Datum.root] at h
    split at h
    · rename_i hm0
      subst hm0
      simp only [Option.map_some, Option.getD_some] at h
      have := near_log s' 0 i s m e h hm
      have : Nat.log2 0 = 0 := by decide
      obtain ⟨_, _, hi⟩ := f64_num (x := c) hd
      -- a zero: its word is a zero
      exfalso
      have hz : FloatKind.f64.format.write (.number s' 0 i) = FloatKind.f64.format.word s' 0 := by
        show FloatKind.f64.format.nearest s' 0 i = _
        unfold Ieee.Format.nearest
        rw [if_pos rfl]
      rw [hz] at h
      cases s'
      · rw [show FloatKind.f64.decode (FloatKind.f64.format.word false 0) = .number false 0 (-1074) by decide] at h
        injection h with a1 a2 a3
        omega
      · rw [show FloatKind.f64.decode (FloatKind.f64.format.word true 0) = .number true 0 (-1074) by decide] at h
        injection h with a1 a2 a3
        omega
    · rename_i hm0
      split at h
      · simp only [Option.map_none, Option.getD_none] at h
        rw [show FloatKind.f64.decode nan64 = .nan false 2251799813685248 by decide] at h
        cases h
      · simp only [Option.map_some, Option.getD_some] at h
        have hl := near_log _ _ _ s m e h hm
        generalize hmore : 2 * (FloatKind.f64.format.fractionBits + 2) - m'.log2 + ((i - ((2 * (FloatKind.f64.format.fractionBits + 2) - m'.log2 : Nat) : Int)) % 2).toNat = more at *
        have hlog := log2_shl m' more hm0
        have hrt := rootFrom_lt (m' <<< more) ((m' <<< more).log2 / 2 + 1) 0
        rw [hlog] at hrt hl
        generalize Ieee.Datum.rootFrom (m' <<< more) ((m'.log2 + more) / 2 + 1) 0 = whole at *
        have hM : (2 * whole + (whole * whole != m' <<< more).toNat).log2 ≤ (m'.log2 + more) / 2 + 1 := by
          by_cases h0 : 2 * whole + (whole * whole != m' <<< more).toNat = 0
          · rw [h0]; have : Nat.log2 0 = 0 := by decide
            omega
          · have := (Nat.log2_lt h0 (k := (m'.log2 + more) / 2 + 2)).2 (by
              have := Bool.toNat_le (whole * whole != m' <<< more)
              rw [show (m'.log2 + more) / 2 + 2 = (m'.log2 + more) / 2 + 1 + 1 by omega, Nat.pow_succ]
              omega)
            omega
        have := hc' hm0
        omega
theorem sqrtC_like {x c : Nat} (h : Like .f64 x c) : sqrtC x = sqrtC c := by
  obtain ⟨_, rfl | ⟨h1, h2⟩⟩ := h
  · rfl
  · have aux : ∀ y, nanK .f64 y → sqrtC y = nan64 := fun y hy => by
      unfold nanK at hy
      unfold sqrtC Ieee.Format.sqrt
      cases hd : FloatKind.f64.format.read y with
      | nan s f => rfl
      | infinity s => rw [hd] at hy; cases hy
      | number s m i => rw [hd] at hy; cases hy
    rw [aux x h1, aux c h2]
theorem widen_log (x : Nat) (s : Bool) (m : Nat) (e : Int) (h : FloatKind.f64.decode (convC .f64 (FloatKind.f32.decode x)) = .number s m e) (hm : m ≠ 0) : e + m.log2 ≤ 128 := by
  cases hd : FloatKind.f32.decode x with
  | nan s' f =>
    rw [hd] at h
    rw [show FloatKind.f64.decode (convC .f64 (.nan s' f)) = .nan false 2251799813685248 from (show FloatKind.f64.decode nan64 = _ by decide)] at h
    cases h
  | infinity s' =>
    rw [hd] at h
    cases s'
    · rw [show FloatKind.f64.decode (convC .f64 (.infinity false)) = .infinity false by decide] at h; cases h
    · rw [show FloatKind.f64.decode (convC .f64 (.infinity true)) = .infinity true by decide] at h; cases h
  | number s' m' i =>
    rw [hd] at h
    have hl := near_log s' m' i s m e h hm
    have hb : m' < 16777216 ∧ i ≤ 104 := by
      unfold FloatKind.decode Ieee.Format.read at hd
      have e1 : Ieee.Format.binade FloatKind.f32.format = 8388608 := by decide
      have e2 : Ieee.Format.infRung FloatKind.f32.format = 2139095040 := by decide
      have e3 : Ieee.Format.leastPlace FloatKind.f32.format = -149 := by decide
      simp only [e1, e2, e3] at hd
      generalize x % Ieee.Format.signWeight FloatKind.f32.format = r at hd
      split at hd
      · injection hd with h1 h2 h3; omega
      · split at hd
        · injection hd with h1 h2 h3
          have := Nat.mod_lt r (show 0 < 8388608 by decide)
          omega
        · split at hd <;> cases hd
    by_cases h0 : m' = 0
    · subst h0
      have : Nat.log2 0 = 0 := by decide
      omega
    · have : m'.log2 < 24 := (Nat.log2_lt h0).2 (by omega)
      omega
end Go.Proofs.YgcoaaGreat.NatW
