/-
  Floats: package math: Mod of two numbers.
-/
import Derived.Test.YgcoaaGreatFlR
set_option linter.unusedVariables false
set_option maxRecDepth 20000
namespace Go.Proofs.YgcoaaGreat.NatW
open Go.RowKit
attribute [local go_sem] Go.Instr.field Go.asAgg ext421 ext345 ext423 ext346

theorem pack_of {x : Nat} : x = sft x * 4503599627370496 + man x ∧ (0 < sft x → 4503599627370496 ≤ man x) := by
  unfold sft man
  split <;> omega
theorem val_mono {a b : Nat} (h : a < b) : val a < val b := by
  obtain ⟨ha, ha2⟩ := pack_of (x := a)
  obtain ⟨hb, hb2⟩ := pack_of (x := b)
  have hma := man_lt a
  unfold val
  rcases Nat.lt_trichotomy (sft a) (sft b) with hs | hs | hs
  · have h1 := hb2 (by omega)
    calc man a * 2 ^ sft a < 2 ^ 53 * 2 ^ sft a := Nat.mul_lt_mul_of_pos_right (by have : (2 : Nat) ^ 53 = 9007199254740992 := by decide
                                                                                   omega) (Nat.two_pow_pos _)
      _ = 2 ^ 52 * 2 ^ (sft a + 1) := by rw [← Nat.pow_add, ← Nat.pow_add]; congr 1; omega
      _ ≤ 2 ^ 52 * 2 ^ sft b := Nat.mul_le_mul_left _ (Nat.pow_le_pow_right (by decide) hs)
      _ ≤ man b * 2 ^ sft b := Nat.mul_le_mul_right _ (by have : (2 : Nat) ^ 52 = 4503599627370496 := by decide
                                                          omega)
  · rw [← hs]
    exact Nat.mul_lt_mul_of_pos_right (by omega) (Nat.two_pow_pos _)
  · exfalso
    have := ha2 (by omega)
    have := man_lt b
    have h3 : (sft b + 1) * 4503599627370496 ≤ sft a * 4503599627370496 := Nat.mul_le_mul_right _ hs
    omega
theorem val_inj {a b : Nat} (h : val a = val b) : a = b := by
  rcases Nat.lt_trichotomy a b with h1 | h1 | h1
  · have := val_mono h1; omega
  · exact h1
  · have := val_mono h1; omega

/-- The step of the loop. -/
theorem step_k {vr vz Nr Nz Er Ez gr gz : Nat} (h1 : vr * 2 ^ gr = Nr * 2 ^ (Er - 1)) (h2 : vz * 2 ^ gz = Nz * 2 ^ (Ez - 1)) (hr1 : 4503599627370496 ≤ Nr) (hr2 : Nr < 9007199254740992) (hz1 : 4503599627370496 ≤ Nz) (hz2 : Nz < 9007199254740992) (E1 : 1 ≤ Er) (E2 : 1 ≤ Ez) (hle : vz ≤ vr) :
    (Nz ≤ Nr → ∃ k : Nat, (k : Int) = ((Er : Int) - gr) - ((Ez : Int) - gz) ∧ vz * 2 ^ k ≤ vr ∧ vr ≤ 2 * (vz * 2 ^ k)) ∧
    (Nr < Nz → ∃ k : Nat, (k : Int) = ((Er : Int) - gr) - 1 - ((Ez : Int) - gz) ∧ vz * 2 ^ k ≤ vr ∧ vr ≤ 2 * (vz * 2 ^ k)) := by
  have hp := Nat.two_pow_pos (gr + gz)
  have a1 : vr * 2 ^ (gr + gz) = Nr * 2 ^ (Er - 1 + gz) := by rw [Nat.pow_add, ← Nat.mul_assoc, h1, Nat.mul_assoc, ← Nat.pow_add]
  have a2 : vz * 2 ^ (gr + gz) = Nz * 2 ^ (Ez - 1 + gr) := by rw [Nat.add_comm gr gz, Nat.pow_add, ← Nat.mul_assoc, h2, Nat.mul_assoc, ← Nat.pow_add]
  obtain ⟨A, hA⟩ : ∃ A, Er - 1 + gz = A := ⟨_, rfl⟩
  obtain ⟨B, hB⟩ : ∃ B, Ez - 1 + gr = B := ⟨_, rfl⟩
  rw [hA] at a1
  rw [hB] at a2
  have hAB : B ≤ A := by
    rcases Nat.lt_or_ge A B with h | h
    · exfalso
      have hm : vz * 2 ^ (gr + gz) ≤ vr * 2 ^ (gr + gz) := Nat.mul_le_mul_right _ hle
      rw [a1, a2] at hm
      have b1 : Nr * 2 ^ A < 9007199254740992 * 2 ^ A := Nat.mul_lt_mul_of_pos_right hr2 (Nat.two_pow_pos _)
      have b2 : 4503599627370496 * 2 ^ (A + 1) ≤ Nz * 2 ^ B := Nat.mul_le_mul hz1 (Nat.pow_le_pow_right (by decide) h)
      rw [Nat.pow_succ] at b2
      omega
    · exact h
  have ak : ∀ k, vz * 2 ^ k * 2 ^ (gr + gz) = Nz * 2 ^ (B + k) := fun k => by
    rw [Nat.mul_assoc, Nat.mul_comm (2 ^ k), ← Nat.mul_assoc, a2, Nat.mul_assoc, ← Nat.pow_add]
  constructor
  · intro hN
    refine ⟨A - B, by omega, ?_, ?_⟩
    · apply Nat.le_of_mul_le_mul_right _ hp
      rw [ak, a1, show B + (A - B) = A by omega]
      exact Nat.mul_le_mul_right _ hN
    · apply Nat.le_of_mul_le_mul_right _ hp
      rw [Nat.mul_assoc, ak, a1, show B + (A - B) = A by omega, ← Nat.mul_assoc]
      exact Nat.mul_le_mul_right _ (by omega)
  · intro hN
    have hlt : B < A := by
      rcases Nat.lt_or_ge B A with h | h
      · exact h
      · exfalso
        have : A = B := by omega
        have hm : vz * 2 ^ (gr + gz) ≤ vr * 2 ^ (gr + gz) := Nat.mul_le_mul_right _ hle
        rw [a1, a2, this] at hm
        have := Nat.le_of_mul_le_mul_right hm (Nat.two_pow_pos _)
        omega
    refine ⟨A - B - 1, by omega, ?_, ?_⟩
    · apply Nat.le_of_mul_le_mul_right _ hp
      rw [ak, a1, show B + (A - B - 1) = A - 1 by omega]
      have : 2 ^ A = 2 * 2 ^ (A - 1) := by rw [Nat.mul_comm, ← Nat.pow_succ]; congr 1; omega
      rw [this, ← Nat.mul_assoc]
      exact Nat.mul_le_mul_right _ (by omega)
    · apply Nat.le_of_mul_le_mul_right _ hp
      rw [Nat.mul_assoc, ak, a1, show B + (A - B - 1) = A - 1 by omega]
      have : 2 ^ A = 2 * 2 ^ (A - 1) := by rw [Nat.mul_comm, ← Nat.pow_succ]; congr 1; omega
      rw [this]
      have : Nr * (2 * 2 ^ (A - 1)) = 2 * (Nr * 2 ^ (A - 1)) := by rw [Nat.mul_left_comm]
      rw [this]
      exact Nat.mul_le_mul_left _ (Nat.mul_le_mul_right _ (by omega))
/-- The fractions' order. -/
theorem frac_lt {f g : Nat} (hf : f < 4503599627370496) (hg : g < 4503599627370496) : (FloatKind.f64.format.order (4602678819172646912 + f) (4602678819172646912 + g) == some .lt) = decide (f < g) := by
  have h1 : Fin64 (4602678819172646912 + f) := by unfold Fin64; omega
  have h2 : Fin64 (4602678819172646912 + g) := by unfold Fin64; omega
  have e := (order_val h1 h2).1
  have h3 : val (4602678819172646912 + f) < val (4602678819172646912 + g) ↔ f < g := by
    constructor
    · intro h
      rcases Nat.lt_or_ge f g with h' | h'
      · exact h'
      · exfalso
        rcases Nat.eq_or_lt_of_le h' with rfl | h''
        · omega
        · have := val_mono (show 4602678819172646912 + g < 4602678819172646912 + f by omega); omega
    · intro h; exact val_mono (by omega)
  rw [h3] at e
  cases hc : (FloatKind.f64.format.order (4602678819172646912 + f) (4602678819172646912 + g) == some .lt) with
  | true => rw [hc] at e; simp [e.1 rfl]
  | false =>
    rw [hc] at e
    have : ¬ f < g := fun h => by have := e.2 h; cases this
    simp [this]

end Go.Proofs.YgcoaaGreat.NatW
