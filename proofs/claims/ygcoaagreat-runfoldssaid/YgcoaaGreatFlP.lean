/-
  Floats: order, product and difference by whole numbers (no Go in sight).
-/
import Derived.Test.YgcoaaGreatFlO
set_option linter.unusedVariables false
set_option maxRecDepth 20000
namespace Go.Proofs.YgcoaaGreat.NatW

theorem cmp_of (a b : Int) : (compare a b = .lt ↔ a < b) ∧ (compare a b = .eq ↔ a = b) ∧ (compare a b = .gt ↔ b < a) := by
  refine ⟨⟨cmp_lt, fun h => ?_⟩, ⟨cmp_eq, fun h => ?_⟩, ⟨cmp_gt, fun h => ?_⟩⟩
  · cases hc : compare a b with
    | lt => rfl
    | eq => have := cmp_eq hc; omega
    | gt => have := cmp_gt hc; omega
  · cases hc : compare a b with
    | eq => rfl
    | lt => have := cmp_lt hc; omega
    | gt => have := cmp_gt hc; omega
  · cases hc : compare a b with
    | gt => rfl
    | lt => have := cmp_lt hc; omega
    | eq => have := cmp_eq hc; omega

/-- The two numbers over one power of two. -/
theorem val_base (x y : Nat) : val x = man x * 2 ^ (sft x - min (sft x) (sft y)) * 2 ^ min (sft x) (sft y) ∧ val y = man y * 2 ^ (sft y - min (sft x) (sft y)) * 2 ^ min (sft x) (sft y) := by
  unfold val
  constructor
  · rw [Nat.mul_assoc, ← Nat.pow_add]; congr 2; omega
  · rw [Nat.mul_assoc, ← Nat.pow_add]; congr 2; omega
theorem shl_base (m s t : Nat) : m <<< ((-1074 + (s : Int)) - min (-1074 + (s : Int)) (-1074 + (t : Int))).toNat = m * 2 ^ (s - min s t) := by
  rw [Nat.shiftLeft_eq]; congr 2; omega
theorem shl_base' (m s t : Nat) : m <<< ((-1074 + (t : Int)) - min (-1074 + (s : Int)) (-1074 + (t : Int))).toNat = m * 2 ^ (t - min s t) := by
  rw [Nat.shiftLeft_eq]; congr 2; omega

theorem order_fin {x y : Nat} (hx : Fin64 x) (hy : Fin64 y) : FloatKind.f64.format.order x y = some (compare ((man x * 2 ^ (sft x - min (sft x) (sft y)) : Nat) : Int) ((man y * 2 ^ (sft y - min (sft x) (sft y)) : Nat) : Int)) := by
  unfold Ieee.Format.order
  rw [read_fin hx, read_fin hy]
  simp only [Ieee.Datum.order, Ieee.signed, Bool.false_eq_true, if_false]
  rw [shl_base, shl_base']
theorem order_val {x y : Nat} (hx : Fin64 x) (hy : Fin64 y) : ((FloatKind.f64.format.order x y == some .lt) = true ↔ val x < val y) ∧ ((FloatKind.f64.format.order x y == some .eq) = true ↔ val x = val y) ∧ ((FloatKind.f64.format.order x y == some .gt) = true ↔ val y < val x) := by
  rw [order_fin hx hy]
  obtain ⟨h1, h2⟩ := val_base x y
  have hp := Nat.two_pow_pos (min (sft x) (sft y))
  rw [h1, h2]
  generalize man x * 2 ^ (sft x - min (sft x) (sft y)) = a
  generalize man y * 2 ^ (sft y - min (sft x) (sft y)) = b
  generalize 2 ^ min (sft x) (sft y) = c at *
  obtain ⟨c1, c2, c3⟩ := cmp_of (a : Int) (b : Int)
  simp only [beq_iff_eq, Option.some.injEq]
  rw [c1, c2, c3]
  refine ⟨?_, ?_, ?_⟩
  · rw [Nat.mul_lt_mul_right hp]; omega
  · rw [Nat.mul_left_inj (by omega)]; omega
  · rw [Nat.mul_lt_mul_right hp]; omega

theorem val_lt {x : Nat} (h : Fin64 x) : val x < 2 ^ 2098 := by
  have h1 := man_lt x
  have h2 := sft_le h
  unfold val
  calc man x * 2 ^ sft x < 2 ^ 53 * 2 ^ sft x := Nat.mul_lt_mul_of_pos_right (by have : (2 : Nat) ^ 53 = 9007199254740992 := by decide
                                                                                 omega) (Nat.two_pow_pos _)
    _ = 2 ^ (53 + sft x) := by rw [← Nat.pow_add]
    _ ≤ 2 ^ 2098 := Nat.pow_le_pow_right (by decide) (by omega)

/-- A difference that loses nothing. -/
theorem sub_val {x y : Nat} (hx : Fin64 x) (hy : Fin64 y) (h1 : val y ≤ val x) (h2 : val x ≤ 2 * val y) : Fin64 (fa .sub .f64 x y) ∧ val (fa .sub .f64 x y) = val x - val y := by
  have hb := val_lt hx
  obtain ⟨b1, b2⟩ := val_base x y
  have hp := Nat.two_pow_pos (min (sft x) (sft y))
  have hmx := man_lt x
  have hmy := man_lt y
  obtain ⟨r, hr1, hr2, hr3⟩ := near_exact (mag := man x * 2 ^ (sft x - min (sft x) (sft y)) - man y * 2 ^ (sft y - min (sft x) (sft y))) (V := val x - val y) (place := -1074 + ((min (sft x) (sft y) : Nat) : Int)) (by
      left
      refine ⟨by omega, ?_⟩
      have e : (-1074 + ((min (sft x) (sft y) : Nat) : Int) + 1074).toNat = min (sft x) (sft y) := by omega
      rw [e, Nat.sub_mul, ← b1, ← b2]) (by
      refine ⟨man x * 2 ^ (sft x - min (sft x) (sft y)) - man y * 2 ^ (sft y - min (sft x) (sft y)), min (sft x) (sft y), by rw [Nat.sub_mul, ← b1, ← b2], ?_⟩
      by_cases hc : sft x ≤ sft y
      · have e : sft x - min (sft x) (sft y) = 0 := by omega
        rw [e, Nat.pow_zero, Nat.mul_one]
        omega
      · have e : sft y - min (sft x) (sft y) = 0 := by omega
        rw [e, Nat.pow_zero, Nat.mul_one] at b2 ⊢
        have : man x * 2 ^ (sft x - min (sft x) (sft y)) ≤ 2 * man y := by
          apply Nat.le_of_mul_le_mul_right _ hp
          rw [← b1, Nat.mul_assoc, ← b2]
          exact h2
        omega) (by omega)
  have hab : man y * 2 ^ (sft y - min (sft x) (sft y)) ≤ man x * 2 ^ (sft x - min (sft x) (sft y)) := by
    apply Nat.le_of_mul_le_mul_right _ hp
    rw [← b1, ← b2]
    exact h1
  have hf : fa .sub .f64 x y = r := by
    unfold fa floatBits Ieee.Format.sub
    rw [read_fin hx, read_fin hy]
    simp only [Ieee.Datum.opposite, Ieee.Datum.sum, Bool.not_false, Option.map_some, Option.getD_some, Ieee.Format.write, Ieee.signed, Bool.false_eq_true, if_false, if_true]
    rw [shl_base, shl_base']
    rw [← hr2]
    generalize man x * 2 ^ (sft x - min (sft x) (sft y)) = a at *
    generalize man y * 2 ^ (sft y - min (sft x) (sft y)) = b at *
    have e1 : ((a : Int) + -(b : Int)).natAbs = a - b := by omega
    have e2 : min (-1074 + (sft x : Int)) (-1074 + (sft y : Int)) = -1074 + ((min (sft x) (sft y) : Nat) : Int) := by omega
    rw [e1, e2]
    congr 1
    split
    · rfl
    · simp; omega
  rw [hf]
  exact ⟨hr1, hr3⟩

/-- A product that loses nothing: the second factor is 2^(c+52). -/
theorem mul_val0 {x y B : Nat} (hB : B = 2 ^ 52) (hx : Fin64 x) (hy : Fin64 y) {c : Int} (hd : FloatKind.f64.format.read y = .number false B c) {V : Nat} (hV : (0 ≤ c + 52 ∧ val x * 2 ^ (c + 52).toNat = V) ∨ (c + 52 < 0 ∧ val x = V * 2 ^ (-(c + 52)).toNat)) (hr : ∃ M s, V = M * 2 ^ s ∧ M < 9007199254740992) (hb : V < 2 ^ 2098) :
    (Fin64 (fa .mul .f64 x y) ∧ val (fa .mul .f64 x y) = V) ∧ fa .mul .f64 y x = fa .mul .f64 x y := by
  have key : ∃ r, Fin64 r ∧ FloatKind.f64.format.nearest false (man x * B) (-1074 + (sft x : Int) + c) = r ∧ val r = V := by
    refine near_exact ?_ hr hb
    unfold val at hV
    obtain ⟨s, hs⟩ : ∃ s, sft x = s := ⟨_, rfl⟩
    rw [hs] at hV ⊢
    rw [hB]
    by_cases hc : 0 ≤ -1074 + (s : Int) + c + 1074
    · left
      refine ⟨hc, ?_⟩
      rcases hV with ⟨h0, h⟩ | ⟨h0, h⟩
      · rw [← h, Nat.mul_assoc, Nat.mul_assoc, ← Nat.pow_add, ← Nat.pow_add]; congr 2; omega
      · have hp := Nat.two_pow_pos (-(c + 52)).toNat
        apply Nat.eq_of_mul_eq_mul_right hp
        rw [← h, Nat.mul_assoc, Nat.mul_assoc, ← Nat.pow_add, ← Nat.pow_add]; congr 2; omega
    · right
      refine ⟨by omega, ?_⟩
      rcases hV with ⟨h0, h⟩ | ⟨h0, h⟩
      · rw [← h, Nat.mul_assoc, Nat.mul_assoc, ← Nat.pow_add, ← Nat.pow_add]; congr 2; omega
      · have hp := Nat.two_pow_pos s
        apply Nat.eq_of_mul_eq_mul_right hp
        rw [Nat.mul_assoc, Nat.mul_comm (2 ^ 52), ← Nat.mul_assoc, h, Nat.mul_assoc, Nat.mul_assoc, ← Nat.pow_add, ← Nat.pow_add]; congr 2; omega
  obtain ⟨r, hr1, hr2, hr3⟩ := key
  have hf : fa .mul .f64 x y = r := by
    unfold fa floatBits Ieee.Format.mul
    rw [read_fin hx, hd]
    simp only [Ieee.Datum.product, Option.map_some, Option.getD_some, Ieee.Format.write, Bool.xor_false]
    exact hr2
  have hf' : fa .mul .f64 y x = r := by
    unfold fa floatBits Ieee.Format.mul
    rw [read_fin hx, hd]
    simp only [Ieee.Datum.product, Option.map_some, Option.getD_some, Ieee.Format.write, Bool.xor_false]
    rw [Nat.mul_comm, Int.add_comm]
    exact hr2
  rw [hf, hf']
  exact ⟨⟨hr1, hr3⟩, rfl⟩
theorem mul_val {x y : Nat} (hx : Fin64 x) (hy : Fin64 y) {c : Int} (hd : FloatKind.f64.format.read y = .number false 4503599627370496 c) {V : Nat} (hV : (0 ≤ c + 52 ∧ val x * 2 ^ (c + 52).toNat = V) ∨ (c + 52 < 0 ∧ val x = V * 2 ^ (-(c + 52)).toNat)) (hr : ∃ M s, V = M * 2 ^ s ∧ M < 9007199254740992) (hb : V < 2 ^ 2098) :
    (Fin64 (fa .mul .f64 x y) ∧ val (fa .mul .f64 x y) = V) ∧ fa .mul .f64 y x = fa .mul .f64 x y := mul_val0 (B := 4503599627370496) (by decide) hx hy hd hV hr hb
end Go.Proofs.YgcoaaGreat.NatW
