/-
  Floats: package math: Mod, Remainder; the package of the machine's own floats: Rem64.
-/
import Derived.Test.YgcoaaGreatFlT
set_option linter.unusedVariables false
set_option maxRecDepth 20000
namespace Go.Proofs.YgcoaaGreat.NatW
open Go.RowKit
attribute [local go_sem] Go.Instr.field Go.asAgg ext421 ext345 ext423 ext346

theorem read_negzero : FloatKind.f64.format.read 9223372036854775808 = .number true 0 (-1074) := by decide
theorem order_negzero {z : Nat} (hz : Fin64 z) (h0 : 0 < z) : FloatKind.f64.format.order 9223372036854775808 z = some .lt := by
  unfold Ieee.Format.order
  rw [read_negzero, read_fin hz]
  simp only [Ieee.Datum.order, Ieee.signed, if_true, Bool.false_eq_true, if_false, Nat.zero_shiftLeft]
  congr 1
  refine (cmp_of _ _).1.2 ?_
  have hm : 0 < man z := by unfold man; split <;> omega
  have : 0 < man z <<< (-1074 + (sft z : Int) - min (-1074) (-1074 + (sft z : Int))).toNat := by
    rw [Nat.shiftLeft_eq]; exact Nat.mul_pos hm (Nat.two_pow_pos _)
  omega
def ModZ (w : World) (t7 : Value) (wr : World) : Prop := t7 = .float .f64 9223372036854775808 ∧ Same w wr
set_option maxHeartbeats 4000000 in
theorem mod_negzero {z : Nat} (hz : Fin64 z) (hz0 : 0 < z) : NRet 472 #[.float .f64 9223372036854775808, .float .f64 z] (.float .f64 9223372036854775808) := by
  obtain ⟨nz, Ez, fz, ez, hNz, hrz⟩ := norm_fin hz hz0
  have hFz := Frexp_fin hz hz0 hNz hrz
  have h1 := eq0_fin hz hz0
  have h2 : (FloatKind.f64.format.read 9223372036854775808).isNaN = false := by decide
  have h3 : isInf 9223372036854775808 = false := by decide
  have h4 := hz.nan
  have h5 := abs_fin (x := z) (by unfold Fin64 at hz; omega)
  have hzl := hz.lt
  have h6 : (FloatKind.f64.format.order 9223372036854775808 0 == some .lt) = false := by decide
  have h7 := order_negzero hz hz0
  have hg : (FloatKind.f64.format.order 9223372036854775808 z == some .gt || FloatKind.f64.format.order 9223372036854775808 z == some .eq) = false := by rw [h7]; rfl
  clear h7
  obtain ⟨yf, hyf⟩ : ∃ yf, 4602678819172646912 + fz = yf := ⟨_, rfl⟩
  obtain ⟨yx, hyx⟩ : ∃ yx, ez + (Ez : Int) - 1022 = yx := ⟨_, rfl⟩
  rw [hyf, hyx] at hFz
  have HFz := hide hFz
  clear hFz hNz hrz hz hyf hyx hz0
  intro w K hK
  have HK := hide hK; clear hK
  have S := Same.refl w
  go_enter Oaag.func472, Oaag.ntmps472
  go_wp2_with (first
    | (refine mIsInf _ (by decide) _ _ ?_; rewrite [h3]; intro w1 s1; replace S := Same.trans S s1; clear s1)
    | (refine mIsNaN 9223372036854775808 _ _ ?_; rewrite [h2]; intro w1 s1; replace S := Same.trans S s1; clear s1)
    | (refine mIsNaN z _ _ ?_; rewrite [h4]; intro w1 s1; replace S := Same.trans S s1; clear s1)
    | (refine mAbs _ hzl _ _ ?_; rewrite [h5]; intro w1 s1; replace S := Same.trans S s1; clear s1)
    | (refine unhide HFz _ _ ?_; intro w1 s1; replace S := Same.trans S s1; clear s1))
  go_loopw [7] (ModZ w) (fun _ _ => 0)
  case atStart => exact ⟨rfl, S⟩
  case round =>
    obtain ⟨rfl, hs⟩ := hrel
    clear S
    have S := hs
    clear hs
    go_wp2_with fail
    exact unhide HK _ S

/-- A number that is not below zero. -/
theorem num_pos {x : Nat} (hx : x < 2 ^ FloatKind.f64.format.width) (hn : numK .f64 x) (h : (FloatKind.f64.format.order x 0 == some .lt) = false) : Fin64 x ∨ x = 9223372036854775808 := by
  rw [w64] at hx
  obtain ⟨s, m, e, hd⟩ := hn
  have hd' : FloatKind.f64.format.read x = .number s m e := hd
  by_cases hlt : x < 9223372036854775808
  · left
    unfold Ieee.Format.read at hd'
    simp only [f64_binade, f64_inf, f64_least, f64_sign] at hd'
    rw [Nat.mod_eq_of_lt hlt] at hd'
    unfold Fin64
    split at hd'
    · omega
    · split at hd'
      · assumption
      · split at hd' <;> cases hd'
  · right
    unfold Ieee.Format.order at h
    rw [hd', show FloatKind.f64.format.read 0 = .number false 0 (-1074) by decide] at h
    unfold Ieee.Format.read at hd'
    simp only [f64_binade, f64_inf, f64_least, f64_sign] at hd'
    have hsg : (x / 9223372036854775808 % 2 == 1) = true := by
      have : x / 9223372036854775808 = 1 := by omega
      rw [this]; rfl
    rw [hsg] at hd'
    have hs : s = true ∧ (m = 0 → x = 9223372036854775808) := by
      split at hd'
      · injection hd' with a1 a2 a3
        exact ⟨a1.symm, fun hm => by omega⟩
      · split at hd'
        · injection hd' with a1 a2 a3
          exact ⟨a1.symm, fun hm => by omega⟩
        · split at hd' <;> cases hd'
    obtain ⟨rfl, hm⟩ := hs
    apply hm
    rcases Nat.eq_zero_or_pos m with h0 | h0
    · exact h0
    · exfalso
      simp only [Ieee.Datum.order, Ieee.signed, if_true, Bool.false_eq_true, if_false, Nat.zero_shiftLeft] at h
      have hp : 0 < m <<< (e - min e (-1074)).toNat := by rw [Nat.shiftLeft_eq]; exact Nat.mul_pos h0 (Nat.two_pow_pos _)
      rw [(cmp_of _ _).1.2 (by omega)] at h
      cases h
/-- A number below zero, turned. -/
theorem num_neg {x : Nat} (hx : x < 2 ^ FloatKind.f64.format.width) (hn : numK .f64 x) (h : (FloatKind.f64.format.order x 0 == some .lt) = true) : Fin64 (Op.negFloat .f64 x) ∧ 0 < Op.negFloat .f64 x := by
  rw [w64] at hx
  obtain ⟨s, m, e, hd⟩ := hn
  have hd' : FloatKind.f64.format.read x = .number s m e := hd
  have hge : 9223372036854775808 ≤ x := by
    rcases Nat.lt_or_ge x 9223372036854775808 with hlt | hge
    · exfalso
      have hf : Fin64 x := by
        unfold Ieee.Format.read at hd'
        simp only [f64_binade, f64_inf, f64_least, f64_sign] at hd'
        rw [Nat.mod_eq_of_lt hlt] at hd'
        unfold Fin64
        split at hd'
        · omega
        · split at hd'
          · assumption
          · split at hd' <;> cases hd'
      have := (order_val hf (y := 0) (by unfold Fin64; omega)).1.1 h
      rw [val_zero] at this; omega
    · exact hge
  have en : Op.negFloat .f64 x = x - 9223372036854775808 := by
    unfold Op.negFloat
    rw [show FloatKind.f64.format.exponentBits + FloatKind.f64.format.fractionBits = 63 by decide]
    obtain ⟨y, hy⟩ : ∃ y, y = x - 9223372036854775808 := ⟨_, rfl⟩
    have hyl : y < 2 ^ 63 := by rw [show (2 : Nat) ^ 63 = 9223372036854775808 by decide]; omega
    have hxy : x = 2 ^ 63 * 1 + y := by rw [show (2 : Nat) ^ 63 = 9223372036854775808 by decide]; omega
    rw [← hy, hxy, Nat.two_pow_add_eq_or_of_lt hyl, Nat.mul_one]
    apply Nat.eq_of_testBit_eq
    intro i
    rw [Nat.testBit_xor, Nat.testBit_or, Nat.testBit_two_pow]
    by_cases hi : 63 = i
    · subst hi
      rw [Nat.testBit_lt_two_pow hyl]; rfl
    · simp [hi]
  rw [en]
  unfold Ieee.Format.read at hd'
  simp only [f64_binade, f64_inf, f64_least, f64_sign] at hd'
  have e1 : x % 9223372036854775808 = x - 9223372036854775808 := by omega
  rw [e1] at hd'
  constructor
  · unfold Fin64
    split at hd'
    · omega
    · split at hd'
      · assumption
      · split at hd' <;> cases hd'
  · rcases Nat.eq_zero_or_pos (x - 9223372036854775808) with h0 | h0
    · exfalso
      have : x = 9223372036854775808 := by omega
      subst this
      exact absurd h (by decide)
    · exact h0
theorem mMod {x z : Nat} (hx : x < 2 ^ FloatKind.f64.format.width) (hn : numK .f64 x) (h : (FloatKind.f64.format.order x 0 == some .lt) = false) (hz : Fin64 z) (hz0 : 0 < z) : ∃ c, c < 2 ^ FloatKind.f64.format.width ∧ numK .f64 c ∧ NRet 468 #[.float .f64 x, .float .f64 z] (.float .f64 c) := by
  have hr : ∃ c, c < 2 ^ FloatKind.f64.format.width ∧ numK .f64 c ∧ NRet 472 #[.float .f64 x, .float .f64 z] (.float .f64 c) := by
    rcases num_pos hx hn h with hf | rfl
    · obtain ⟨c, h1, h2⟩ := mod_fin hf hz hz0
      exact ⟨c, h1.lt, h1.num, h2⟩
    · exact ⟨_, hx, hn, mod_negzero hz hz0⟩
  obtain ⟨c, h1, h2, hr⟩ := hr
  refine ⟨c, h1, h2, ?_⟩
  have HR := hide hr
  clear hr hn hz hz0 h1 h2 h hx
  intro w K hK
  have HK := hide hK; clear hK
  have S := Same.refl w
  go_enter Oaag.func468, Oaag.ntmps468
  go_wp2_with (first | (refine unhide HR _ _ ?_; intro w1 s1; replace S := Same.trans S s1; clear s1))
  exact unhide HK _ S

theorem add_self {y : Nat} (hy : Fin64 y) (h0 : 0 < y) (hb : 2 * val y < 2 ^ 2098) : Fin64 (fa .add .f64 y y) ∧ 0 < fa .add .f64 y y := by
  obtain ⟨r, hr1, hr2, hr3⟩ := near_exact (mag := 2 * man y) (V := 2 * val y) (place := -1074 + (sft y : Int)) (Or.inl ⟨by omega, by
    have e : (-1074 + (sft y : Int) + 1074).toNat = sft y := by omega
    rw [e]; unfold val; rw [Nat.mul_assoc]⟩) ⟨man y, sft y + 1, by unfold val; rw [Nat.pow_succ, Nat.mul_comm 2, Nat.mul_assoc], man_lt y⟩ hb
  have hf : fa .add .f64 y y = r := by
    unfold fa floatBits Ieee.Format.add
    rw [read_fin hy]
    simp only [Ieee.Datum.sum, Option.map_some, Option.getD_some, Ieee.Format.write, Ieee.signed, Bool.false_eq_true, if_false, Int.min_self, Int.sub_self, Int.toNat_zero, Nat.shiftLeft_zero, Bool.and_self]
    rw [← hr2]
    have e1 : ((man y : Int) + (man y : Int)).natAbs = 2 * man y := by omega
    rw [e1]
    congr 1
    split
    · rfl
    · simp; omega
  rw [hf]
  refine ⟨hr1, ?_⟩
  rcases Nat.eq_zero_or_pos r with h | h
  · exfalso
    have := zero_fin hy h0
    rw [h, val_zero] at hr3
    omega
  · exact h
theorem half_max {y : Nat} (hy : Fin64 y) (h : y ≤ 9214364837600034815) : 2 * val y < 2 ^ 2098 := by
  have hs : sft y ≤ 2044 := by unfold sft; split <;> omega
  have h1 := man_lt y
  unfold val
  rw [← Nat.mul_assoc]
  calc 2 * man y * 2 ^ sft y < 2 ^ 54 * 2 ^ sft y := Nat.mul_lt_mul_of_pos_right (by have : (2 : Nat) ^ 54 = 18014398509481984 := by decide
                                                                                     omega) (Nat.two_pow_pos _)
    _ = 2 ^ (54 + sft y) := by rw [← Nat.pow_add]
    _ ≤ 2 ^ 2098 := Nat.pow_le_pow_right (by decide) (by omega)
theorem inf_nn (s : Bool) : ¬ nanK .f64 (FloatKind.f64.format.write (.infinity s)) := by
  cases s <;> decide
theorem sub_nn {x y : Nat} (hx : ¬ nanK .f64 x) (hy : numK .f64 y) : ¬ nanK .f64 (fa .sub .f64 x y) := by
  obtain ⟨t, n, j, hy⟩ := hy
  have hy' : FloatKind.f64.format.read y = .number t n j := hy
  cases hd : FloatKind.f64.format.read x with
  | nan s f => exact absurd (show nanK .f64 x by unfold nanK; rw [hd]; rfl) hx
  | number s m i => exact fa_num (Or.inr (Or.inl rfl)) ⟨s, m, i, hd⟩ ⟨t, n, j, hy⟩
  | infinity s =>
    unfold fa floatBits Ieee.Format.sub
    rw [hd, hy']
    simp only [Ieee.Datum.opposite, Ieee.Datum.sum, Option.map_some, Option.getD_some]
    exact inf_nn s
theorem add_nn {x : Nat} (hx : ¬ nanK .f64 x) : ¬ nanK .f64 (fa .add .f64 x x) := by
  cases hd : FloatKind.f64.format.read x with
  | nan s f => exact absurd (show nanK .f64 x by unfold nanK; rw [hd]; rfl) hx
  | number s m i => exact fa_num (Or.inl rfl) ⟨s, m, i, hd⟩ ⟨s, m, i, hd⟩
  | infinity s =>
    unfold fa floatBits Ieee.Format.add
    rw [hd]
    simp only [Ieee.Datum.sum, if_true, Option.map_some, Option.getD_some]
    exact inf_nn s
/-- An operation whose answer is no NaN. -/
theorem upon_ex {P : Program} {o : Oper} {a : Act} {next : Act → World → Prop} {Q : Exit → Act → World → Prop} {w : World} {op : BinOp} (hop : op = .add ∨ op = .sub ∨ op = .mul ∨ op = .quo) {t : TypeId} {k : FloatKind} {x y : Nat} (hn : ¬ nanK k (fa op k x y))
    (h : ∀ w', Same w w' → Oper.upon P o a next Q (.ok (.value (.float k (fa op k x y))) w')) :
    Oper.upon P o a next Q ((Sem.run P (binOp op t (.float k x) (.float k y)) w).andThen fun a w' => .ok (.value a) w') := by
  refine upon_arith hop ?_
  intro r w' hl hs
  rw [hl.eq hn]
  exact h w' hs

end Go.Proofs.YgcoaaGreat.NatW
