/-
  Package ieee, on: width, subnormal, Unpack.
-/
import Derived.Test.YgcoaaGreatIeeeB
import Derived.Test.YgcoaaGreatBits
set_option linter.unusedVariables false
set_option linter.unusedSimpArgs false
namespace Go.Proofs.YgcoaaGreat.NatW
open Go.RowKit
open Go.Proofs.YgcoaaGreat.Limbs Go.Proofs.YgcoaaGreat.Bits

/-- One step of the smearing, in the model's words. -/
theorem sm_int (x j : Nat) (P : Int) (hP : P = ((2 ^ j : Nat) : Int)) (hx : x < 2 ^ 64) : bits .or .u64 (x : Int) ((x : Int) / P) = ((sm x j : Nat) : Int) := by
  subst hP
  have h1 : ((x : Int) / ((2 ^ j : Nat) : Int)) = ((x / 2 ^ j : Nat) : Int) := by simp
  have h2 : x / 2 ^ j ≤ x := Nat.div_le_self _ _
  rw [h1, u64_or_nat _ _ (by omega) (by omega)]
  rfl

/-- The bits of y, counted as width does. -/
def count (y : Int) : Int :=
  let a := IntKind.u64.wrap (y - bits .and .u64 (y / 2) 6148914691236517205)
  let b := IntKind.u64.wrap (bits .and .u64 a 3689348814741910323 + bits .and .u64 (a / 4) 3689348814741910323)
  let c := bits .and .u64 (IntKind.u64.wrap (b + b / 16)) 1085102592571150095
  IntKind.u64.wrap (c * 72340172838076673) / 72057594037927936 % 256

theorem count_is : ∀ k : Fin 64, count (2 ^ (k.val + 1) - 1) = ((k.val + 1 : Nat) : Int) := by decide +kernel

set_option maxRecDepth 20000 in
set_option maxHeartbeats 1000000 in
theorem width_is (x k : Nat) (hk : k ≤ 63) (h1 : 2 ^ k ≤ x) (h2 : x < 2 ^ (k + 1)) (w : World) :
    Calls Oaag.prog 214 #[.int .u64 x] w fun e w' => e = .returned (.int .u8 ((k + 1 : Nat) : Int)) ∧ w = w' := by
  have hx : x < 2 ^ 64 := Nat.lt_of_lt_of_le h2 (Nat.pow_le_pow_right (by omega) (by omega))
  have l1 := sm_lt x 64 1 hx
  have l2 := sm_lt _ 64 2 l1
  have l3 := sm_lt _ 64 4 l2
  have l4 := sm_lt _ 64 8 l3
  have l5 := sm_lt _ 64 16 l4
  have e1 := sm_int x 1 2 (by decide) hx
  have e2 := sm_int _ 2 4 (by decide) l1
  have e3 := sm_int _ 4 16 (by decide) l2
  have e4 := sm_int _ 8 256 (by decide) l3
  have e5 := sm_int _ 16 65536 (by decide) l4
  have e6 := sm_int _ 32 4294967296 (by decide) l5
  have e7 : sm (sm (sm (sm (sm (sm x 1) 2) 4) 8) 16) 32 = 2 ^ (k + 1) - 1 := smear_eq x k hk h1 h2
  rw [e7] at e6
  obtain ⟨y1, hy1⟩ : ∃ y, y = sm x 1 := ⟨_, rfl⟩
  rw [← hy1] at e1 e2 e3 e4 e5 e6
  obtain ⟨y2, hy2⟩ : ∃ y, y = sm y1 2 := ⟨_, rfl⟩
  rw [← hy2] at e2 e3 e4 e5 e6
  obtain ⟨y3, hy3⟩ : ∃ y, y = sm y2 4 := ⟨_, rfl⟩
  rw [← hy3] at e3 e4 e5 e6
  obtain ⟨y4, hy4⟩ : ∃ y, y = sm y3 8 := ⟨_, rfl⟩
  rw [← hy4] at e4 e5 e6
  obtain ⟨y5, hy5⟩ : ∃ y, y = sm y4 16 := ⟨_, rfl⟩
  rw [← hy5] at e5 e6
  obtain ⟨Y, hY⟩ : ∃ Y : Int, Y = ((2 ^ (k + 1) - 1 : Nat) : Int) := ⟨_, rfl⟩
  rw [← hY] at e6
  have hc : count Y = ((k + 1 : Nat) : Int) := by
    have h0 := count_is ⟨k, by omega⟩
    have h3 : Y = 2 ^ (k + 1) - 1 := by
      rw [hY]
      have := Nat.one_le_two_pow (n := k + 1)
      rw [Int.natCast_sub this]; simp
    rw [h3]; exact h0
  have HC := hide hc
  clear hc hY hy1 hy2 hy3 hy4 hy5 l1 l2 l3 l4 l5 e7 h1 h2 hx
  go_enter Oaag.func214, Oaag.ntmps214
  go_wp2
  go_ret
  refine ⟨ret_int ?_, rfl⟩
  exact unhide HC

end Go.Proofs.YgcoaaGreat.NatW
