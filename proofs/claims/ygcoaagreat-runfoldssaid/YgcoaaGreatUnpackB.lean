/-
  Package ieee: Unpack: the walk.
-/
import Derived.Test.YgcoaaGreatUnpack
set_option linter.unusedVariables false
set_option linter.unusedSimpArgs false
namespace Go.Proofs.YgcoaaGreat.NatW
open Go.RowKit
open Go.Proofs.YgcoaaGreat.Limbs Go.Proofs.YgcoaaGreat.Bits

theorem mask_int (k : Nat) (hk : k ≤ 63) : IntKind.u64.wrap (IntKind.u64.wrap ((2 : Int) ^ k) - 1) = ((2 ^ k - 1 : Nat) : Int) := by
  have h3 := Nat.one_le_two_pow (n := k)
  have h4 := pow63 k hk
  rw [wrap_pow k hk]
  have e1 : ((2 ^ k : Nat) : Int) - 1 = ((2 ^ k - 1 : Nat) : Int) := by omega
  rw [e1]
  exact wrap_u (by omega) (by omega)

theorem fE_int (E M x : Nat) (hE : E ≤ 63) (hx : x < 18446744073709551616) : bits .and .u64 ((x : Int) / 2 ^ M) ((2 ^ E - 1 : Nat) : Int) = ((fE E M x : Nat) : Int) := by
  have h1 : ((x : Int) / 2 ^ M) = ((x / 2 ^ M : Nat) : Int) := by rw [pow_cast]; simp
  have h2 : x / 2 ^ M ≤ x := Nat.div_le_self _ _
  have h4 := pow63 E hE
  rw [h1, u64_and_nat _ _ (by omega) (by omega), and_mask]
  rfl
theorem fM_int (M x : Nat) (hM : M ≤ 63) (hx : x < 18446744073709551616) : bits .and .u64 (x : Int) ((2 ^ M - 1 : Nat) : Int) = ((fM M x : Nat) : Int) := by
  have h4 := pow63 M hM
  rw [u64_and_nat _ _ (by omega) (by omega), and_mask]
  rfl
theorem fS_int (E M x : Nat) (h : E + M ≤ 63) (hx : x < 18446744073709551616) : bits .and .u64 (x : Int) ((2 ^ (E + M) : Nat) : Int) = (((if fS E M x then 2 ^ (E + M) else 0) : Nat) : Int) := by
  have h4 := pow63 (E + M) h
  rw [u64_and_nat _ _ (by omega) (by omega), and_bit]
  unfold fS
  by_cases hc : x / 2 ^ (E + M) % 2 = 1
  · simp [hc]
  · simp [hc]

end Go.Proofs.YgcoaaGreat.NatW
