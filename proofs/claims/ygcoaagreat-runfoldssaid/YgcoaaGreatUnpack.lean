/-
  Package ieee: Unpack.
-/
import Derived.Test.YgcoaaGreatIeeeD
set_option linter.unusedVariables false
set_option linter.unusedSimpArgs false
namespace Go.Proofs.YgcoaaGreat.NatW
open Go.RowKit
open Go.Proofs.YgcoaaGreat.Limbs Go.Proofs.YgcoaaGreat.Bits

/-! ### What Unpack answers, in plain words -/
def fE (E M x : Nat) : Nat := x / 2 ^ M % 2 ^ E
def fM (M x : Nat) : Nat := x % 2 ^ M
def fS (E M x : Nat) : Bool := decide (x / 2 ^ (E + M) % 2 = 1)
def cls (E M x : Nat) : Int := if fE E M x = 2 ^ E - 1 then (if fM M x = 0 then 3 else 4) else if fE E M x = 0 then (if fM M x = 0 then 0 else 1) else 2
def uNeg (E M x : Nat) : Bool := if cls E M x = 4 then false else fS E M x
def uExp (E M x : Nat) : Int := if cls E M x = 1 then 1 - ((2 ^ (E - 1) : Nat) - 1) - M - (M - (Nat.log2 (fM M x) : Nat)) else if cls E M x = 2 then fE E M x - ((2 ^ (E - 1) : Nat) - 1) - M else 0
def uMan (E M x : Nat) : Nat := if cls E M x = 1 then fM M x * 2 ^ (M - Nat.log2 (fM M x)) else if cls E M x = 2 then fM M x + 2 ^ M else 0
def parts (E M x : Nat) : Value := .agg #[.bool (uNeg E M x), .int .i8 (cls E M x), .int .i16 (uExp E M x), .int .u64 ((uMan E M x : Nat) : Int)]

theorem and_mask (x k : Nat) : x &&& (2 ^ k - 1) = x % 2 ^ k := Nat.and_two_pow_sub_one_eq_mod x k
theorem and_bit (x k : Nat) : x &&& 2 ^ k = if x / 2 ^ k % 2 = 1 then 2 ^ k else 0 := by
  have hb : x.testBit k = decide (x / 2 ^ k % 2 = 1) := Nat.testBit_eq_decide_div_mod_eq
  apply Nat.eq_of_testBit_eq
  intro i
  rw [Nat.testBit_and, Nat.testBit_two_pow]
  by_cases hk : k = i
  · subst hk
    rw [hb]
    by_cases h : x / 2 ^ k % 2 = 1
    · simp [h]
    · simp [h]
  · rw [decide_eq_false hk, Bool.and_false]
    split
    · rw [Nat.testBit_two_pow, decide_eq_false hk]
    · simp

end Go.Proofs.YgcoaaGreat.NatW
