/-
  PLAIN: the table's entries. Nothing of Go here.
-/
import Derived.Test.YgcoaaGreatLimbs3
set_option linter.unusedVariables false
set_option linter.unusedSimpArgs false
namespace Go.Proofs.YgcoaaGreat.Limbs

/-- The entry for 10^-k, k > 0. -/
def entMn (k : Nat) : Nat := 2 ^ (127 + bl (5 ^ k)) / 5 ^ k
def entEn (k : Nat) : Int := -(k : Int) - (127 + bl (5 ^ k) : Nat)
/-- The entry for 10^k. -/
def entMp (k : Nat) : Nat := if bl (5 ^ k) < 128 then 5 ^ k * 2 ^ (128 - bl (5 ^ k)) else 5 ^ k / 2 ^ (bl (5 ^ k) - 128)
def entEp (k : Nat) : Int := (bl (5 ^ k) : Int) - 128 + k

/-- The entry for 10^q. -/
def entM (q : Int) : Nat := if q < 0 then entMn (-q).toNat else entMp q.toNat
def entE (q : Int) : Int := if q < 0 then entEn (-q).toNat else entEp q.toNat

def okN (k : Nat) : Bool := decide (170141183460469231731687303715884105728 ≤ entMn k ∧ entMn k < 340282366920938463463374607431768211455 ∧ -1300 ≤ entEn k ∧ entEn k ≤ 1100)
def okP (k : Nat) : Bool := decide (170141183460469231731687303715884105728 ≤ entMp k ∧ entMp k < 340282366920938463463374607431768211455 ∧ -1300 ≤ entEp k ∧ entEp k ≤ 1100)

theorem all_n : ((List.range 348).all fun k => okN (k + 1)) = true := by decide +kernel
theorem all_p : ((List.range 348).all fun k => okP k) = true := by decide +kernel
theorem all_b : ((List.range 349).all fun k => decide (bl (5 ^ k) ≤ 809)) = true := by decide +kernel

theorem ok_n (k : Nat) (h1 : 1 ≤ k) (h2 : k ≤ 348) : 170141183460469231731687303715884105728 ≤ entMn k ∧ entMn k < 340282366920938463463374607431768211455 ∧ -1300 ≤ entEn k ∧ entEn k ≤ 1100 := by
  have h := List.all_eq_true.1 all_n (k - 1) (List.mem_range.2 (by omega))
  rw [show k - 1 + 1 = k from by omega] at h
  exact of_decide_eq_true h
theorem ok_p (k : Nat) (h2 : k ≤ 347) : 170141183460469231731687303715884105728 ≤ entMp k ∧ entMp k < 340282366920938463463374607431768211455 ∧ -1300 ≤ entEp k ∧ entEp k ≤ 1100 := by
  have h := List.all_eq_true.1 all_p k (List.mem_range.2 (by omega))
  exact of_decide_eq_true h
theorem bl_5 (k : Nat) (h : k ≤ 348) : bl (5 ^ k) ≤ 809 := by
  have h := List.all_eq_true.1 all_b k (List.mem_range.2 (by omega))
  exact of_decide_eq_true h

theorem ent_ok (q : Int) (h1 : -348 ≤ q) (h2 : q ≤ 347) : 170141183460469231731687303715884105728 ≤ entM q ∧ entM q < 340282366920938463463374607431768211455 ∧ -1300 ≤ entE q ∧ entE q ≤ 1100 := by
  unfold entM entE
  split
  · exact ok_n _ (by omega) (by omega)
  · exact ok_p _ (by omega)

end Go.Proofs.YgcoaaGreat.Limbs
