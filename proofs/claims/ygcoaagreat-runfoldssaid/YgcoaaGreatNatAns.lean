/-
  natAnswer: the walk, a case each.
-/
import Derived.Test.YgcoaaGreatSqrt
set_option linter.unusedVariables false
set_option linter.unusedSimpArgs false
namespace Go.Proofs.YgcoaaGreat.NatW
open Go.RowKit
open Go.Proofs.YgcoaaGreat.Limbs

/-- natAnswer's answer: two naturals in memory of their own, two numbers. -/
def Ans (w w' : World) (e : Ending) (rx ry : Nat) (u v : Int) : Prop :=
  ∃ a1 c1 a2 c2, e = .returned (.tuple #[.slice a1 (lim rx).length c1, .slice a2 (lim ry).length c2, .int .i64 u, .int .i64 v]) ∧ Res w.heap.size w' a1 c1 rx ∧ Res w.heap.size w' a2 c2 ry ∧ Below w.heap.size w w'

theorem cmpI_bd (x y : Nat) : -1 ≤ cmpI x y ∧ cmpI x y ≤ 1 := by
  unfold cmpI
  split
  · omega
  · split <;> omega

theorem normal_lim {B : Nat} {w : World} {a : Option Addr} {cap n : Nat} (h : Res B w a cap n) : (a.isNone || (decide (0 < (lim n).length) && (lim n).getD ((lim n).length - 1) 0 != 0)) = true := by
  rcases h with ⟨rfl, rfl, rfl⟩ | ⟨h0, g, l, rfl, _⟩
  · rfl
  · have h1 := (lim_length_pos n).2 h0
    have h2 := lim_top n h0
    simp only [h1, decide_true, Bool.true_and, Bool.or_eq_true, bne_iff_ne]
    exact .inr h2

def bI (b : Bool) : Int := if b then 1 else 0

end Go.Proofs.YgcoaaGreat.NatW
