/-
  Package bound: copied of a natural.
-/
import Derived.Test.YgcoaaGreatExE
set_option linter.unusedVariables false
set_option linter.unusedSimpArgs false
namespace Go.Proofs.YgcoaaGreat.NatW
attribute [local go_sem] Go.Instr.field Go.asAgg
open Go.RowKit
open Go.Proofs.YgcoaaGreat.Limbs

set_option maxRecDepth 20000 in
set_option maxHeartbeats 1000000 in
theorem copiedNat_any (w : World) (a : Option Addr) (cap : Nat) (l : List Nat) (h : Sl w a cap l) (hb : l.length ≤ 70368744177664) :
    Calls Oaag.prog 215 #[.slice a l.length cap] w fun e w' => ∃ a' cap', e = .returned (.slice a' l.length cap') ∧ Below w.heap.size w w' ∧
      ((a = none ∧ a' = none ∧ cap' = 0) ∨ (a.isNone = false ∧ a' = some ⟨w.heap.size, 0, none⟩ ∧ cap' = l.length ∧ Row w' w.heap.size l)) := by
  have q24 := eqnil24
  by_cases hn : a = none
  · subst hn
    have h0 : l = [] := List.eq_nil_of_length_eq_zero (by have := h.nil rfl; have := h.le; omega)
    subst h0
    go_enter Oaag.func215, Oaag.ntmps215
    go_wp2
    go_ret
    exact ⟨none, 0, rfl, Below.refl _ _, .inl (by simp)⟩
  · have hn2 : a.isNone = false := by cases a <;> simp_all
    have h3 := h.le
    go_enter Oaag.func215, Oaag.ntmps215
    go_wp2_with (first
      | (at_make; refine wpList_mk _ rfl _ rfl l.length _ rfl rfl (by omega) ?_; intro w1 hr1 hb1)
      | (refine wpList_cp rfl _ _ _ _ rfl Oaag.underlying53 _ _ _ rfl hr1 _ _ l _ rfl rfl (h.later hb1) (Nat.le_refl _) w.heap.size w hb1 (Nat.le_refl _) ?_; intro w2 hr2 hb2))
    go_ret
    simp only [Nat.sub_self, List.replicate_zero, List.append_nil] at hr2
    exact ⟨_, _, rfl, hb2, .inr ⟨hn2, rfl, rfl, hr2⟩⟩

end Go.Proofs.YgcoaaGreat.NatW
