/-
  Package exact: Rat.Ok.
-/
import Derived.Test.YgcoaaGreatExD
set_option linter.unusedVariables false
set_option linter.unusedSimpArgs false
namespace Go.Proofs.YgcoaaGreat.NatW
attribute [local go_sem] Go.Instr.field Go.asAgg
open Go.RowKit
open Go.Proofs.YgcoaaGreat.Limbs

def nrm (a : Option Addr) (l : List Nat) : Bool := a.isNone || (decide (0 < l.length) && l.getD (l.length - 1) 0 != 0)

set_option maxRecDepth 20000 in
set_option maxHeartbeats 1000000 in
theorem ratOk_any (w : World) (neg : Bool) (a : Option Addr) (cap : Nat) (l : List Nat) (h : Sl w a cap l) (a2 : Option Addr) (cap2 : Nat) (l2 : List Nat) (h2 : Sl w a2 cap2 l2) (hl : l.length ≤ 35184372088000) (hl2 : l2.length ≤ 35184372088000) :
    Calls Oaag.prog 38 #[.agg #[.bool neg, .slice a l.length cap, .slice a2 l2.length cap2]] w fun e w' => e = .returned (.bool (nrm a l && nrm a2 l2 && !a2.isNone)) ∧ Below w.heap.size w w' := by
  have q24 := eqnil24
  have hb0 : Below w.heap.size w (w.alloc (.cells #[.bool neg, .slice a l.length cap, .slice a2 l2.length cap2] 67)) := (Below.refl _ _).alloc (Nat.le_refl _) _
  have hn1 := normal_any _ a cap l (h.later hb0) (by omega)
  have hn2 := normal_any _ a2 cap2 l2 (h2.later hb0) (by omega)
  obtain ⟨N1, hN1⟩ : ∃ N, N = nrm a l := ⟨_, rfl⟩
  obtain ⟨N2, hN2⟩ : ∃ N, N = nrm a2 l2 := ⟨_, rfl⟩
  obtain ⟨N3, hN3⟩ : ∃ N, N = a2.isNone := ⟨_, rfl⟩
  rw [show (a.isNone || (decide (0 < l.length) && l.getD (l.length - 1) 0 != 0)) = N1 from hN1.symm] at hn1
  rw [show (a2.isNone || (decide (0 < l2.length) && l2.getD (l2.length - 1) 0 != 0)) = N2 from hN2.symm] at hn2
  rw [← hN1, ← hN2, ← hN3]
  have HN1 := hide hn1
  have HN2 := hide hn2
  have HB0 := hide hb0
  have hn3 : a2.isNone = N3 := hN3.symm
  clear hn1 hn2 hb0 hN1 hN2 hN3
  have hfin : ∀ w1, (w.alloc (.cells #[.bool neg, .slice a l.length cap, .slice a2 l2.length cap2] 67)) = w1 → Below w.heap.size w w1 := by intro w1 h; rw [← h]; exact unhide HB0
  have HFIN := hide hfin
  clear hfin h h2
  cases N1
  · go_enter Oaag.func38, Oaag.ntmps38
    go_wp2_with fail
    refine (unhide HN1).mono ?_
    rintro e w1 ⟨rfl, rfl⟩
    go_wp2
    go_ret
    exact ⟨rfl, unhide HB0⟩
  · cases N2
    · go_enter Oaag.func38, Oaag.ntmps38
      go_wp2_with fail
      refine (unhide HN1).mono ?_
      rintro e w1 ⟨rfl, rfl⟩
      go_wp2_with fail
      refine (unhide HN2).mono ?_
      rintro e w1 ⟨rfl, rfl⟩
      go_wp2
      go_ret
      exact ⟨rfl, unhide HB0⟩
    · cases N3
      · go_enter Oaag.func38, Oaag.ntmps38
        go_wp2_with fail
        refine (unhide HN1).mono ?_
        rintro e w1 ⟨rfl, rfl⟩
        go_wp2_with fail
        refine (unhide HN2).mono ?_
        rintro e w1 ⟨rfl, rfl⟩
        go_wp2
        go_ret
        exact ⟨rfl, unhide HB0⟩
      · go_enter Oaag.func38, Oaag.ntmps38
        go_wp2_with fail
        refine (unhide HN1).mono ?_
        rintro e w1 ⟨rfl, rfl⟩
        go_wp2_with fail
        refine (unhide HN2).mono ?_
        rintro e w1 ⟨rfl, rfl⟩
        go_wp2
        go_ret
        exact ⟨rfl, unhide HB0⟩

end Go.Proofs.YgcoaaGreat.NatW
