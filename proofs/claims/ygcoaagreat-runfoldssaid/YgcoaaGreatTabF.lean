/-
  Package tab: Fits; ryu: Scale at a table of zeros.
-/
import Derived.Test.YgcoaaGreatTabz
import Derived.Test.YgcoaaGreatRyu
set_option linter.unusedVariables false
set_option linter.unusedSimpArgs false
namespace Go.Proofs.YgcoaaGreat.NatW
attribute [local go_sem] Go.Instr.field Go.asAgg
open Go.RowKit
open Go.Proofs.YgcoaaGreat.Limbs Go.Proofs.YgcoaaGreat.Bits

theorem Ret.runA {n : Nat} {args : Array Value} {Ψ : Value → Prop} (h : Ret n args Ψ) {wb : World} (x : Later wb) (o : Obj) {K : Ending → World → Prop} (hK : ∀ v (y : Later wb), Ψ v → K (.returned v) y.at_) : Calls Oaag.prog n args (x.at_.alloc o) K :=
  Ret.run h ⟨x.at_.alloc o, x.ok.alloc x.ok.size o⟩ hK



def Fit (hi lo e : Int) : Prop := 9223372036854775808 ≤ hi ∧ ¬ (hi = 18446744073709551615 ∧ lo = 18446744073709551615) ∧ -1300 ≤ e ∧ e ≤ 1100
theorem shr63 (h : Int) (u : U64 h) : (h / 9223372036854775808 == 1) = decide (9223372036854775808 ≤ h) := by
  obtain ⟨h0, h1⟩ := u
  by_cases e : 9223372036854775808 ≤ h
  · simp [e]; omega
  · simp [e]; omega

set_option maxRecDepth 20000 in
set_option maxHeartbeats 2000000 in
theorem fits_iff (hi lo e : Int) (uh : U64 hi) (ul : U64 lo) (h1 : -32768 ≤ e) (h2 : e ≤ 32767) : Ret 51 #[.agg #[.int .u64 hi, .int .u64 lo], .int .i16 e] (fun v => ∃ b, v = .bool b ∧ (b = true ↔ Fit hi lo e)) := by
  intro w K hK
  have HK := hide hK
  have hw : ∀ o, Below w.heap.size w (w.alloc o) := (Below.refl _ _).alloc (Nat.le_refl _)
  have HW := hide hw
  clear hw hK
  go_enter Oaag.func51, Oaag.ntmps51
  have s63 := shr63 hi uh
  have uh0 := uh.1
  have uh1 := uh.2
  have e0 : (hi == 18446744073709551615) = decide (hi = 18446744073709551615) := rfl
  have e1 : (lo == 18446744073709551615) = decide (lo = 18446744073709551615) := rfl
  by_cases k1 : 9223372036854775808 ≤ hi
  all_goals by_cases k2 : hi = 18446744073709551615
  all_goals by_cases k3 : lo = 18446744073709551615
  all_goals simp only [k1, k2, k3, decide_true, decide_false] at s63 e0 e1
  all_goals try (exfalso; omega)
  all_goals have KF : Hid (Fit hi lo e ↔ (9223372036854775808 ≤ hi ∧ ¬ (hi = 18446744073709551615 ∧ lo = 18446744073709551615) ∧ -1300 ≤ e ∧ e ≤ 1100)) := hide Iff.rfl
  all_goals have N1 := hide k1
  all_goals have N2 := hide k2
  all_goals have N3 := hide k3
  all_goals clear k1
  all_goals go_wp2_with fail
  all_goals first
    | (refine unhide HK _ _ ⟨_, rfl, ?_⟩ (unhide HW _)
       have q1 := unhide N1
       have q2 := unhide N2
       have q3 := unhide N3
       rw [unhide KF]
       simp_all
       try omega)
    | skip

theorem fits_no (hi lo e : Int) (uh : U64 hi) (ul : U64 lo) (h1 : -32768 ≤ e) (h2 : e ≤ 32767) (h : ¬ Fit hi lo e) : Ret 51 #[.agg #[.int .u64 hi, .int .u64 lo], .int .i16 e] (fun v => v = .bool false) :=
  (fits_iff hi lo e uh ul h1 h2).mono fun v ⟨b, hv, hb⟩ => by subst hv; cases b <;> simp_all

set_option maxRecDepth 20000 in
set_option maxHeartbeats 2000000 in
theorem scale_zero (tb : Nat) (m e : Int) (um : U64 m) (h1 : -32768 ≤ e) (h2 : e ≤ 32767) : RetT tb 192 #[.pointer (some ⟨tb, 0, none⟩), .int .u64 m, .int .i16 e] (fun v => v = .tuple #[.int .u64 0, .bool false]) := by
  intro w K hT hK
  have HK := hide hK
  clear hK
  obtain ⟨wb, x0, hwb, hB⟩ := boxes0 w
  subst hwb
  have hne : Nonempty (Later wb) := ⟨x0⟩
  go_enter Oaag.func192, Oaag.ntmps192
  have hT' : ∀ x : Later wb, TabZ tb x.at_ := fun x => hT.kept (hB x) hT.lt
  have HT := hide hT'
  clear hT hT'
  have um0 := um.1
  have um1 := um.2
  go_wp2_with (first
    | (with_reducible refine Go.Proofs.YgcoaaGreat.NatW.at_later 308 ?_; refine Go.Proofs.YgcoaaGreat.NatW.Ret.run (log10_ret e h1 h2) _ ?_; rintro _ y__ ⟨rl, rfl, hl1, hl2⟩)
    | (with_reducible refine Go.Proofs.YgcoaaGreat.NatW.at_later 191 ?_; refine Go.Proofs.YgcoaaGreat.NatW.RetT.run (at_zero tb _ (by omega) (by omega)) (unhide HT) _ ?_; rintro _ y__ ⟨bt, rfl⟩)
    | (with_reducible refine Go.Proofs.YgcoaaGreat.NatW.at_latera 51 ?_; refine Go.Proofs.YgcoaaGreat.NatW.Ret.runA (fits_no 0 0 0 (by (first | assumption | exact U64.wrap _ | exact U64.bits _ _ _ | exact U64.div (by first | assumption | exact U64.wrap _ | exact U64.bits _ _ _ | exact U64.div (by first | assumption | exact U64.wrap _ | exact U64.bits _ _ _ | exact U64.lit (by omega) (by omega)) _ | exact U64.ediv (by first | assumption | exact U64.wrap _ | exact U64.bits _ _ _ | exact U64.lit (by omega) (by omega)) _ (by omega) | exact U64.lit (by omega) (by omega) | exact U64.one _ (by first | assumption | exact U64.wrap _ | exact U64.bits _ _ _ | exact U64.lit (by omega) (by omega)) (by first | assumption | exact U64.wrap _ | exact U64.bits _ _ _ | exact U64.lit (by omega) (by omega))) _ | exact U64.ediv (by first | assumption | exact U64.wrap _ | exact U64.bits _ _ _ | exact U64.div (by first | assumption | exact U64.wrap _ | exact U64.bits _ _ _ | exact U64.lit (by omega) (by omega)) _ | exact U64.ediv (by first | assumption | exact U64.wrap _ | exact U64.bits _ _ _ | exact U64.lit (by omega) (by omega)) _ (by omega) | exact U64.lit (by omega) (by omega) | exact U64.one _ (by first | assumption | exact U64.wrap _ | exact U64.bits _ _ _ | exact U64.lit (by omega) (by omega)) (by first | assumption | exact U64.wrap _ | exact U64.bits _ _ _ | exact U64.lit (by omega) (by omega))) _ (by omega) | exact U64.lit (by omega) (by omega) | exact U64.one _ (by first | assumption | exact U64.wrap _ | exact U64.bits _ _ _ | exact U64.div (by first | assumption | exact U64.wrap _ | exact U64.bits _ _ _ | exact U64.lit (by omega) (by omega)) _ | exact U64.ediv (by first | assumption | exact U64.wrap _ | exact U64.bits _ _ _ | exact U64.lit (by omega) (by omega)) _ (by omega) | exact U64.lit (by omega) (by omega) | exact U64.one _ (by first | assumption | exact U64.wrap _ | exact U64.bits _ _ _ | exact U64.lit (by omega) (by omega)) (by first | assumption | exact U64.wrap _ | exact U64.bits _ _ _ | exact U64.lit (by omega) (by omega))) (by first | assumption | exact U64.wrap _ | exact U64.bits _ _ _ | exact U64.div (by first | assumption | exact U64.wrap _ | exact U64.bits _ _ _ | exact U64.lit (by omega) (by omega)) _ | exact U64.ediv (by first | assumption | exact U64.wrap _ | exact U64.bits _ _ _ | exact U64.lit (by omega) (by omega)) _ (by omega) | exact U64.lit (by omega) (by omega) | exact U64.one _ (by first | assumption | exact U64.wrap _ | exact U64.bits _ _ _ | exact U64.lit (by omega) (by omega)) (by first | assumption | exact U64.wrap _ | exact U64.bits _ _ _ | exact U64.lit (by omega) (by omega))))) (by (first | assumption | exact U64.wrap _ | exact U64.bits _ _ _ | exact U64.div (by first | assumption | exact U64.wrap _ | exact U64.bits _ _ _ | exact U64.div (by first | assumption | exact U64.wrap _ | exact U64.bits _ _ _ | exact U64.lit (by omega) (by omega)) _ | exact U64.ediv (by first | assumption | exact U64.wrap _ | exact U64.bits _ _ _ | exact U64.lit (by omega) (by omega)) _ (by omega) | exact U64.lit (by omega) (by omega) | exact U64.one _ (by first | assumption | exact U64.wrap _ | exact U64.bits _ _ _ | exact U64.lit (by omega) (by omega)) (by first | assumption | exact U64.wrap _ | exact U64.bits _ _ _ | exact U64.lit (by omega) (by omega))) _ | exact U64.ediv (by first | assumption | exact U64.wrap _ | exact U64.bits _ _ _ | exact U64.div (by first | assumption | exact U64.wrap _ | exact U64.bits _ _ _ | exact U64.lit (by omega) (by omega)) _ | exact U64.ediv (by first | assumption | exact U64.wrap _ | exact U64.bits _ _ _ | exact U64.lit (by omega) (by omega)) _ (by omega) | exact U64.lit (by omega) (by omega) | exact U64.one _ (by first | assumption | exact U64.wrap _ | exact U64.bits _ _ _ | exact U64.lit (by omega) (by omega)) (by first | assumption | exact U64.wrap _ | exact U64.bits _ _ _ | exact U64.lit (by omega) (by omega))) _ (by omega) | exact U64.lit (by omega) (by omega) | exact U64.one _ (by first | assumption | exact U64.wrap _ | exact U64.bits _ _ _ | exact U64.div (by first | assumption | exact U64.wrap _ | exact U64.bits _ _ _ | exact U64.lit (by omega) (by omega)) _ | exact U64.ediv (by first | assumption | exact U64.wrap _ | exact U64.bits _ _ _ | exact U64.lit (by omega) (by omega)) _ (by omega) | exact U64.lit (by omega) (by omega) | exact U64.one _ (by first | assumption | exact U64.wrap _ | exact U64.bits _ _ _ | exact U64.lit (by omega) (by omega)) (by first | assumption | exact U64.wrap _ | exact U64.bits _ _ _ | exact U64.lit (by omega) (by omega))) (by first | assumption | exact U64.wrap _ | exact U64.bits _ _ _ | exact U64.div (by first | assumption | exact U64.wrap _ | exact U64.bits _ _ _ | exact U64.lit (by omega) (by omega)) _ | exact U64.ediv (by first | assumption | exact U64.wrap _ | exact U64.bits _ _ _ | exact U64.lit (by omega) (by omega)) _ (by omega) | exact U64.lit (by omega) (by omega) | exact U64.one _ (by first | assumption | exact U64.wrap _ | exact U64.bits _ _ _ | exact U64.lit (by omega) (by omega)) (by first | assumption | exact U64.wrap _ | exact U64.bits _ _ _ | exact U64.lit (by omega) (by omega))))) (by omega) (by omega) (fun h => by unfold Fit at h; omega)) _ _ ?_; rintro _ y__ rfl))
  all_goals first
    | exact unhide HK _ _ rfl (hB _)
    | skip


end Go.Proofs.YgcoaaGreat.NatW
