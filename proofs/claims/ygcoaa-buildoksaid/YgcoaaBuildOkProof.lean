/-
  'Rows.BuildOkSaid' PROVED: the table that tab.Build makes is Ok.
-/
import Derived.Test.YgcoaaRows
import Derived.WalkKit
import Derived.ProofKit
import Derived.OpenShut
import Derived.ShutString
import Derived.ChangeOld
import Derived.Below
import Derived.Test.YgcoaaTabE
namespace Go.Proofs.Ygcoaa.buildOk
open Go.ChangeShapes Go.WideShapes Go.ChangeAt Go.RowKit
open Go.ChangeMaps (open_string shut_string)
set_option linter.unusedVariables false      -- a walk need not use every 'w<i>' (that an integer argument fits its kind)

theorem own : ownKnob Oaag.prog.godebug = none := by kernel_rfl

/-! ### THE WALK: Build's table is Ok. -/
open Go.Proofs.Ygcoaa.NatW in
set_option maxRecDepth 20000 in
set_option maxHeartbeats 400000 in
theorem walk (w : World) :
    Calls Oaag.prog 6 #[] w fun e w' => e = .returned (.bool true) ∧ Below w.heap.size w w' := by
  go_enter Oaag.func6, Oaag.ntmps6
  go_wp2_with fail
  refine (build_any w).mono ?_
  rintro e w1 ⟨rfl, ht, hb1⟩
  have hok := ok_yes w1 w.heap.size ht
  have HOK := hide hok
  clear hok ht
  go_wp2_with fail
  refine (unhide HOK).mono ?_
  rintro e w2 ⟨rfl, hb2⟩
  go_wp2
  go_ret
  exact ⟨rfl, hb1.trans (hb2.mono hb1.size)⟩

/-! ### THE ROW's STEP: WRITTEN OUT: LEAVE IT -/
set_option maxRecDepth 100000 in
theorem lifted (os : Os) (started : os.Started) (H : Type) (enc : TypeId × Value → H) :
    ReturnsInHanded {} Oaag.checked os 6 .any (Rows.buildOkSpec.pre6 enc Oaag.prog Oaag.f6 Rows.buildOkRow.domain false) (Rows.buildOkSpec.post enc Oaag.prog Oaag.f6 false true false false) := by
  refine returnsInHanded_of_change (C := Oaag.checked) own started (by kernel_rfl) Oaag.func6
    (ChangeSpec.witness6 (enc := enc) (C := Oaag.checked) false ⟨#[], #[], []⟩ 8 (by kernel_rfl) (by kernel_rfl) (by kernel_rfl) (by kernel_rfl)) ?_
  intro W base args ds gs before hval0 hW hcnd _
  have hval : ∀ (j : Nat) t v, Oaag.f6.params[j]? = some t → args[j]? = some v → Value.okWide Oaag.prog W .any base t v := hval0
  have hW' := hW
  obtain ⟨p, q, hA0, hV, rfl, hfz, hnd⟩ := hW
  have hA : DataW.TrodAll enc Oaag.prog W 0 (fun _ => true) true Oaag.f6.params.toList args.toList ds p := hA0
  rw [Oaag.params6] at hA hval
  obtain ⟨rfl, rfl, rfl⟩ := trodAll_none hA
  obtain ⟨rfl, rfl⟩ := trodVars_none hV
  clear hA0 hval0
  simp only [List.append_nil] at hW'
  refine (walk W).mono fun e W' ⟨he, bel⟩ => ?_
  subst he
  exact ⟨_, rfl, _, _, _, [], _, [], hW', trodAll_mk1 (shut_bool Oaag.underlying4 _), trodAll_mk0, rfl, bel.frame _, fun h => by cases h⟩

theorem over : Rows.buildOkRow.holds Oaag.pinned (OpenSpec.ofChange Rows.buildOkSpec) :=
  OpenClaim.holds_of_wide 6 Oaag.f6 rfl rfl rfl rfl rfl rfl rfl ⟨rfl, rfl, rfl, rfl, rfl⟩ rfl rfl rfl rfl rfl (by kernel_rfl) Oaag.func6 (by kernel_rfl)
    (of_decide_eq_true (by kernel_rfl)) (by unfold Func.isWrapper; first | (rw [if_pos (by decide +kernel)]; kernel_rfl) | (rw [if_neg (by decide +kernel)]; exact ⟨rfl, rfl⟩))
    (fun os started H enc _ => lifted os started H enc)

/-- ████ THE STATEMENT ████ -/
theorem proved : Rows.BuildOkSaid :=
  over
#print axioms proved
end Go.Proofs.Ygcoaa.buildOk
