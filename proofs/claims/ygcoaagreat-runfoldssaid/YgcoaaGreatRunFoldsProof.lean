/-
  'Rows.RunFoldsSaid' PROVED: three runs of one script leave the same.
-/
import Derived.Test.YgcoaaGreatRows
import Derived.WalkKit
import Derived.ProofKit
import Derived.OpenShut
import Derived.ShutString
import Derived.ChangeOld
import Derived.Below
import Derived.Carry
import Derived.Lib.SmallJoins
import Derived.Test.YgcoaaGreatTqM
import Derived.Test.YgcoaaGreatOverR
namespace Go.Proofs.YgcoaaGreat.runFolds
attribute [local go_sem] Go.Instr.field Go.asAgg
open Go.ChangeShapes Go.WideShapes Go.ChangeAt Go.RowKit Go.Joins
set_option linter.unusedVariables false

theorem own : ownKnob Oaag.prog.godebug = none := by kernel_rfl
theorem laid : laidOutB Oaag.prog = true := by kernel_rfl
theorem cells23 : Oaag.prog.cellsOf 23 = 2 := by kernel_rfl

set_option maxRecDepth 100000 in
theorem lifted (os : Os) (started : os.Started) (H : Type) (enc : TypeId × Value → H) :
    ReturnsInHanded {} Oaag.checked os 5 .any (Rows.runFoldsSpec.pre6 enc Oaag.prog Oaag.f5 Rows.runFoldsRow.domain false) (Rows.runFoldsSpec.post enc Oaag.prog Oaag.f5 false true false false) := by
  refine returnsInHanded_of_change (C := Oaag.checked) own started (by kernel_rfl) Oaag.func5
    (ChangeSpec.witness6 (enc := enc) (C := Oaag.checked) false ⟨#[], #[.int .u8 0, .agg #[.int .u8 0, .int .u8 0], .int .u8 0, .slice none 0 0], []⟩ 8 (by kernel_rfl) (by kernel_rfl) (by kernel_rfl) (by kernel_rfl)) ?_
  intro W base args ds gs before hval0 hW hcnd _
  have hval : ∀ (j : Nat) t v, Oaag.f5.params[j]? = some t → args[j]? = some v → Value.okWide Oaag.prog W .any base t v := hval0
  have hW' := hW
  obtain ⟨p, q, hA0, hV, rfl, hfz, hnd⟩ := hW
  have hA : DataW.TrodAll enc Oaag.prog W 0 (fun _ => true) true Oaag.f5.params.toList args.toList ds p := hA0
  rw [Oaag.params5] at hA hval
  obtain ⟨v0, v1, v2, v3, d0, d1, d2, d3, p0, p1, p2, p3, rfl, rfl, rfl, h0, h1, h2, h3⟩ := trodAll_four hA
  obtain ⟨rfl, rfl⟩ := trodVars_none hV
  have h0k := h0
  have h1k := h1
  have h2k := h2
  have h3k := h3
  obtain ⟨a0, rfl, rfl, rfl, w0⟩ := open_int Oaag.underlying5 (hval 0 5 v0 rfl rfl) h0
  obtain ⟨c0, c1, y0, y1, m, rfl, rfl, rfl, hy0, hy1⟩ := open_agg2 Oaag.underlying23 (by kernel_rfl) cells23 (hval 1 23 v1 rfl rfl) h1
  obtain ⟨E, e0, rfl, wE⟩ := DataW.trod_int Oaag.underlying5 hy0
  obtain ⟨M, e1, rfl, wM⟩ := DataW.trod_int Oaag.underlying5 hy1
  cases e0
  cases e1
  obtain ⟨a2, rfl, rfl, rfl, w2⟩ := open_int Oaag.underlying24 (hval 2 24 v2 rfl rfl) h2
  obtain ⟨x, len, cap, rfl⟩ := okWide_slice Oaag.underlying36 (hval 3 36 v3 rfl rfl)
  obtain ⟨ops, hok, hs⟩ := Go.Proofs.YgcoaaGreat.NatW.scr_of h3
  have b0 : 0 ≤ a0 ∧ a0 ≤ 255 := by simpa [Lit.wf, IntKind.min, IntKind.max, IntKind.signed, IntKind.bits] using w0
  have b2 : 0 ≤ a2 ∧ a2 ≤ 255 := by simpa [Lit.wf, IntKind.min, IntKind.max, IntKind.signed, IntKind.bits] using w2
  have bE : 0 ≤ E ∧ E ≤ 255 := by simpa [Lit.wf, IntKind.min, IntKind.max, IntKind.signed, IntKind.bits] using wE
  have bM : 0 ≤ M ∧ M ≤ 255 := by simpa [Lit.wf, IntKind.min, IntKind.max, IntKind.signed, IntKind.bits] using wM
  obtain ⟨E, rfl⟩ : ∃ n : Nat, E = n := ⟨E.toNat, by omega⟩
  obtain ⟨M, rfl⟩ : ∃ n : Nat, M = n := ⟨M.toNat, by omega⟩
  have hlt : ∀ z ∈ p3, z.block < W.heap.size := fun z hz => by
    have := hW'.lt z (by simp [hz])
    simpa using this
  refine (Go.Proofs.YgcoaaGreat.NatW.runFolds_any a0 b0.1 E M a2 b2.1 b2.2 _ ops hok W hs).mono fun e W' ⟨he, bel⟩ => ?_
  subst he
  exact ⟨_, rfl, _, _, _, [], _, [], hW', trodAll_mk1 (shut_bool Oaag.underlying4 _), trodAll_mk4 (Below.trod laid (by kernel_rfl) (of_decide_eq_true (by kernel_rfl)) h0k bel (fun z hz => by cases hz)) (Below.trod laid (by kernel_rfl) (of_decide_eq_true (by kernel_rfl)) h1k bel (fun z hz => by simp at hz)) (Below.trod laid (by kernel_rfl) (of_decide_eq_true (by kernel_rfl)) h2k bel (fun z hz => by cases hz)) (Below.trod laid (by kernel_rfl) (of_decide_eq_true (by kernel_rfl)) h3k bel hlt), rfl, bel.frame _, fun h => by cases h⟩
theorem over : Rows.runFoldsRow.holds Oaag.pinned (OpenSpec.ofChange Rows.runFoldsSpec) :=
  OpenClaim.holds_of_wide 5 Oaag.f5 rfl rfl rfl rfl rfl rfl rfl ⟨rfl, rfl, rfl, rfl, rfl⟩ rfl rfl rfl rfl rfl (by kernel_rfl) Oaag.func5 jf
    (of_decide_eq_true (by kernel_rfl)) (by unfold Func.isWrapper; first | (rw [if_pos (by decide +kernel)]; kernel_rfl) | (rw [if_neg (by decide +kernel)]; exact ⟨rfl, rfl⟩))
    (fun os started H enc _ => lifted os started H enc)

/-- ████ THE STATEMENT ████ -/
theorem proved : Rows.RunFoldsSaid :=
  over
#print axioms proved
end Go.Proofs.YgcoaaGreat.runFolds
