/-
  The row's closed facts, one by one: her closure holds no ring, by a rank of the functions.
-/
import Derived.Test.YgcoaaGreatRows
import Derived.WalkKit
import Derived.ProofKit
import Derived.OpenShut
import Derived.ShutString
set_option linter.unusedVariables false
namespace Go.Proofs.YgcoaaGreat.runFolds
open Go.ChangeShapes Go.WideShapes Go.ChangeAt Go.RowKit

theorem closureVia_rank (P : Program) (rank : FuncId → Nat) (hdec : ∀ g, ∀ h ∈ (P.funcs[g]?).elim [] P.leadsTo, rank h < rank g) (B : Nat) :
    ∀ (n : Nat) (todo seen : List FuncId), (∀ x ∈ todo, rank x ≤ B) → (∀ x ∈ seen, rank x ≤ B) → ∀ x ∈ P.closureVia n todo seen, rank x ≤ B
  | 0, todo, seen, _, hs, x, hx => by
    simp only [Program.closureVia, List.mem_reverse] at hx
    exact hs x hx
  | n + 1, [], seen, _, hs, x, hx => by
    simp only [Program.closureVia, List.mem_reverse] at hx
    exact hs x hx
  | n + 1, f :: todo, seen, ht, hs, x, hx => by
    simp only [Program.closureVia] at hx
    split at hx
    · exact closureVia_rank P rank hdec B n todo seen (fun y hy => ht y (List.mem_cons_of_mem _ hy)) hs x hx
    · refine closureVia_rank P rank hdec B n _ _ ?_ ?_ x hx
      · intro y hy
        rcases List.mem_append.1 hy with hy | hy
        · have h1 := hdec f y hy
          have h2 := ht f List.mem_cons_self
          omega
        · exact ht y (List.mem_cons_of_mem _ hy)
      · intro y hy
        rcases List.mem_cons.1 hy with rfl | hy
        · exact ht y List.mem_cons_self
        · exact hs y hy

theorem recurses_not (P : Program) (rank : FuncId → Nat) (hdec : ∀ g, ∀ h ∈ (P.funcs[g]?).elim [] P.leadsTo, rank h < rank g) (f : FuncId) (hu : P.unfollowed f = false) : P.recurses f = false := by
  unfold Program.recurses
  rw [hu, Bool.false_or, List.any_eq_false]
  intro g _ hg
  obtain ⟨h, hh, hc⟩ := List.any_eq_true.1 hg
  have h1 := hdec g h hh
  have h2 := closureVia_rank P rank hdec (rank h) _ [h] [] (fun x hx => by simp at hx; subst hx; exact Nat.le_refl _) (fun x hx => by cases hx) g (by simpa [Program.closure] using hc)
  omega

def ranks : List Nat := [0, 0, 1, 11, 16, 19, 19, 19, 20, 20, 10, 5, 3, 5, 2, 7, 7, 15, 18, 18, 18, 19, 19, 6, 9, 1, 4, 1, 0, 1, 2, 2, 0, 4, 2, 0, 0, 4, 1, 0, 6, 2, 1, 14, 5, 4, 17, 17, 17, 18, 18, 0, 5, 1, 7, 7, 1, 0, 8, 6, 0, 1, 3, 2, 0, 1, 1, 0, 3, 2, 3, 0, 0, 0, 0, 0, 0, 2, 3, 5, 1, 12, 12, 13, 0, 3, 14, 15, 1, 1, 0, 16, 0, 5, 11, 12, 8, 11, 8, 16, 8, 7, 17, 0, 1, 0, 6, 2, 0, 5, 7, 5, 0, 1, 2, 1, 2, 1, 1, 4, 5, 8, 9, 8, 8, 7, 0, 6, 8, 8, 8, 9, 11, 11, 5, 9, 10, 7, 7, 7, 0, 4, 7, 7, 6, 8, 5, 11, 5, 4, 4, 4, 4, 3, 8, 8, 5, 12, 2, 1, 0, 15, 3, 2, 7, 7, 10, 10, 5, 11, 6, 2, 9, 10, 10, 9, 7, 5, 7, 5, 6, 4, 4, 8, 8, 6, 7, 4, 6, 7, 6, 0, 1, 15, 0, 0, 0, 5, 1, 0, 1, 0, 0, 4, 0, 6, 4, 2, 1, 2, 2, 0, 0, 0, 0, 0, 2, 7, 8, 7, 7, 6, 5, 0, 3, 7, 7, 1, 2, 4, 8, 8, 8, 8, 8, 10, 10, 0, 9, 8, 2, 8, 8, 8, 7, 8, 8, 9, 6, 6, 6, 6, 6, 1, 2, 5, 4, 9, 7, 7, 7, 7, 7, 8, 10, 6, 2, 8, 7, 8, 7, 5, 7, 3, 3, 3, 3, 3, 3, 3, 3, 3, 3, 3, 3, 3, 2, 2, 1, 3, 3, 5, 4, 4, 11, 7, 6, 4, 5, 6, 8, 6, 5, 5, 0, 9, 4, 1, 0, 8, 6, 6, 6, 6, 6, 7, 6, 7, 7, 7, 7, 7, 9, 9, 7, 0, 6, 4, 4, 0, 4, 1, 4, 3, 4, 0, 0, 7, 7, 5, 5, 5, 0, 0, 4, 0, 0, 2, 2, 2, 2, 4, 5, 5, 0, 1, 0, 0, 1, 1, 1, 0, 5, 0, 0, 1, 0, 1, 0, 0, 0, 1, 7, 2, 1, 0, 2, 1, 0, 1, 2, 1, 2, 2, 2, 2, 3, 10, 10, 6, 5, 3, 3, 3, 3, 4, 4, 2, 4, 0, 0, 0, 6, 1, 0, 2, 4, 0, 8, 2, 0, 1, 4, 0, 1, 0, 4, 0, 0, 0, 0, 0, 1, 0, 1, 1, 1, 9, 2, 4, 9, 7, 1, 5, 4, 3, 3, 1, 1, 0, 0, 0, 8, 1, 3, 8, 6, 0, 4, 0, 2, 3, 2, 2, 0, 7, 0, 2, 0, 7, 0, 5, 0, 3, 1, 2, 1, 1, 6, 4, 1, 0, 5, 4, 0, 3, 0, 0, 0, 0, 0, 0, 0, 0, 0, 0, 0, 0, 0, 0, 0, 0]
def rankOf (g : FuncId) : Nat := ranks.getD g 0

set_option maxRecDepth 100000 in
theorem ranks_ok : ((List.range Oaag.pinned.checked.prog.funcs.size).all fun g => ((Oaag.pinned.checked.prog.funcs[g]?).elim [] Oaag.pinned.checked.prog.leadsTo).all fun h => Nat.blt (rankOf h) (rankOf g)) = true := by kernel_rfl

theorem ranks_dec : ∀ g, ∀ h ∈ (Oaag.pinned.checked.prog.funcs[g]?).elim [] Oaag.pinned.checked.prog.leadsTo, rankOf h < rankOf g := by
  intro g h hh
  by_cases hg : g < Oaag.pinned.checked.prog.funcs.size
  · have h1 := List.all_eq_true.1 ranks_ok g (List.mem_range.2 hg)
    have h2 := List.all_eq_true.1 h1 h hh
    simpa [Nat.blt_eq] using h2
  · rw [Array.getElem?_eq_none (Nat.not_lt.1 hg)] at hh
    cases hh

set_option maxRecDepth 100000 in
theorem j0 : (fun (P : Program) (f : FuncId) (fn : Func) (s : ChangeSpec) (c : OpenClaim) => (c.wf (OpenSpec.ofChange s) : Bool)) Oaag.pinned.checked.prog 5 Oaag.f5 Rows.runFoldsSpec Rows.runFoldsRow = true := by kernel_rfl
set_option maxRecDepth 100000 in
theorem j1 : (fun (P : Program) (f : FuncId) (fn : Func) (s : ChangeSpec) (c : OpenClaim) => (laidOutB P : Bool)) Oaag.pinned.checked.prog 5 Oaag.f5 Rows.runFoldsSpec Rows.runFoldsRow = true := by kernel_rfl
set_option maxRecDepth 100000 in
theorem j2 : (fun (P : Program) (f : FuncId) (fn : Func) (s : ChangeSpec) (c : OpenClaim) => (mapsRowed P : Bool)) Oaag.pinned.checked.prog 5 Oaag.f5 Rows.runFoldsSpec Rows.runFoldsRow = true := by kernel_rfl
set_option maxRecDepth 100000 in
theorem j3 : (fun (P : Program) (f : FuncId) (fn : Func) (s : ChangeSpec) (c : OpenClaim) => (fn.params.all (P.readableRec ·) : Bool)) Oaag.pinned.checked.prog 5 Oaag.f5 Rows.runFoldsSpec Rows.runFoldsRow = true := by kernel_rfl
set_option maxRecDepth 100000 in
theorem j4 : (fun (P : Program) (f : FuncId) (fn : Func) (s : ChangeSpec) (c : OpenClaim) => (namedTie P c.named s.vars : Bool)) Oaag.pinned.checked.prog 5 Oaag.f5 Rows.runFoldsSpec Rows.runFoldsRow = true := by kernel_rfl
set_option maxRecDepth 100000 in
theorem j5 : (fun (P : Program) (f : FuncId) (fn : Func) (s : ChangeSpec) (c : OpenClaim) => ((c.stops == []) : Bool)) Oaag.pinned.checked.prog 5 Oaag.f5 Rows.runFoldsSpec Rows.runFoldsRow = true := by kernel_rfl
set_option maxRecDepth 100000 in
theorem j6 : (fun (P : Program) (f : FuncId) (fn : Func) (s : ChangeSpec) (c : OpenClaim) => ((P.stops == []) : Bool)) Oaag.pinned.checked.prog 5 Oaag.f5 Rows.runFoldsSpec Rows.runFoldsRow = true := by kernel_rfl
set_option maxRecDepth 100000 in
theorem j7 : (fun (P : Program) (f : FuncId) (fn : Func) (s : ChangeSpec) (c : OpenClaim) => ((c.knobs == []) : Bool)) Oaag.pinned.checked.prog 5 Oaag.f5 Rows.runFoldsSpec Rows.runFoldsRow = true := by kernel_rfl
set_option maxRecDepth 100000 in
theorem j8 : (fun (P : Program) (f : FuncId) (fn : Func) (s : ChangeSpec) (c : OpenClaim) => ((P.stopKnobs == []) : Bool)) Oaag.pinned.checked.prog 5 Oaag.f5 Rows.runFoldsSpec Rows.runFoldsRow = true := by kernel_rfl
set_option maxRecDepth 100000 in
theorem j9 : (fun (P : Program) (f : FuncId) (fn : Func) (s : ChangeSpec) (c : OpenClaim) => ((c.inPlace == P.inPlace f) : Bool)) Oaag.pinned.checked.prog 5 Oaag.f5 Rows.runFoldsSpec Rows.runFoldsRow = true := by kernel_rfl
set_option maxRecDepth 100000 in
theorem j10 : (fun (P : Program) (f : FuncId) (fn : Func) (s : ChangeSpec) (c : OpenClaim) => ((c.unfollowed == P.unfollowed f) : Bool)) Oaag.pinned.checked.prog 5 Oaag.f5 Rows.runFoldsSpec Rows.runFoldsRow = true := by kernel_rfl
set_option maxRecDepth 100000 in
theorem j12 : (fun (P : Program) (f : FuncId) (fn : Func) (s : ChangeSpec) (c : OpenClaim) => ((c.named == P.varsNamed f) : Bool)) Oaag.pinned.checked.prog 5 Oaag.f5 Rows.runFoldsSpec Rows.runFoldsRow = true := by kernel_rfl
set_option maxRecDepth 100000 in
theorem j13 : (fun (P : Program) (f : FuncId) (fn : Func) (s : ChangeSpec) (c : OpenClaim) => ((c.maps == (fn.params.toList ++ s.plain.varTypes P).any (P.mapsRec ·)) : Bool)) Oaag.pinned.checked.prog 5 Oaag.f5 Rows.runFoldsSpec Rows.runFoldsRow = true := by kernel_rfl
set_option maxRecDepth 100000 in
theorem j14 : (fun (P : Program) (f : FuncId) (fn : Func) (s : ChangeSpec) (c : OpenClaim) => ((c.ifaces == (fn.params.toList ++ s.plain.varTypes P).any (P.ifacesRec ·)) : Bool)) Oaag.pinned.checked.prog 5 Oaag.f5 Rows.runFoldsSpec Rows.runFoldsRow = true := by kernel_rfl
set_option maxRecDepth 100000 in
theorem j15 : (fun (P : Program) (f : FuncId) (fn : Func) (s : ChangeSpec) (c : OpenClaim) => ((c.mapsOut == P.mapsAmong fn.resultTypes.toList) : Bool)) Oaag.pinned.checked.prog 5 Oaag.f5 Rows.runFoldsSpec Rows.runFoldsRow = true := by kernel_rfl
set_option maxRecDepth 100000 in
theorem j16 : (fun (P : Program) (f : FuncId) (fn : Func) (s : ChangeSpec) (c : OpenClaim) => ((c.loops == (fn.params.toList ++ s.plain.varTypes P).any (P.loopsFrom ·)) : Bool)) Oaag.pinned.checked.prog 5 Oaag.f5 Rows.runFoldsSpec Rows.runFoldsRow = true := by kernel_rfl
set_option maxRecDepth 100000 in
theorem j17 : (fun (P : Program) (f : FuncId) (fn : Func) (s : ChangeSpec) (c : OpenClaim) => ((c.wideKeys == (fn.params.toList ++ s.plain.varTypes P ++ fn.resultTypes.toList).any (P.wideKeysFrom ·)) : Bool)) Oaag.pinned.checked.prog 5 Oaag.f5 Rows.runFoldsSpec Rows.runFoldsRow = true := by kernel_rfl
set_option maxRecDepth 100000 in
theorem j18 : (fun (P : Program) (f : FuncId) (fn : Func) (s : ChangeSpec) (c : OpenClaim) => (s.vars.all (P.varReadable ·) : Bool)) Oaag.pinned.checked.prog 5 Oaag.f5 Rows.runFoldsSpec Rows.runFoldsRow = true := by kernel_rfl
set_option maxRecDepth 100000 in
theorem j19 : (fun (P : Program) (f : FuncId) (fn : Func) (s : ChangeSpec) (c : OpenClaim) => (fn.resultTypes.all (fun t => P.readableRec t && decide (t < P.types.size)) : Bool)) Oaag.pinned.checked.prog 5 Oaag.f5 Rows.runFoldsSpec Rows.runFoldsRow = true := by kernel_rfl
set_option maxRecDepth 100000 in
theorem j20 : (fun (P : Program) (f : FuncId) (fn : Func) (s : ChangeSpec) (c : OpenClaim) => ((c.ifacesOut == fn.resultTypes.toList.any (P.ifacesRec ·)) : Bool)) Oaag.pinned.checked.prog 5 Oaag.f5 Rows.runFoldsSpec Rows.runFoldsRow = true := by kernel_rfl
set_option maxRecDepth 100000 in
theorem j21 : (fun (P : Program) (f : FuncId) (fn : Func) (s : ChangeSpec) (c : OpenClaim) => ((c.loopsOut == fn.resultTypes.toList.any (P.loopsFrom ·)) : Bool)) Oaag.pinned.checked.prog 5 Oaag.f5 Rows.runFoldsSpec Rows.runFoldsRow = true := by kernel_rfl
set_option maxRecDepth 100000 in
theorem j22 : (fun (P : Program) (f : FuncId) (fn : Func) (s : ChangeSpec) (c : OpenClaim) => ((c.plainKeys == P.plainKeys) : Bool)) Oaag.pinned.checked.prog 5 Oaag.f5 Rows.runFoldsSpec Rows.runFoldsRow = true := by kernel_rfl
set_option maxRecDepth 100000 in
theorem j23 : (fun (P : Program) (f : FuncId) (fn : Func) (s : ChangeSpec) (c : OpenClaim) => (c.shortTexts.isNone : Bool)) Oaag.pinned.checked.prog 5 Oaag.f5 Rows.runFoldsSpec Rows.runFoldsRow = true := by kernel_rfl
set_option maxRecDepth 100000 in
theorem j24 : (fun (P : Program) (f : FuncId) (fn : Func) (s : ChangeSpec) (c : OpenClaim) => (P.stopsHeard : Bool)) Oaag.pinned.checked.prog 5 Oaag.f5 Rows.runFoldsSpec Rows.runFoldsRow = true := by kernel_rfl
set_option maxRecDepth 100000 in
theorem j25 : (fun (P : Program) (f : FuncId) (fn : Func) (s : ChangeSpec) (c : OpenClaim) => (P.mayEnter : Bool)) Oaag.pinned.checked.prog 5 Oaag.f5 Rows.runFoldsSpec Rows.runFoldsRow = true := by kernel_rfl
set_option maxRecDepth 100000 in
theorem j26 : (fun (P : Program) (f : FuncId) (fn : Func) (s : ChangeSpec) (c : OpenClaim) => ((c.lifted == P.liftsFinal) : Bool)) Oaag.pinned.checked.prog 5 Oaag.f5 Rows.runFoldsSpec Rows.runFoldsRow = true := by kernel_rfl
set_option maxRecDepth 100000 in
theorem j27 : (fun (P : Program) (f : FuncId) (fn : Func) (s : ChangeSpec) (c : OpenClaim) => ((P.make == some c.make) : Bool)) Oaag.pinned.checked.prog 5 Oaag.f5 Rows.runFoldsSpec Rows.runFoldsRow = true := by kernel_rfl
set_option maxRecDepth 100000 in
theorem j28 : (fun (P : Program) (f : FuncId) (fn : Func) (s : ChangeSpec) (c : OpenClaim) => ((c.kinds == (if c.domain.isEmpty then [] else fn.params.toList.map fun t => match P.underlying t with | some (.int k) => some k | _ => none)) : Bool)) Oaag.pinned.checked.prog 5 Oaag.f5 Rows.runFoldsSpec Rows.runFoldsRow = true := by kernel_rfl
set_option maxRecDepth 100000 in
theorem j29 : (fun (P : Program) (f : FuncId) (fn : Func) (s : ChangeSpec) (c : OpenClaim) => ((c.pinned == c.pinnedBy) : Bool)) Oaag.pinned.checked.prog 5 Oaag.f5 Rows.runFoldsSpec Rows.runFoldsRow = true := by kernel_rfl
set_option maxRecDepth 100000 in
theorem j30 : (fun (P : Program) (f : FuncId) (fn : Func) (s : ChangeSpec) (c : OpenClaim) => ((c.veiled == (fn.params.toList ++ s.plain.varTypes P ++ fn.resultTypes.toList).any (P.veiledRec ·)) : Bool)) Oaag.pinned.checked.prog 5 Oaag.f5 Rows.runFoldsSpec Rows.runFoldsRow = true := by kernel_rfl
set_option maxRecDepth 100000 in
theorem j31 : (fun (P : Program) (f : FuncId) (fn : Func) (s : ChangeSpec) (c : OpenClaim) => (c.veiledFits P fn.params.toList (fn.params.toList ++ s.plain.varTypes P ++ fn.resultTypes.toList) : Bool)) Oaag.pinned.checked.prog 5 Oaag.f5 Rows.runFoldsSpec Rows.runFoldsRow = true := by kernel_rfl
theorem j11 : (Rows.runFoldsRow.recurses == Oaag.pinned.checked.prog.recurses 5) = true := by
  have hu : Oaag.pinned.checked.prog.unfollowed 5 = false := by
    have h := j10
    have e : Rows.runFoldsRow.unfollowed = false := rfl
    simp only [e] at h
    revert h
    cases Oaag.pinned.checked.prog.unfollowed 5 <;> simp
  rw [recurses_not _ rankOf ranks_dec 5 hu]
  rfl
theorem band {a b : Bool} (h : a = true) (k : b = true) : (a && b) = true := by rw [h, k]; rfl
set_option maxRecDepth 100000 in
theorem jf : joinedFacts Oaag.pinned.checked.prog 5 Oaag.f5 Rows.runFoldsSpec Rows.runFoldsRow = true :=
  band (band (band (band (band (band (band (band (band (band (band (band (band (band (band (band (band (band (band (band (band (band (band (band (band (band (band (band (band (band (band j0 j1) j2) j3) j4) j5) j6) j7) j8) j9) j10) j11) j12) j13) j14) j15) j16) j17) j18) j19) j20) j21) j22) j23) j24) j25) j26) j27) j28) j29) j30) j31
end Go.Proofs.YgcoaaGreat.runFolds
