/-
  Package dec: Scan, exactly: the loop's body.
-/
import Derived.Test.YgcoaaGreatScR
set_option linter.unusedVariables false
set_option linter.unusedSimpArgs false
set_option maxRecDepth 20000
namespace Go.Proofs.YgcoaaGreat.NatW
open Go.RowKit
open Go.Proofs.YgcoaaGreat.Det
attribute [local go_sem] Go.Instr.field Go.asAgg
theorem rowX_sliceM {w : World} {base : Nat} {av : Nat → Prop} {v : Value} {xs : List Int} (h : w.rowX base av v (xs.map (.int .u8))) : ∃ a c, v = .slice a xs.length c := by
  obtain ⟨a, c, rfl⟩ := rowX_slice h
  exact ⟨a, c, by rw [List.length_map]⟩
theorem rowX_sliceA {w : World} {base : Nat} {av : Nat → Prop} {v u : Value} {xs : List Int} (h : w.rowX base av v (xs.map (.int .u8) ++ [u])) : ∃ a c, v = .slice a (xs.length + 1) c := by
  obtain ⟨a, c, rfl⟩ := rowX_slice h
  exact ⟨a, c, by rw [List.length_append, List.length_map]; rfl⟩
theorem low_or (r : Nat) (h : r < 48) : bits .or .i32 (r : Int) 32 < 64 := (by decide : ∀ r, r < 48 → bits .or .i32 ((r : Nat) : Int) 32 < 64) r h
theorem u341 : Oaag.prog.underlying 341 = some (.array 40 5) := by kernel_rfl

def sL : Code → Code
  | .seq a _ => a
  | c => c
def sR : Code → Code
  | .seq _ b => b
  | c => c
def sI : Code → Code
  | .scope c => c
  | .block _ c => c
  | .loop c => c
  | c => c
def bodyOf (f : Func) : Code := f.body.getD .skip
end Go.Proofs.YgcoaaGreat.NatW
