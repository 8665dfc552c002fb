/-
  parse: the sign.
-/
import Derived.Test.YgcoaaGreatSlQ
import Derived.Test.YgcoaaGreatRyuC
set_option linter.unusedVariables false
set_option linter.unusedSimpArgs false
set_option maxRecDepth 20000
namespace Go.Proofs.YgcoaaGreat.NatW
open Go.RowKit
open Go.Proofs.YgcoaaGreat.Det
open Go.Proofs.YgcoaaGreat.Limbs Go.Proofs.YgcoaaGreat.Bits
attribute [local go_sem] Go.Instr.field Go.asAgg

/-- The sign's bit, or none. -/
def psg : Bool → Int → Int
  | true, s => s
  | false, _ => 0
theorem psg_u {n : Bool} {s : Int} (h : U64 s) : U64 (psg n s) := by
  cases n
  · exact u64_zero
  · exact h
end Go.Proofs.YgcoaaGreat.NatW
