/-
  Guards for the walks of package soft.
-/
import Derived.Test.YgcoaaGreatRebaseB
set_option linter.unusedVariables false
namespace Go.Proofs.YgcoaaGreat.NatW
attribute [local go_sem] Go.Instr.field Go.asAgg
open Go.RowKit







end Go.Proofs.YgcoaaGreat.NatW
