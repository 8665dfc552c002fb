/-
  One more guard.
-/
import Derived.Test.YgcoaaGreatTac
namespace Go.Proofs.YgcoaaGreat.NatW
attribute [local go_sem] Go.Instr.field Go.asAgg

end Go.Proofs.YgcoaaGreat.NatW
