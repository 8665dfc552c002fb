/-
  Helpers for walks with tape zero.
-/
import Derived.Test.YgcoaaGreatRsG
import Derived.Test.YgcoaaGreatDetX
import Derived.Test.YgcoaaGreatDmB
import Derived.Test.YgcoaaGreatRyuC
set_option linter.unusedVariables false
set_option linter.unusedSimpArgs false
namespace Go.Proofs.YgcoaaGreat.NatW
open Go.RowKit
open Go.Proofs.YgcoaaGreat.Det

end Go.Proofs.YgcoaaGreat.NatW
