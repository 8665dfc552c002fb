/-
  The checks of the law of one run.
-/
import Derived.Test.YgcoaaGreatSw
set_option linter.unusedVariables false
set_option maxRecDepth 20000
namespace Go.Proofs.YgcoaaGreat.Sf2
open Go Go.Sf

/-- (softfloat/ieee.Format).Ok -/
theorem k3 : fnB (envL Oaag.prog SfW.eqU baseG SfW.xgU t2 al3) (fun _ => true) 67 (.cons d4 .nil) (.bool none) = true := by kernel_rfl
/-- (softfloat/ieee.Format).Bias -/
theorem k7 : fnB (envL Oaag.prog SfW.eqU baseG SfW.xgU t6 al7) (fun _ => true) 117 (.cons d4 .nil) d7 = true := by kernel_rfl
/-- softfloat/exact.open -/
theorem k11 : fnB (envL Oaag.prog SfW.eqU baseG SfW.xgU t10 al11) (fun _ => true) 222 (.cons d4 (.cons d6 .nil)) d12 = true := by kernel_rfl
end Go.Proofs.YgcoaaGreat.Sf2
