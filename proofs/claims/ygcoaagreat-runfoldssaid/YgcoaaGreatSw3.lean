/-
  The checks of the law of one run.
-/
import Derived.Test.YgcoaaGreatSw
set_option linter.unusedVariables false
set_option maxRecDepth 20000
namespace Go.Proofs.YgcoaaGreat.Sf2
open Go Go.Sf

/-- (softfloat/ieee.Format).SignBit -/
theorem k4 : fnB (envL Oaag.prog SfW.eqU baseG SfW.xgU t3 al4) (fun _ => true) 104 (.cons d4 .nil) d5 = true := by kernel_rfl
/-- softfloat/ieee.subnormal -/
theorem k8 : fnB (envL Oaag.prog SfW.eqU baseG SfW.xgU t7 al8) (fun _ => true) 116 (.cons d4 (.cons (.bool none) (.cons d6 .nil))) d10 = true := by kernel_rfl
/-- softfloat/exact.shift -/
theorem k12 : fnB (envL Oaag.prog SfW.eqU baseG SfW.xgU t11 al12) (fun _ => true) 333 (.cons (.slc 1 d0 16384) (.cons (.slc 1 d0 4096) (.cons d2 .nil))) d13 = true := by kernel_rfl
end Go.Proofs.YgcoaaGreat.Sf2
