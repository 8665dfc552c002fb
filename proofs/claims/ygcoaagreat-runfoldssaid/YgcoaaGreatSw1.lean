/-
  The checks of the law of one run.
-/
import Derived.Test.YgcoaaGreatSw
set_option linter.unusedVariables false
set_option maxRecDepth 20000
namespace Go.Proofs.YgcoaaGreat.Sf2
open Go Go.Sf

/-- softfloat/exact.scaled -/
theorem k2 : fnB (envL Oaag.prog SfW.eqU baseG SfW.xgU t1 al2) (fun _ => true) 70 (.cons (.bool none) (.cons (.slc 1 d0 4096) (.cons d2 .nil))) d3 = true := by kernel_rfl
/-- softfloat/ieee.width -/
theorem k6 : fnB (envL Oaag.prog SfW.eqU baseG SfW.xgU t5 al6) (fun _ => true) 214 (.cons d6 .nil) (.int .u8 0 255) = true := by kernel_rfl
/-- softfloat/exact.Value -/
theorem k10 : fnB (envL Oaag.prog SfW.eqU baseG SfW.xgU t9 al10) (fun _ => true) 33 (.cons d4 (.cons d6 .nil)) d11 = true := by kernel_rfl
end Go.Proofs.YgcoaaGreat.Sf2
