/-
  The checks of the law of one run.
-/
import Derived.Test.YgcoaaGreatSz
set_option linter.unusedVariables false
set_option maxRecDepth 20000
namespace Go.Proofs.YgcoaaGreat.SfZ
open Go Go.Sf

/-- softfloat/tab.Fits -/
theorem k3 : fnB (envL Oaag.prog SfW.eqU baseG SfW.xgU t2 al3) (fun _ => true) 51 (.cons d6 (.cons d2 .nil)) (.bool none) = true := by kernel_rfl
/-- softfloat/wide.Shr -/
theorem k7 : fnB (envL Oaag.prog SfW.eqU baseG SfW.xgU t6 al7) (fun _ => true) 342 (.cons d6 (.cons (.int .u8 0 255) .nil)) d6 = true := by kernel_rfl
/-- softfloat/exact.pow10 -/
theorem k11 : fnB (envL Oaag.prog SfW.eqU baseG SfW.xgU t10 al11) (fun _ => true) 78 (.cons d12 .nil) (.slc 1 d13 8192) = true := by kernel_rfl
/-- softfloat/exact.raises -/
theorem k15 : fnB (envL Oaag.prog SfW.eqU baseG SfW.xgU t14 al15) (fun _ => true) 413 (.cons (.int .u8 0 255) (.cons (.bool none) (.cons (.bool none) (.cons d17 .nil)))) (.bool none) = true := by kernel_rfl
/-- softfloat/exact.floorAt -/
theorem k19 : fnB (envL Oaag.prog SfW.eqU baseG SfW.xgU t18 al19) (fun _ => true) 303 (.cons d20 (.cons d12 .nil)) d21 = true := by kernel_rfl
end Go.Proofs.YgcoaaGreat.SfZ
