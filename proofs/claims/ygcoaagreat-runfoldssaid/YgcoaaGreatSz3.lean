/-
  The checks of the law of one run.
-/
import Derived.Test.YgcoaaGreatSz
set_option linter.unusedVariables false
set_option maxRecDepth 20000
namespace Go.Proofs.YgcoaaGreat.SfZ
open Go Go.Sf

/-- softfloat/wide.Add -/
theorem k4 : fnB (envL Oaag.prog SfW.eqU baseG SfW.xgU t3 al4) (fun _ => true) 196 (.cons d6 (.cons d8 .nil)) d9 = true := by kernel_rfl
/-- softfloat/ryu.fivesIn -/
theorem k8 : fnB (envL Oaag.prog SfW.eqU baseG SfW.xgU t7 al8) (fun _ => true) 343 (.cons d4 (.cons d2 .nil)) (.bool none) = true := by kernel_rfl
/-- softfloat/exact.whole -/
theorem k12 : fnB (envL Oaag.prog SfW.eqU baseG SfW.xgU t11 al12) (fun _ => true) 69 (.cons (.bool none) (.cons (.slc 1 d13 16384) .nil)) d14 = true := by kernel_rfl
/-- softfloat/exact.raised -/
theorem k16 : fnB (envL Oaag.prog SfW.eqU baseG SfW.xgU t15 al16) (fun _ => true) 352 (.cons (.int .u8 0 255) (.cons (.bool none) (.cons (.slc 1 d13 1048576) (.cons (.slc 1 d13 1048576) .nil)))) d19 = true := by kernel_rfl
/-- softfloat/exact.cutRest -/
theorem k20 : fnB (envL Oaag.prog SfW.eqU baseG SfW.xgU t19 al20) (fun _ => true) 304 (.cons d12 (.cons d12 (.cons d17 .nil))) d17 = true := by kernel_rfl
end Go.Proofs.YgcoaaGreat.SfZ
