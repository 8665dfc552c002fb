/-
  The checks of the law of one run.
-/
import Derived.Test.YgcoaaGreatSz
set_option linter.unusedVariables false
set_option maxRecDepth 20000
namespace Go.Proofs.YgcoaaGreat.SfZ
open Go Go.Sf

/-- (*softfloat/tab.Table).At -/
theorem k2 : fnB (envL Oaag.prog SfW.eqU baseG SfW.xgU t1 al2) (fun _ => true) 191 (.cons d5 (.cons d2 .nil)) d7 = true := by kernel_rfl
/-- softfloat/wide.Add -/
theorem k6 : fnB (envL Oaag.prog SfW.eqU baseG SfW.xgU t5 al6) (fun _ => true) 196 (.cons d6 (.cons d10 .nil)) d9 = true := by kernel_rfl
/-- softfloat/ryu.Log10Pow2 -/
theorem k10 : fnB (envL Oaag.prog SfW.eqU baseG SfW.xgU t9 al10) (fun _ => true) 308 (.cons d2 .nil) d1 = true := by kernel_rfl
/-- softfloat/exact.floor -/
theorem k14 : fnB (envL Oaag.prog SfW.eqU baseG SfW.xgU t13 al14) (fun _ => true) 334 (.cons (.slc 1 d13 1048576) (.cons (.slc 1 d13 1048576) .nil)) d18 = true := by kernel_rfl
/-- softfloat/exact.toU64 -/
theorem k18 : fnB (envL Oaag.prog SfW.eqU baseG SfW.xgU t17 al18) (fun _ => true) 335 (.cons (.slc 1 d13 1048576) .nil) d4 = true := by kernel_rfl
end Go.Proofs.YgcoaaGreat.SfZ
