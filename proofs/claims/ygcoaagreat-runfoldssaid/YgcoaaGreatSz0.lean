/-
  The checks of the law of one run.
-/
import Derived.Test.YgcoaaGreatSz
set_option linter.unusedVariables false
set_option maxRecDepth 20000
namespace Go.Proofs.YgcoaaGreat.SfZ
open Go Go.Sf

/-- softfloat/ryu.Log10Pow2 -/
theorem k1 : fnB (envL Oaag.prog SfW.eqU baseG SfW.xgU t0 al1) (fun _ => true) 308 (.cons d0 .nil) d1 = true := by kernel_rfl
/-- softfloat/wide.Mul64 -/
theorem k5 : fnB (envL Oaag.prog SfW.eqU baseG SfW.xgU t4 al5) (fun _ => true) 195 (.cons d4 (.cons d4 .nil)) d6 = true := by kernel_rfl
/-- softfloat/ryu.Scale -/
theorem k9 : fnB (envL Oaag.prog SfW.eqU baseG SfW.xgU t8 al9) (fun _ => true) 192 (.cons d5 (.cons d4 (.cons d2 .nil))) d11 = true := by kernel_rfl
/-- softfloat/exact.tenTo -/
theorem k13 : fnB (envL Oaag.prog SfW.eqU baseG SfW.xgU t12 al13) (fun _ => true) 398 (.cons d12 .nil) d15 = true := by kernel_rfl
/-- softfloat/exact.unitsOf -/
theorem k17 : fnB (envL Oaag.prog SfW.eqU baseG SfW.xgU t16 al17) (fun _ => true) 326 (.cons d20 (.cons d12 .nil)) (.slc 1 d13 1048577) = true := by kernel_rfl
end Go.Proofs.YgcoaaGreat.SfZ
