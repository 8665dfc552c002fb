/-
  The checks of the law of one run.
-/
import Derived.Test.YgcoaaGreatSw
set_option linter.unusedVariables false
set_option maxRecDepth 20000
namespace Go.Proofs.YgcoaaGreat.Sf2
open Go Go.Sf

/-- softfloat/exact.whole -/
theorem k1 : fnB (envL Oaag.prog SfW.eqU baseG SfW.xgU t0 al1) (fun _ => true) 69 (.cons (.bool none) (.cons (.slc 1 d0 16384) .nil)) d1 = true := by kernel_rfl
/-- (softfloat/ieee.Format).Mask -/
theorem k5 : fnB (envL Oaag.prog SfW.eqU baseG SfW.xgU t4 al5) (fun _ => true) 163 (.cons d4 .nil) d6 = true := by kernel_rfl
/-- softfloat/ieee.Unpack -/
theorem k9 : fnB (envL Oaag.prog SfW.eqU baseG SfW.xgU t8 al9) (fun _ => true) 68 (.cons d4 (.cons d6 .nil)) d10 = true := by kernel_rfl
/-- softfloat/exact.log2 -/
theorem k13 : fnB (envL Oaag.prog SfW.eqU baseG SfW.xgU t12 al13) (fun _ => true) 332 (.cons (.slc 1 d0 16384) (.cons (.slc 1 d0 4096) (.cons d2 (.cons d2 .nil)))) d2 = true := by kernel_rfl
end Go.Proofs.YgcoaaGreat.Sf2
