/-
  The checks of the law of one run.
-/
import Derived.Test.YgcoaaGreatSy
set_option linter.unusedVariables false
set_option maxRecDepth 20000
namespace Go.Proofs.YgcoaaGreat.SfW
open Go Go.Sf

/-- softfloat/exact.pow10 -/
theorem k7 : fnB (envL Oaag.prog eqU baseF xgU t6 al7) (fun _ => true) 78 (.cons d5 .nil) (.slc 1 d3 8192) = true := by kernel_rfl
/-- softfloat/exact.floor -/
theorem k19 : fnB (envL Oaag.prog eqU baseF xgU t18 al19) (fun _ => true) 334 (.cons (.slc 1 d3 65536) (.cons (.slc 1 d3 65536) .nil)) d17 = true := by kernel_rfl
/-- (softfloat/ieee.Format).Mask -/
theorem k31 : fnB (envL Oaag.prog eqU baseF xgU t30 al31) (fun _ => true) 163 (.cons d0 .nil) d2 = true := by kernel_rfl
/-- (*softfloat/tab.Table).At -/
theorem k43 : fnB (envL Oaag.prog eqU baseF xgU t42 al43) (fun _ => true) 191 (.cons d26 (.cons d7 .nil)) d28 = true := by kernel_rfl
/-- softfloat/parse/total.pack -/
theorem k55 : fnB (envL Oaag.prog eqU baseF xgU t54 al55) (fun _ => true) 203 (.cons d0 (.cons d2 (.cons d34 (.cons (.bool none) .nil)))) d2 = true := by kernel_rfl
/-- softfloat/exact.RoundFlags -/
theorem k67 : fnB (envL Oaag.prog eqU baseF xgU t66 al67) (fun _ => true) 205 (.cons d0 (.cons (.int .u8 0 255) (.cons d36 .nil))) d19 = true := by kernel_rfl
/-- softfloat/exact.RoundFlags -/
theorem k79 : fnB (envL Oaag.prog eqU baseF xgU t78 al79) (fun _ => true) 205 (.cons d0 (.cons (.int .u8 0 255) (.cons d40 .nil))) d19 = true := by kernel_rfl
/-- softfloat/exact.FromUint64 -/
theorem k91 : fnB (envL Oaag.prog eqU baseF xgU t90 al91) (fun _ => true) 129 (.cons d0 (.cons (.int .u8 0 255) (.cons d2 .nil))) d2 = true := by kernel_rfl
/-- softfloat/exact.log2 -/
theorem k103 : fnB (envL Oaag.prog eqU baseF xgU t102 al103) (fun _ => true) 332 (.cons (.slc 1 d3 262144) (.cons (.slc 1 d3 65536) (.cons d5 (.cons d5 .nil)))) d5 = true := by kernel_rfl
/-- softfloat/exact.MinFlags -/
theorem k115 : fnB (envL Oaag.prog eqU baseF xgU t114 al115) (fun _ => true) 320 (.cons d0 (.cons d2 (.cons d2 .nil))) d52 = true := by kernel_rfl
/-- softfloat/exact.LogBFlags -/
theorem k127 : fnB (envL Oaag.prog eqU baseF xgU t126 al127) (fun _ => true) 188 (.cons d0 (.cons d2 .nil)) d53 = true := by kernel_rfl
/-- softfloat/exact.overflow -/
theorem k139 : fnB (envL Oaag.prog eqU baseF xgU t138 al139) (fun _ => true) 351 (.cons d20 (.cons (.int .u8 0 255) (.cons (.bool none) .nil))) d14 = true := by kernel_rfl
end Go.Proofs.YgcoaaGreat.SfW
