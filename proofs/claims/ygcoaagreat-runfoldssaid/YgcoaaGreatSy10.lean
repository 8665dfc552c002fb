/-
  The checks of the law of one run.
-/
import Derived.Test.YgcoaaGreatSy
set_option linter.unusedVariables false
set_option maxRecDepth 20000
namespace Go.Proofs.YgcoaaGreat.SfW
open Go Go.Sf

/-- softfloat/exact.zero -/
theorem k11 : fnB (envL Oaag.prog eqU baseF xgU t10 al11) (fun _ => true) 348 (.cons d0 (.cons (.bool none) .nil)) d1 = true := by kernel_rfl
/-- softfloat/exact.pack -/
theorem k23 : fnB (envL Oaag.prog eqU baseF xgU t22 al23) (fun _ => true) 353 (.cons d0 (.cons (.int .u8 0 255) (.cons (.bool none) (.cons d5 (.cons d2 (.cons d16 (.cons (.bool none) .nil))))))) d19 = true := by kernel_rfl
/-- softfloat/exact.scaled -/
theorem k35 : fnB (envL Oaag.prog eqU baseF xgU t34 al35) (fun _ => true) 70 (.cons (.bool none) (.cons (.slc 1 d3 4) (.cons d5 .nil))) d22 = true := by kernel_rfl
/-- softfloat/wide.Add -/
theorem k47 : fnB (envL Oaag.prog eqU baseF xgU t46 al47) (fun _ => true) 196 (.cons d27 (.cons d29 .nil)) d30 = true := by kernel_rfl
/-- softfloat/calc/ex.clean -/
theorem k59 : fnB (envL Oaag.prog eqU baseF xgU t58 al59) (fun _ => true) 120 (.cons d0 (.cons d2 .nil)) d2 = true := by kernel_rfl
/-- softfloat/exact.Sub -/
theorem k71 : fnB (envL Oaag.prog eqU baseF xgU t70 al71) (fun _ => true) 122 (.cons d0 (.cons (.int .u8 0 255) (.cons d2 (.cons d2 .nil)))) d2 = true := by kernel_rfl
/-- softfloat/exact.SqrtFlags -/
theorem k83 : fnB (envL Oaag.prog eqU baseF xgU t82 al83) (fun _ => true) 221 (.cons d0 (.cons (.int .u8 0 255) (.cons d2 .nil))) d19 = true := by kernel_rfl
/-- softfloat/calc/ex.toInt -/
theorem k95 : fnB (envL Oaag.prog eqU baseF xgU t94 al95) (fun _ => true) 130 (.cons d0 (.cons d2 .nil)) (.str 20) = true := by kernel_rfl
/-- softfloat/exact.RoundFlags -/
theorem k107 : fnB (envL Oaag.prog eqU baseF xgU t106 al107) (fun _ => true) 205 (.cons d0 (.cons (.int .u8 0 255) (.cons d46 .nil))) d19 = true := by kernel_rfl
/-- softfloat/exact.Round -/
theorem k119 : fnB (envL Oaag.prog eqU baseF xgU t118 al119) (fun _ => true) 165 (.cons d0 (.cons (.int .u8 0 255) (.cons d36 .nil))) d2 = true := by kernel_rfl
/-- softfloat/ieee.signed -/
theorem k131 : fnB (envL Oaag.prog eqU baseF xgU t130 al131) (fun _ => true) 158 (.cons d20 (.cons (.bool none) (.cons d2 .nil))) d2 = true := by kernel_rfl
/-- softfloat/calc/ex.convFlags -/
theorem k143 : fnB (envL Oaag.prog eqU baseF xgU t142 al143) (fun _ => true) 245 (.cons d0 (.cons (.int .u8 0 255) (.cons d2 (.cons d2 .nil)))) d56 = true := by kernel_rfl
end Go.Proofs.YgcoaaGreat.SfW
