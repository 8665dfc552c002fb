/-
  The checks of the law of one run.
-/
import Derived.Test.YgcoaaGreatSy
set_option linter.unusedVariables false
set_option maxRecDepth 20000
namespace Go.Proofs.YgcoaaGreat.SfW
open Go Go.Sf

/-- (softfloat/ieee.Format).Bias -/
theorem k12 : fnB (envL Oaag.prog eqU baseF xgU t11 al12) (fun _ => true) 117 (.cons d0 .nil) d10 = true := by kernel_rfl
/-- softfloat/exact.RoundFlags -/
theorem k24 : fnB (envL Oaag.prog eqU baseF xgU t23 al24) (fun _ => true) 205 (.cons d0 (.cons (.int .u8 0 255) (.cons d9 .nil))) d19 = true := by kernel_rfl
/-- softfloat/exact.Value -/
theorem k36 : fnB (envL Oaag.prog eqU baseF xgU t35 al36) (fun _ => true) 33 (.cons d0 (.cons d2 .nil)) d23 = true := by kernel_rfl
/-- softfloat/parse/lemire.round -/
theorem k48 : fnB (envL Oaag.prog eqU baseF xgU t47 al48) (fun _ => true) 344 (.cons d0 (.cons d2 (.cons d31 .nil))) d2 = true := by kernel_rfl
/-- softfloat/exact.addRat -/
theorem k60 : fnB (envL Oaag.prog eqU baseF xgU t59 al60) (fun _ => true) 224 (.cons d22 (.cons d22 .nil)) d35 = true := by kernel_rfl
/-- softfloat/exact.MulFlags -/
theorem k72 : fnB (envL Oaag.prog eqU baseF xgU t71 al72) (fun _ => true) 219 (.cons d0 (.cons (.int .u8 0 255) (.cons d2 (.cons d2 .nil)))) d19 = true := by kernel_rfl
/-- softfloat/exact.Sqrt -/
theorem k84 : fnB (envL Oaag.prog eqU baseF xgU t83 al84) (fun _ => true) 125 (.cons d0 (.cons (.int .u8 0 255) (.cons d2 .nil))) d2 = true := by kernel_rfl
/-- softfloat/calc/na.clean -/
theorem k96 : fnB (envL Oaag.prog eqU baseF xgU t95 al96) (fun _ => true) 148 (.cons d0 (.cons d2 .nil)) d2 = true := by kernel_rfl
/-- softfloat/exact.FMAFlags -/
theorem k108 : fnB (envL Oaag.prog eqU baseF xgU t107 al108) (fun _ => true) 317 (.cons d0 (.cons (.int .u8 0 255) (.cons d2 (.cons d2 (.cons d2 .nil))))) d50 = true := by kernel_rfl
/-- softfloat/exact.nextUp -/
theorem k120 : fnB (envL Oaag.prog eqU baseF xgU t119 al120) (fun _ => true) 408 (.cons d0 (.cons d24 .nil)) d2 = true := by kernel_rfl
/-- softfloat/ieee.Inf -/
theorem k132 : fnB (envL Oaag.prog eqU baseF xgU t131 al132) (fun _ => true) 85 (.cons d20 (.cons (.bool none) .nil)) d2 = true := by kernel_rfl
/-- softfloat/calc/na.whole -/
theorem k144 : fnB (envL Oaag.prog eqU baseF xgU t143 al144) (fun _ => true) 288 (.cons d5 (.cons (.bool none) .nil)) (.str 20) = true := by kernel_rfl
end Go.Proofs.YgcoaaGreat.SfW
