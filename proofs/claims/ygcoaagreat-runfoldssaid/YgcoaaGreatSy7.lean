/-
  The checks of the law of one run.
-/
import Derived.Test.YgcoaaGreatSy
set_option linter.unusedVariables false
set_option maxRecDepth 20000
namespace Go.Proofs.YgcoaaGreat.SfW
open Go Go.Sf

/-- softfloat/exact.whole -/
theorem k8 : fnB (envL Oaag.prog eqU baseF xgU t7 al8) (fun _ => true) 69 (.cons (.bool none) (.cons (.slc 1 d3 16384) .nil)) d6 = true := by kernel_rfl
/-- softfloat/exact.raises -/
theorem k20 : fnB (envL Oaag.prog eqU baseF xgU t19 al20) (fun _ => true) 413 (.cons (.int .u8 0 255) (.cons (.bool none) (.cons (.bool none) (.cons d16 .nil)))) (.bool none) = true := by kernel_rfl
/-- softfloat/ieee.width -/
theorem k32 : fnB (envL Oaag.prog eqU baseF xgU t31 al32) (fun _ => true) 214 (.cons d2 .nil) (.int .u8 0 255) = true := by kernel_rfl
/-- softfloat/tab.Fits -/
theorem k44 : fnB (envL Oaag.prog eqU baseF xgU t43 al44) (fun _ => true) 51 (.cons d27 (.cons d7 .nil)) (.bool none) = true := by kernel_rfl
/-- softfloat/wide.Shl -/
theorem k56 : fnB (envL Oaag.prog eqU baseF xgU t55 al56) (fun _ => true) 204 (.cons d27 (.cons (.int .u8 0 255) .nil)) d27 = true := by kernel_rfl
/-- softfloat/exact.AddFlags -/
theorem k68 : fnB (envL Oaag.prog eqU baseF xgU t67 al68) (fun _ => true) 217 (.cons d0 (.cons (.int .u8 0 255) (.cons d2 (.cons d2 .nil)))) d19 = true := by kernel_rfl
/-- softfloat/exact.DivFlags -/
theorem k80 : fnB (envL Oaag.prog eqU baseF xgU t79 al80) (fun _ => true) 220 (.cons d0 (.cons (.int .u8 0 255) (.cons d2 (.cons d2 .nil)))) d19 = true := by kernel_rfl
/-- softfloat/exact.ToInt64Flags -/
theorem k92 : fnB (envL Oaag.prog eqU baseF xgU t91 al92) (fun _ => true) 301 (.cons d0 (.cons (.int .u8 0 255) (.cons d2 .nil))) d43 = true := by kernel_rfl
/-- softfloat/exact.floor -/
theorem k104 : fnB (envL Oaag.prog eqU baseF xgU t103 al104) (fun _ => true) 334 (.cons (.slc 1 d3 1048576) (.cons (.slc 1 d3 262144) .nil)) d48 = true := by kernel_rfl
/-- softfloat/exact.Min -/
theorem k116 : fnB (envL Oaag.prog eqU baseF xgU t115 al116) (fun _ => true) 233 (.cons d0 (.cons d2 (.cons d2 .nil))) d2 = true := by kernel_rfl
/-- softfloat/exact.LogB -/
theorem k128 : fnB (envL Oaag.prog eqU baseF xgU t127 al128) (fun _ => true) 244 (.cons d0 (.cons d2 .nil)) d44 = true := by kernel_rfl
/-- softfloat/exact.pack -/
theorem k140 : fnB (envL Oaag.prog eqU baseF xgU t139 al140) (fun _ => true) 353 (.cons d20 (.cons (.int .u8 0 255) (.cons (.bool none) (.cons d5 (.cons d2 (.cons d16 (.cons (.bool none) .nil))))))) d19 = true := by kernel_rfl
end Go.Proofs.YgcoaaGreat.SfW
