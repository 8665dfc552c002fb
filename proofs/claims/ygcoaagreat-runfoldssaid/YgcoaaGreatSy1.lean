/-
  The checks of the law of one run.
-/
import Derived.Test.YgcoaaGreatSy
set_option linter.unusedVariables false
set_option maxRecDepth 20000
namespace Go.Proofs.YgcoaaGreat.SfW
open Go Go.Sf

/-- (softfloat/ieee.Format).SignBit -/
theorem k2 : fnB (envL Oaag.prog eqU baseF xgU t1 al2) (fun _ => true) 104 (.cons d0 .nil) d1 = true := by kernel_rfl
/-- softfloat/exact.emax -/
theorem k14 : fnB (envL Oaag.prog eqU baseF xgU t13 al14) (fun _ => true) 350 (.cons d0 .nil) d12 = true := by kernel_rfl
/-- softfloat/exact.RoundDec -/
theorem k26 : fnB (envL Oaag.prog eqU baseF xgU t25 al26) (fun _ => true) 58 (.cons d0 (.cons (.int .u8 0 255) (.cons d8 .nil))) d2 = true := by kernel_rfl
/-- softfloat/ieee.Signals -/
theorem k38 : fnB (envL Oaag.prog eqU baseF xgU t37 al38) (fun _ => true) 182 (.cons d0 (.cons d2 .nil)) (.bool none) = true := by kernel_rfl
/-- softfloat/parse/lemire.pattern -/
theorem k50 : fnB (envL Oaag.prog eqU baseF xgU t49 al50) (fun _ => true) 197 (.cons d0 (.cons d27 (.cons d2 (.cons d32 .nil)))) d2 = true := by kernel_rfl
/-- softfloat/exact.shift -/
theorem k62 : fnB (envL Oaag.prog eqU baseF xgU t61 al62) (fun _ => true) 333 (.cons (.slc 1 d3 65536) (.cons (.slc 1 d3 16384) (.cons d5 .nil))) d37 = true := by kernel_rfl
/-- softfloat/exact.MakeRat -/
theorem k74 : fnB (envL Oaag.prog eqU baseF xgU t73 al74) (fun _ => true) 347 (.cons (.bool none) (.cons (.slc 1 d3 65536) (.cons (.slc 1 d3 65536) .nil))) d40 = true := by kernel_rfl
/-- softfloat/exact.rank -/
theorem k86 : fnB (envL Oaag.prog eqU baseF xgU t85 al86) (fun _ => true) 223 (.cons d24 .nil) (.int .i8 (-1) 1) = true := by kernel_rfl
/-- softfloat/exact.ScaleBFlags -/
theorem k98 : fnB (envL Oaag.prog eqU baseF xgU t97 al98) (fun _ => true) 186 (.cons d0 (.cons (.int .u8 0 255) (.cons d2 (.cons d5 .nil)))) d19 = true := by kernel_rfl
/-- softfloat/exact.RemFlags -/
theorem k110 : fnB (envL Oaag.prog eqU baseF xgU t109 al110) (fun _ => true) 318 (.cons d0 (.cons d2 (.cons d2 .nil))) d19 = true := by kernel_rfl
/-- softfloat/exact.NextUp -/
theorem k122 : fnB (envL Oaag.prog eqU baseF xgU t121 al122) (fun _ => true) 235 (.cons d0 (.cons d2 .nil)) d2 = true := by kernel_rfl
/-- softfloat/exact.zero -/
theorem k134 : fnB (envL Oaag.prog eqU baseF xgU t133 al134) (fun _ => true) 348 (.cons d20 (.cons (.bool none) .nil)) d2 = true := by kernel_rfl
/-- softfloat/hexa.digit -/
theorem k146 : fnB (envL Oaag.prog eqU baseF xgU t145 al146) (fun _ => true) 378 (.cons d57 .nil) (.int .i64 (-1) 15) = true := by kernel_rfl
end Go.Proofs.YgcoaaGreat.SfW
