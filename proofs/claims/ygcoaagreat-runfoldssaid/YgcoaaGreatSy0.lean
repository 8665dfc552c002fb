/-
  The checks of the law of one run.
-/
import Derived.Test.YgcoaaGreatSy
set_option linter.unusedVariables false
set_option maxRecDepth 20000
namespace Go.Proofs.YgcoaaGreat.SfW
open Go Go.Sf

/-- (softfloat/ieee.Format).Ok -/
theorem k1 : fnB (envL Oaag.prog eqU baseF xgU t0 al1) (fun _ => true) 67 (.cons d0 .nil) (.bool none) = true := by kernel_rfl
/-- softfloat/exact.emin -/
theorem k13 : fnB (envL Oaag.prog eqU baseF xgU t12 al13) (fun _ => true) 349 (.cons d0 .nil) d11 = true := by kernel_rfl
/-- softfloat/exact.RoundDecFlags -/
theorem k25 : fnB (envL Oaag.prog eqU baseF xgU t24 al25) (fun _ => true) 110 (.cons d0 (.cons (.int .u8 0 255) (.cons d8 .nil))) d19 = true := by kernel_rfl
/-- softfloat/exact.open -/
theorem k37 : fnB (envL Oaag.prog eqU baseF xgU t36 al37) (fun _ => true) 222 (.cons d0 (.cons d2 .nil)) d24 = true := by kernel_rfl
/-- softfloat/parse/lemire.pattern -/
theorem k49 : fnB (envL Oaag.prog eqU baseF xgU t48 al49) (fun _ => true) 197 (.cons d0 (.cons d27 (.cons (.int .u64 0 0) (.cons d32 .nil)))) d2 = true := by kernel_rfl
/-- softfloat/exact.MakeRat -/
theorem k61 : fnB (envL Oaag.prog eqU baseF xgU t60 al61) (fun _ => true) 347 (.cons (.bool none) (.cons (.slc 1 d3 65536) (.cons (.slc 1 d3 16384) .nil))) d36 = true := by kernel_rfl
/-- softfloat/exact.Mul -/
theorem k73 : fnB (envL Oaag.prog eqU baseF xgU t72 al73) (fun _ => true) 123 (.cons d0 (.cons (.int .u8 0 255) (.cons d2 (.cons d2 .nil)))) d2 = true := by kernel_rfl
/-- softfloat/calc/ex.order -/
theorem k85 : fnB (envL Oaag.prog eqU baseF xgU t84 al85) (fun _ => true) 126 (.cons d15 .nil) (.str 1) = true := by kernel_rfl
/-- softfloat/calc.Allowed -/
theorem k97 : fnB (envL Oaag.prog eqU baseF xgU t96 al97) (fun _ => true) 159 (.cons d26 (.cons (.int .u8 0 255) (.cons d0 (.cons (.int .u8 0 255) .nil)))) (.bool none) = true := by kernel_rfl
/-- softfloat/exact.FMA -/
theorem k109 : fnB (envL Oaag.prog eqU baseF xgU t108 al109) (fun _ => true) 230 (.cons d0 (.cons (.int .u8 0 255) (.cons d2 (.cons d2 (.cons d2 .nil))))) d2 = true := by kernel_rfl
/-- softfloat/exact.NextUpFlags -/
theorem k121 : fnB (envL Oaag.prog eqU baseF xgU t120 al121) (fun _ => true) 322 (.cons d0 (.cons d2 .nil)) d52 = true := by kernel_rfl
/-- softfloat/ieee.TheNaN -/
theorem k133 : fnB (envL Oaag.prog eqU baseF xgU t132 al133) (fun _ => true) 45 (.cons d20 .nil) d2 = true := by kernel_rfl
/-- softfloat/calc/na.orName -/
theorem k145 : fnB (envL Oaag.prog eqU baseF xgU t144 al145) (fun _ => true) 292 (.cons d0 (.cons d2 (.cons (.str 4096) .nil))) (.str 4096) = true := by kernel_rfl
end Go.Proofs.YgcoaaGreat.SfW
