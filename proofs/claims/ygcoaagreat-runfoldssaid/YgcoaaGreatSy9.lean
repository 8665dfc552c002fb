/-
  The checks of the law of one run.
-/
import Derived.Test.YgcoaaGreatSy
set_option linter.unusedVariables false
set_option maxRecDepth 20000
namespace Go.Proofs.YgcoaaGreat.SfW
open Go Go.Sf

/-- softfloat/exact.MakeRat -/
theorem k10 : fnB (envL Oaag.prog eqU baseF xgU t9 al10) (fun _ => true) 347 (.cons (.bool none) (.cons (.slc 1 d3 16384) (.cons (.slc 1 d3 16384) .nil))) d9 = true := by kernel_rfl
/-- softfloat/exact.toU64 -/
theorem k22 : fnB (envL Oaag.prog eqU baseF xgU t21 al22) (fun _ => true) 335 (.cons (.slc 1 d3 262144) .nil) d2 = true := by kernel_rfl
/-- softfloat/ieee.Unpack -/
theorem k34 : fnB (envL Oaag.prog eqU baseF xgU t33 al34) (fun _ => true) 68 (.cons d0 (.cons d2 .nil)) d21 = true := by kernel_rfl
/-- softfloat/wide.Mul64 -/
theorem k46 : fnB (envL Oaag.prog eqU baseF xgU t45 al46) (fun _ => true) 195 (.cons d2 (.cons d2 .nil)) d27 = true := by kernel_rfl
/-- softfloat/parse/total.Total -/
theorem k58 : fnB (envL Oaag.prog eqU baseF xgU t57 al58) (fun _ => true) 109 (.cons d26 (.cons d0 (.cons d2 (.cons d7 .nil)))) d33 = true := by kernel_rfl
/-- softfloat/exact.SubFlags -/
theorem k70 : fnB (envL Oaag.prog eqU baseF xgU t69 al70) (fun _ => true) 218 (.cons d0 (.cons (.int .u8 0 255) (.cons d2 (.cons d2 .nil)))) d19 = true := by kernel_rfl
/-- softfloat/exact.rootAt -/
theorem k82 : fnB (envL Oaag.prog eqU baseF xgU t81 al82) (fun _ => true) 362 (.cons d0 (.cons (.int .u8 0 255) (.cons d22 (.cons d5 .nil)))) d42 = true := by kernel_rfl
/-- softfloat/calc/ex.whole -/
theorem k94 : fnB (envL Oaag.prog eqU baseF xgU t93 al94) (fun _ => true) 227 (.cons d5 (.cons (.bool none) .nil)) (.str 20) = true := by kernel_rfl
/-- softfloat/exact.toU64 -/
theorem k106 : fnB (envL Oaag.prog eqU baseF xgU t105 al106) (fun _ => true) 335 (.cons (.slc 1 d3 4194304) .nil) d2 = true := by kernel_rfl
/-- softfloat/exact.Max -/
theorem k118 : fnB (envL Oaag.prog eqU baseF xgU t117 al118) (fun _ => true) 234 (.cons d0 (.cons d2 (.cons d2 .nil))) d2 = true := by kernel_rfl
/-- (softfloat/ieee.Format).SignBit -/
theorem k130 : fnB (envL Oaag.prog eqU baseF xgU t129 al130) (fun _ => true) 104 (.cons d20 .nil) d2 = true := by kernel_rfl
/-- softfloat/exact.ConvertFlags -/
theorem k142 : fnB (envL Oaag.prog eqU baseF xgU t141 al142) (fun _ => true) 189 (.cons d0 (.cons d20 (.cons (.int .u8 0 255) (.cons d2 .nil)))) d19 = true := by kernel_rfl
end Go.Proofs.YgcoaaGreat.SfW
