/-
  The checks of the law of one run.
-/
import Derived.Test.YgcoaaGreatSy
set_option linter.unusedVariables false
set_option maxRecDepth 20000
namespace Go.Proofs.YgcoaaGreat.SfW
open Go Go.Sf

/-- softfloat/ieee.TheNaN -/
theorem k5 : fnB (envL Oaag.prog eqU baseF xgU t4 al5) (fun _ => true) 45 (.cons d0 .nil) d2 = true := by kernel_rfl
/-- softfloat/ieee.MaxFinite -/
theorem k17 : fnB (envL Oaag.prog eqU baseF xgU t16 al17) (fun _ => true) 162 (.cons d0 (.cons (.bool none) .nil)) d2 = true := by kernel_rfl
/-- softfloat/law.folds -/
theorem k29 : fnB (envL Oaag.prog eqU baseF xgU t28 al29) (fun _ => true) 160 (.cons (.int .u8 0 255) .nil) (.bool none) = true := by kernel_rfl
/-- softfloat/exact.Convert -/
theorem k41 : fnB (envL Oaag.prog eqU baseF xgU t40 al41) (fun _ => true) 100 (.cons d0 (.cons d0 (.cons (.int .u8 0 255) (.cons d2 .nil)))) d2 = true := by kernel_rfl
/-- softfloat/parse/second.head -/
theorem k53 : fnB (envL Oaag.prog eqU baseF xgU t52 al53) (fun _ => true) 108 (.cons (.str 4096) .nil) d2 = true := by kernel_rfl
/-- softfloat/exact.raised -/
theorem k65 : fnB (envL Oaag.prog eqU baseF xgU t64 al65) (fun _ => true) 352 (.cons (.int .u8 0 255) (.cons (.bool none) (.cons (.slc 1 d3 262144) (.cons (.slc 1 d3 65536) .nil)))) d39 = true := by kernel_rfl
/-- softfloat/exact.floor -/
theorem k77 : fnB (envL Oaag.prog eqU baseF xgU t76 al77) (fun _ => true) 334 (.cons (.slc 1 d3 262144) (.cons (.slc 1 d3 262144) .nil)) d38 = true := by kernel_rfl
/-- softfloat/exact.FromInt64 -/
theorem k89 : fnB (envL Oaag.prog eqU baseF xgU t88 al89) (fun _ => true) 128 (.cons d0 (.cons (.int .u8 0 255) (.cons d5 .nil))) d2 = true := by kernel_rfl
/-- softfloat/exact.MakeRat -/
theorem k101 : fnB (envL Oaag.prog eqU baseF xgU t100 al101) (fun _ => true) 347 (.cons (.bool none) (.cons (.slc 1 d3 262144) (.cons (.slc 1 d3 65536) .nil))) d46 = true := by kernel_rfl
/-- softfloat/exact.RoundIntFlags -/
theorem k113 : fnB (envL Oaag.prog eqU baseF xgU t112 al113) (fun _ => true) 319 (.cons d0 (.cons (.int .u8 0 255) (.cons d2 .nil))) d50 = true := by kernel_rfl
/-- softfloat/calc/ex.flags -/
theorem k125 : fnB (envL Oaag.prog eqU baseF xgU t124 al125) (fun _ => true) 238 (.cons d0 (.cons (.int .u8 0 255) (D.rep d2 4))) (.int .u8 0 255) = true := by kernel_rfl
/-- softfloat/exact.emax -/
theorem k137 : fnB (envL Oaag.prog eqU baseF xgU t136 al137) (fun _ => true) 350 (.cons d20 .nil) d55 = true := by kernel_rfl
/-- softfloat/calc/so.whole -/
theorem k149 : fnB (envL Oaag.prog eqU baseF xgU t148 al149) (fun _ => true) 253 (.cons d5 (.cons (.bool none) .nil)) (.str 20) = true := by kernel_rfl
end Go.Proofs.YgcoaaGreat.SfW
