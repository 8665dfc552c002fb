/-
  The checks of the law of one run.
-/
import Derived.Test.YgcoaaGreatSy
set_option linter.unusedVariables false
set_option maxRecDepth 20000
namespace Go.Proofs.YgcoaaGreat.SfW
open Go Go.Sf

/-- softfloat/exact.whole -/
theorem k6 : fnB (envL Oaag.prog eqU baseF xgU t5 al6) (fun _ => true) 69 (.cons (.bool none) (.cons .nils .nil)) d4 = true := by kernel_rfl
/-- softfloat/exact.overflow -/
theorem k18 : fnB (envL Oaag.prog eqU baseF xgU t17 al18) (fun _ => true) 351 (.cons d0 (.cons (.int .u8 0 255) (.cons (.bool none) .nil))) d14 = true := by kernel_rfl
/-- softfloat/law.allowed -/
theorem k30 : fnB (envL Oaag.prog eqU baseF xgU t29 al30) (fun _ => true) 88 (.cons (.int .u8 0 255) (.cons d0 (.cons (.int .u8 0 255) .nil))) (.bool none) = true := by kernel_rfl
/-- softfloat/parse.head -/
theorem k42 : fnB (envL Oaag.prog eqU baseF xgU t41 al42) (fun _ => true) 105 (.cons (.str 4096) .nil) d2 = true := by kernel_rfl
/-- softfloat/parse/total.share -/
theorem k54 : fnB (envL Oaag.prog eqU baseF xgU t53 al54) (fun _ => true) 202 (.cons d2 (.cons d7 .nil)) d33 = true := by kernel_rfl
/-- softfloat/exact.toU64 -/
theorem k66 : fnB (envL Oaag.prog eqU baseF xgU t65 al66) (fun _ => true) 335 (.cons (.slc 1 d3 1048576) .nil) d2 = true := by kernel_rfl
/-- softfloat/exact.raised -/
theorem k78 : fnB (envL Oaag.prog eqU baseF xgU t77 al78) (fun _ => true) 352 (.cons (.int .u8 0 255) (.cons (.bool none) (.cons (.slc 1 d3 262144) (.cons (.slc 1 d3 262144) .nil)))) d39 = true := by kernel_rfl
/-- softfloat/exact.FromUint64Flags -/
theorem k90 : fnB (envL Oaag.prog eqU baseF xgU t89 al90) (fun _ => true) 226 (.cons d0 (.cons (.int .u8 0 255) (.cons d2 .nil))) d19 = true := by kernel_rfl
/-- softfloat/exact.shift -/
theorem k102 : fnB (envL Oaag.prog eqU baseF xgU t101 al102) (fun _ => true) 333 (.cons (.slc 1 d3 262144) (.cons (.slc 1 d3 65536) (.cons d5 .nil))) d47 = true := by kernel_rfl
/-- softfloat/exact.RoundInt -/
theorem k114 : fnB (envL Oaag.prog eqU baseF xgU t113 al114) (fun _ => true) 232 (.cons d0 (.cons (.int .u8 0 255) (.cons d2 .nil))) d2 = true := by kernel_rfl
/-- softfloat/exact.ScaleB -/
theorem k126 : fnB (envL Oaag.prog eqU baseF xgU t125 al126) (fun _ => true) 243 (.cons d0 (.cons (.int .u8 0 255) (.cons d2 (.cons d5 .nil)))) d2 = true := by kernel_rfl
/-- softfloat/ieee.MaxFinite -/
theorem k138 : fnB (envL Oaag.prog eqU baseF xgU t137 al138) (fun _ => true) 162 (.cons d20 (.cons (.bool none) .nil)) d2 = true := by kernel_rfl
/-- softfloat/calc/so.orName -/
theorem k150 : fnB (envL Oaag.prog eqU baseF xgU t149 al150) (fun _ => true) 256 (.cons d0 (.cons d2 (.cons (.str 4096) .nil))) (.str 4096) = true := by kernel_rfl
end Go.Proofs.YgcoaaGreat.SfW
