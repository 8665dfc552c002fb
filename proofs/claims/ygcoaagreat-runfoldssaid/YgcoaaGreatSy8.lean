/-
  The checks of the law of one run.
-/
import Derived.Test.YgcoaaGreatSy
set_option linter.unusedVariables false
set_option maxRecDepth 20000
namespace Go.Proofs.YgcoaaGreat.SfW
open Go Go.Sf

/-- softfloat/exact.OfDec -/
theorem k9 : fnB (envL Oaag.prog eqU baseF xgU t8 al9) (fun _ => true) 37 (.cons d8 .nil) d9 = true := by kernel_rfl
/-- softfloat/exact.raised -/
theorem k21 : fnB (envL Oaag.prog eqU baseF xgU t20 al21) (fun _ => true) 352 (.cons (.int .u8 0 255) (.cons (.bool none) (.cons (.slc 1 d3 65536) (.cons (.slc 1 d3 65536) .nil)))) d18 = true := by kernel_rfl
/-- softfloat/ieee.subnormal -/
theorem k33 : fnB (envL Oaag.prog eqU baseF xgU t32 al33) (fun _ => true) 116 (.cons d0 (.cons (.bool none) (.cons d2 .nil))) d21 = true := by kernel_rfl
/-- softfloat/wide.Clz -/
theorem k45 : fnB (envL Oaag.prog eqU baseF xgU t44 al45) (fun _ => true) 194 (.cons d2 .nil) (.int .u8 0 255) = true := by kernel_rfl
/-- softfloat/parse/total.pack -/
theorem k57 : fnB (envL Oaag.prog eqU baseF xgU t56 al57) (fun _ => true) 203 (.cons d0 (.cons d2 (.cons d31 (.cons (.bool none) .nil)))) d2 = true := by kernel_rfl
/-- softfloat/exact.Add -/
theorem k69 : fnB (envL Oaag.prog eqU baseF xgU t68 al69) (fun _ => true) 121 (.cons d0 (.cons (.int .u8 0 255) (.cons d2 (.cons d2 .nil)))) d2 = true := by kernel_rfl
/-- softfloat/exact.Div -/
theorem k81 : fnB (envL Oaag.prog eqU baseF xgU t80 al81) (fun _ => true) 124 (.cons d0 (.cons (.int .u8 0 255) (.cons d2 (.cons d2 .nil)))) d2 = true := by kernel_rfl
/-- softfloat/exact.ToInt64 -/
theorem k93 : fnB (envL Oaag.prog eqU baseF xgU t92 al93) (fun _ => true) 164 (.cons d0 (.cons (.int .u8 0 255) (.cons d2 .nil))) d44 = true := by kernel_rfl
/-- softfloat/exact.raised -/
theorem k105 : fnB (envL Oaag.prog eqU baseF xgU t104 al105) (fun _ => true) 352 (.cons (.int .u8 0 255) (.cons (.bool none) (.cons (.slc 1 d3 1048576) (.cons (.slc 1 d3 262144) .nil)))) d49 = true := by kernel_rfl
/-- softfloat/exact.MaxFlags -/
theorem k117 : fnB (envL Oaag.prog eqU baseF xgU t116 al117) (fun _ => true) 321 (.cons d0 (.cons d2 (.cons d2 .nil))) d52 = true := by kernel_rfl
/-- (softfloat/ieee.Format).Ok -/
theorem k129 : fnB (envL Oaag.prog eqU baseF xgU t128 al129) (fun _ => true) 67 (.cons d20 .nil) (.bool none) = true := by kernel_rfl
/-- softfloat/exact.RoundFlags -/
theorem k141 : fnB (envL Oaag.prog eqU baseF xgU t140 al141) (fun _ => true) 205 (.cons d20 (.cons (.int .u8 0 255) (.cons d22 .nil))) d19 = true := by kernel_rfl
end Go.Proofs.YgcoaaGreat.SfW
