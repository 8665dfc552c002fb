/-
  The checks of the law of one run.
-/
import Derived.Test.YgcoaaGreatSy
set_option linter.unusedVariables false
set_option maxRecDepth 20000
namespace Go.Proofs.YgcoaaGreat.SfW
open Go Go.Sf

/-- softfloat/ieee.Inf -/
theorem k4 : fnB (envL Oaag.prog eqU baseF xgU t3 al4) (fun _ => true) 85 (.cons d0 (.cons (.bool none) .nil)) d2 = true := by kernel_rfl
/-- softfloat/exact.log2 -/
theorem k16 : fnB (envL Oaag.prog eqU baseF xgU t15 al16) (fun _ => true) 332 (.cons (.slc 1 d3 16384) (.cons (.slc 1 d3 16384) (.cons d5 (.cons d5 .nil)))) d5 = true := by kernel_rfl
/-- softfloat/ieee.Binary64 -/
theorem k28 : fnB (envL Oaag.prog eqU baseF xgU t27 al28) (fun _ => true) 74 .nil d20 = true := by kernel_rfl
/-- softfloat/exact.ConvertFlags -/
theorem k40 : fnB (envL Oaag.prog eqU baseF xgU t39 al40) (fun _ => true) 189 (.cons d0 (.cons d0 (.cons (.int .u8 0 255) (.cons d2 .nil)))) d19 = true := by kernel_rfl
/-- softfloat/parse/lemire.Lemire -/
theorem k52 : fnB (envL Oaag.prog eqU baseF xgU t51 al52) (fun _ => true) 106 (.cons d26 (.cons d0 (.cons d2 (.cons d7 .nil)))) d33 = true := by kernel_rfl
/-- softfloat/exact.floor -/
theorem k64 : fnB (envL Oaag.prog eqU baseF xgU t63 al64) (fun _ => true) 334 (.cons (.slc 1 d3 262144) (.cons (.slc 1 d3 65536) .nil)) d38 = true := by kernel_rfl
/-- softfloat/exact.log2 -/
theorem k76 : fnB (envL Oaag.prog eqU baseF xgU t75 al76) (fun _ => true) 332 (.cons (.slc 1 d3 65536) (.cons (.slc 1 d3 65536) (.cons d5 (.cons d5 .nil)))) d5 = true := by kernel_rfl
/-- softfloat/exact.FromInt64Flags -/
theorem k88 : fnB (envL Oaag.prog eqU baseF xgU t87 al88) (fun _ => true) 225 (.cons d0 (.cons (.int .u8 0 255) (.cons d5 .nil))) d19 = true := by kernel_rfl
/-- softfloat/exact.addRat -/
theorem k100 : fnB (envL Oaag.prog eqU baseF xgU t99 al100) (fun _ => true) 224 (.cons d36 (.cons d22 .nil)) d45 = true := by kernel_rfl
/-- softfloat/exact.whole -/
theorem k112 : fnB (envL Oaag.prog eqU baseF xgU t111 al112) (fun _ => true) 69 (.cons (.bool none) (.cons (.slc 1 d3 262144) .nil)) d51 = true := by kernel_rfl
/-- softfloat/exact.NextDown -/
theorem k124 : fnB (envL Oaag.prog eqU baseF xgU t123 al124) (fun _ => true) 236 (.cons d0 (.cons d2 .nil)) d2 = true := by kernel_rfl
/-- softfloat/exact.emin -/
theorem k136 : fnB (envL Oaag.prog eqU baseF xgU t135 al136) (fun _ => true) 349 (.cons d20 .nil) d54 = true := by kernel_rfl
/-- softfloat/calc/so.order -/
theorem k148 : fnB (envL Oaag.prog eqU baseF xgU t147 al148) (fun _ => true) 140 (.cons d15 .nil) (.str 1) = true := by kernel_rfl
end Go.Proofs.YgcoaaGreat.SfW
