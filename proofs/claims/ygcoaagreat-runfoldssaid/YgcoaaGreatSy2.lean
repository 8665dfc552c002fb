/-
  The checks of the law of one run.
-/
import Derived.Test.YgcoaaGreatSy
set_option linter.unusedVariables false
set_option maxRecDepth 20000
namespace Go.Proofs.YgcoaaGreat.SfW
open Go Go.Sf

/-- softfloat/ieee.signed -/
theorem k3 : fnB (envL Oaag.prog eqU baseF xgU t2 al3) (fun _ => true) 158 (.cons d0 (.cons (.bool none) (.cons d2 .nil))) d2 = true := by kernel_rfl
/-- softfloat/exact.shift -/
theorem k15 : fnB (envL Oaag.prog eqU baseF xgU t14 al15) (fun _ => true) 333 (.cons (.slc 1 d3 16384) (.cons (.slc 1 d3 16384) (.cons d5 .nil))) d13 = true := by kernel_rfl
/-- softfloat/ieee.Binary32 -/
theorem k27 : fnB (envL Oaag.prog eqU baseF xgU t26 al27) (fun _ => true) 73 .nil d20 = true := by kernel_rfl
/-- softfloat/exact.heard -/
theorem k39 : fnB (envL Oaag.prog eqU baseF xgU t38 al39) (fun _ => true) 341 (.cons d0 (.cons d2 (.cons d2 .nil))) (.int .u8 0 1) = true := by kernel_rfl
/-- softfloat/wide.Add -/
theorem k51 : fnB (envL Oaag.prog eqU baseF xgU t50 al51) (fun _ => true) 196 (.cons d29 (.cons d27 .nil)) d30 = true := by kernel_rfl
/-- softfloat/exact.log2 -/
theorem k63 : fnB (envL Oaag.prog eqU baseF xgU t62 al63) (fun _ => true) 332 (.cons (.slc 1 d3 65536) (.cons (.slc 1 d3 16384) (.cons d5 (.cons d5 .nil)))) d5 = true := by kernel_rfl
/-- softfloat/exact.shift -/
theorem k75 : fnB (envL Oaag.prog eqU baseF xgU t74 al75) (fun _ => true) 333 (.cons (.slc 1 d3 65536) (.cons (.slc 1 d3 65536) (.cons d5 .nil))) d41 = true := by kernel_rfl
/-- softfloat/exact.Cmp -/
theorem k87 : fnB (envL Oaag.prog eqU baseF xgU t86 al87) (fun _ => true) 127 (.cons d0 (.cons d2 (.cons d2 .nil))) (.int .i8 (-1) 2) = true := by kernel_rfl
/-- softfloat/calc/ex.orName -/
theorem k99 : fnB (envL Oaag.prog eqU baseF xgU t98 al99) (fun _ => true) 229 (.cons d0 (.cons d2 (.cons (.str 4096) .nil))) (.str 4096) = true := by kernel_rfl
/-- softfloat/exact.Rem -/
theorem k111 : fnB (envL Oaag.prog eqU baseF xgU t110 al111) (fun _ => true) 231 (.cons d0 (.cons d2 (.cons d2 .nil))) d2 = true := by kernel_rfl
/-- softfloat/exact.NextDownFlags -/
theorem k123 : fnB (envL Oaag.prog eqU baseF xgU t122 al123) (fun _ => true) 323 (.cons d0 (.cons d2 .nil)) d52 = true := by kernel_rfl
/-- (softfloat/ieee.Format).Bias -/
theorem k135 : fnB (envL Oaag.prog eqU baseF xgU t134 al135) (fun _ => true) 117 (.cons d20 .nil) d7 = true := by kernel_rfl
/-- softfloat/calc/so.clean -/
theorem k147 : fnB (envL Oaag.prog eqU baseF xgU t146 al147) (fun _ => true) 134 (.cons d0 (.cons d2 .nil)) d2 = true := by kernel_rfl
end Go.Proofs.YgcoaaGreat.SfW
