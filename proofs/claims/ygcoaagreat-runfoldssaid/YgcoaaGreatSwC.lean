/-
  The law of one run: contracts of further functions.
-/
import Derived.Test.YgcoaaGreatSwZ
set_option linter.unusedVariables false
set_option maxRecDepth 20000
namespace Go.Proofs.YgcoaaGreat.Sf2
open Go Go.Sf

theorem con_rowG {g : FuncId} {ps r : D} (h : sgL baseG t13 g ps = some r) : Con Oaag.prog g ps r := rows_con (fun _ _ _ h => baseG_ok h) SfW.eqU_ok (fun _ _ _ h => by cases h) rows13 g ps r h

/-- softfloat/exact.scaled -/
theorem con70 : Con Oaag.prog 70 (.cons (.bool none) (.cons (.slc 1 d0 4096) (.cons d2 .nil))) d3 := con_rowG (by kernel_rfl)
/-- softfloat/exact.open -/
theorem con222 : Con Oaag.prog 222 (.cons d4 (.cons d6 .nil)) d12 := con_rowG (by kernel_rfl)
/-- softfloat/exact.log2 -/
theorem con332 : Con Oaag.prog 332 (.cons (.slc 1 d0 16384) (.cons (.slc 1 d0 4096) (.cons d2 (.cons d2 .nil)))) d2 := con_rowG (by kernel_rfl)
theorem con205 : Con Oaag.prog 205 (.cons SfW.d0 (.cons (.int .u8 0 255) (.cons d3 .nil))) SfW.d19 := SfW.con_row (by kernel_rfl)
end Go.Proofs.YgcoaaGreat.Sf2
