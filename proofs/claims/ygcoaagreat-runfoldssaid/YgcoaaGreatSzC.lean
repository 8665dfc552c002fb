/-
  The law of one run: contracts of further functions.
-/
import Derived.Test.YgcoaaGreatSzZ
set_option linter.unusedVariables false
set_option maxRecDepth 20000
namespace Go.Proofs.YgcoaaGreat.SfZ
open Go Go.Sf

theorem con_rowG {g : FuncId} {ps r : D} (h : sgL baseG t20 g ps = some r) : Con Oaag.prog g ps r := rows_con (fun _ _ _ h => baseG_ok h) SfW.eqU_ok (fun _ _ _ h => by cases h) rows20 g ps r h

/-- softfloat/ryu.Scale -/
theorem con192 : Con Oaag.prog 192 (.cons d5 (.cons d4 (.cons d2 .nil))) d11 := con_rowG (by kernel_rfl)
/-- softfloat/ryu.Log10Pow2 -/
theorem con308 : Con Oaag.prog 308 (.cons d2 .nil) d1 := con_rowG (by kernel_rfl)
/-- softfloat/exact.unitsOf -/
theorem con326 : Con Oaag.prog 326 (.cons d20 (.cons d12 .nil)) (.slc 1 d13 1048577) := con_rowG (by kernel_rfl)
/-- softfloat/exact.floorAt -/
theorem con303 : Con Oaag.prog 303 (.cons d20 (.cons d12 .nil)) d21 := con_rowG (by kernel_rfl)
/-- softfloat/exact.cutRest -/
theorem con304 : Con Oaag.prog 304 (.cons d12 (.cons d12 (.cons d17 .nil))) d17 := con_rowG (by kernel_rfl)
/-- softfloat/exact.tenTo -/
theorem con398 : Con Oaag.prog 398 (.cons d12 .nil) d15 := con_rowG (by kernel_rfl)
end Go.Proofs.YgcoaaGreat.SfZ
