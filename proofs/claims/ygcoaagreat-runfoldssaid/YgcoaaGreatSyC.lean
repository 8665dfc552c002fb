/-
  The law of one run: contracts of the entry points.
-/
import Derived.Test.YgcoaaGreatSyZ
set_option linter.unusedVariables false
set_option maxRecDepth 20000
namespace Go.Proofs.YgcoaaGreat.SfW
open Go Go.Sf

theorem con_row {g : FuncId} {ps r : D} (h : sgL baseF t150 g ps = some r) : Con Oaag.prog g ps r := rows_con (fun _ _ _ h => baseF_ok h) eqU_ok (fun _ _ _ h => by cases h) rows150 g ps r h

/-- softfloat/ieee.TheNaN -/
theorem con45 : Con Oaag.prog 45 (.cons d0 .nil) d2 := con_row (by kernel_rfl)
/-- softfloat/exact.RoundDec -/
theorem con58 : Con Oaag.prog 58 (.cons d0 (.cons (.int .u8 0 255) (.cons d8 .nil))) d2 := con_row (by kernel_rfl)
/-- (softfloat/ieee.Format).Ok -/
theorem con67 : Con Oaag.prog 67 (.cons d0 .nil) (.bool none) := con_row (by kernel_rfl)
/-- softfloat/ieee.Binary32 -/
theorem con73 : Con Oaag.prog 73 .nil d20 := con_row (by kernel_rfl)
/-- softfloat/ieee.Binary64 -/
theorem con74 : Con Oaag.prog 74 .nil d20 := con_row (by kernel_rfl)
/-- softfloat/ieee.Inf -/
theorem con85 : Con Oaag.prog 85 (.cons d0 (.cons (.bool none) .nil)) d2 := con_row (by kernel_rfl)
/-- softfloat/law.allowed -/
theorem con88 : Con Oaag.prog 88 (.cons (.int .u8 0 255) (.cons d0 (.cons (.int .u8 0 255) .nil))) (.bool none) := con_row (by kernel_rfl)
/-- softfloat/exact.Convert -/
theorem con100 : Con Oaag.prog 100 (.cons d0 (.cons d0 (.cons (.int .u8 0 255) (.cons d2 .nil)))) d2 := con_row (by kernel_rfl)
/-- softfloat/parse.head -/
theorem con105 : Con Oaag.prog 105 (.cons (.str 4096) .nil) d2 := con_row (by kernel_rfl)
/-- softfloat/parse/lemire.Lemire -/
theorem con106 : Con Oaag.prog 106 (.cons d26 (.cons d0 (.cons d2 (.cons d7 .nil)))) d33 := con_row (by kernel_rfl)
/-- softfloat/parse/second.head -/
theorem con108 : Con Oaag.prog 108 (.cons (.str 4096) .nil) d2 := con_row (by kernel_rfl)
/-- softfloat/parse/total.Total -/
theorem con109 : Con Oaag.prog 109 (.cons d26 (.cons d0 (.cons d2 (.cons d7 .nil)))) d33 := con_row (by kernel_rfl)
/-- softfloat/calc/ex.clean -/
theorem con120 : Con Oaag.prog 120 (.cons d0 (.cons d2 .nil)) d2 := con_row (by kernel_rfl)
/-- softfloat/exact.Add -/
theorem con121 : Con Oaag.prog 121 (.cons d0 (.cons (.int .u8 0 255) (.cons d2 (.cons d2 .nil)))) d2 := con_row (by kernel_rfl)
/-- softfloat/exact.Sub -/
theorem con122 : Con Oaag.prog 122 (.cons d0 (.cons (.int .u8 0 255) (.cons d2 (.cons d2 .nil)))) d2 := con_row (by kernel_rfl)
/-- softfloat/exact.Mul -/
theorem con123 : Con Oaag.prog 123 (.cons d0 (.cons (.int .u8 0 255) (.cons d2 (.cons d2 .nil)))) d2 := con_row (by kernel_rfl)
/-- softfloat/exact.Div -/
theorem con124 : Con Oaag.prog 124 (.cons d0 (.cons (.int .u8 0 255) (.cons d2 (.cons d2 .nil)))) d2 := con_row (by kernel_rfl)
/-- softfloat/exact.Sqrt -/
theorem con125 : Con Oaag.prog 125 (.cons d0 (.cons (.int .u8 0 255) (.cons d2 .nil))) d2 := con_row (by kernel_rfl)
/-- softfloat/calc/ex.order -/
theorem con126 : Con Oaag.prog 126 (.cons d15 .nil) (.str 1) := con_row (by kernel_rfl)
/-- softfloat/exact.Cmp -/
theorem con127 : Con Oaag.prog 127 (.cons d0 (.cons d2 (.cons d2 .nil))) (.int .i8 (-1) 2) := con_row (by kernel_rfl)
/-- softfloat/exact.FromInt64 -/
theorem con128 : Con Oaag.prog 128 (.cons d0 (.cons (.int .u8 0 255) (.cons d5 .nil))) d2 := con_row (by kernel_rfl)
/-- softfloat/exact.FromUint64 -/
theorem con129 : Con Oaag.prog 129 (.cons d0 (.cons (.int .u8 0 255) (.cons d2 .nil))) d2 := con_row (by kernel_rfl)
/-- softfloat/calc/ex.toInt -/
theorem con130 : Con Oaag.prog 130 (.cons d0 (.cons d2 .nil)) (.str 20) := con_row (by kernel_rfl)
/-- softfloat/calc/na.clean -/
theorem con148 : Con Oaag.prog 148 (.cons d0 (.cons d2 .nil)) d2 := con_row (by kernel_rfl)
/-- softfloat/calc.Allowed -/
theorem con159 : Con Oaag.prog 159 (.cons d26 (.cons (.int .u8 0 255) (.cons d0 (.cons (.int .u8 0 255) .nil)))) (.bool none) := con_row (by kernel_rfl)
/-- softfloat/exact.ScaleBFlags -/
theorem con186 : Con Oaag.prog 186 (.cons d0 (.cons (.int .u8 0 255) (.cons d2 (.cons d5 .nil)))) d19 := con_row (by kernel_rfl)
/-- softfloat/calc/ex.whole -/
theorem con227 : Con Oaag.prog 227 (.cons d5 (.cons (.bool none) .nil)) (.str 20) := con_row (by kernel_rfl)
/-- softfloat/calc/ex.orName -/
theorem con229 : Con Oaag.prog 229 (.cons d0 (.cons d2 (.cons (.str 4096) .nil))) (.str 4096) := con_row (by kernel_rfl)
/-- softfloat/exact.FMA -/
theorem con230 : Con Oaag.prog 230 (.cons d0 (.cons (.int .u8 0 255) (.cons d2 (.cons d2 (.cons d2 .nil))))) d2 := con_row (by kernel_rfl)
/-- softfloat/exact.Rem -/
theorem con231 : Con Oaag.prog 231 (.cons d0 (.cons d2 (.cons d2 .nil))) d2 := con_row (by kernel_rfl)
/-- softfloat/exact.RoundInt -/
theorem con232 : Con Oaag.prog 232 (.cons d0 (.cons (.int .u8 0 255) (.cons d2 .nil))) d2 := con_row (by kernel_rfl)
/-- softfloat/exact.Min -/
theorem con233 : Con Oaag.prog 233 (.cons d0 (.cons d2 (.cons d2 .nil))) d2 := con_row (by kernel_rfl)
/-- softfloat/exact.Max -/
theorem con234 : Con Oaag.prog 234 (.cons d0 (.cons d2 (.cons d2 .nil))) d2 := con_row (by kernel_rfl)
/-- softfloat/exact.NextUp -/
theorem con235 : Con Oaag.prog 235 (.cons d0 (.cons d2 .nil)) d2 := con_row (by kernel_rfl)
/-- softfloat/exact.NextDown -/
theorem con236 : Con Oaag.prog 236 (.cons d0 (.cons d2 .nil)) d2 := con_row (by kernel_rfl)
/-- softfloat/calc/ex.flags -/
theorem con238 : Con Oaag.prog 238 (.cons d0 (.cons (.int .u8 0 255) (D.rep d2 4))) (.int .u8 0 255) := con_row (by kernel_rfl)
/-- softfloat/exact.ScaleB -/
theorem con243 : Con Oaag.prog 243 (.cons d0 (.cons (.int .u8 0 255) (.cons d2 (.cons d5 .nil)))) d2 := con_row (by kernel_rfl)
/-- softfloat/exact.LogB -/
theorem con244 : Con Oaag.prog 244 (.cons d0 (.cons d2 .nil)) d44 := con_row (by kernel_rfl)
/-- softfloat/calc/ex.convFlags -/
theorem con245 : Con Oaag.prog 245 (.cons d0 (.cons (.int .u8 0 255) (.cons d2 (.cons d2 .nil)))) d56 := con_row (by kernel_rfl)
/-- softfloat/calc/na.whole -/
theorem con288 : Con Oaag.prog 288 (.cons d5 (.cons (.bool none) .nil)) (.str 20) := con_row (by kernel_rfl)
/-- softfloat/calc/na.orName -/
theorem con292 : Con Oaag.prog 292 (.cons d0 (.cons d2 (.cons (.str 4096) .nil))) (.str 4096) := con_row (by kernel_rfl)
/-- softfloat/hexa.digit -/
theorem con378 : Con Oaag.prog 378 (.cons d57 .nil) (.int .i64 (-1) 15) := con_row (by kernel_rfl)
/-- (softfloat/ieee.Format).SignBit -/
theorem con104 : Con Oaag.prog 104 (.cons d0 .nil) d1 := con_row (by kernel_rfl)
/-- softfloat/calc/so.clean -/
theorem con134 : Con Oaag.prog 134 (.cons d0 (.cons d2 .nil)) d2 := con_row (by kernel_rfl)
/-- softfloat/calc/so.order -/
theorem con140 : Con Oaag.prog 140 (.cons d15 .nil) (.str 1) := con_row (by kernel_rfl)
/-- softfloat/calc/so.whole -/
theorem con253 : Con Oaag.prog 253 (.cons d5 (.cons (.bool none) .nil)) (.str 20) := con_row (by kernel_rfl)
/-- softfloat/calc/so.orName -/
theorem con256 : Con Oaag.prog 256 (.cons d0 (.cons d2 (.cons (.str 4096) .nil))) (.str 4096) := con_row (by kernel_rfl)
end Go.Proofs.YgcoaaGreat.SfW
