/-
  Two runs of one text: the functions of this program whose texts pass the check.
-/
import Derived.Test.YgcoaaGreatTwZ
import Derived.Tactics
set_option maxRecDepth 20000
namespace Go.Proofs.Oaag.Twn
open Go Go.Tw
theorem c25 : okCode (V Oaag.prog) 25 (drAll (V Oaag.prog)) (Oaag.f25.body.getD .skip) = true := by kernel_rfl
theorem c31 : okCode (V Oaag.prog) 31 (drAll (V Oaag.prog)) (Oaag.f31.body.getD .skip) = true := by kernel_rfl
theorem c37 : okCode (V Oaag.prog) 37 (drAll (V Oaag.prog)) (Oaag.f37.body.getD .skip) = true := by kernel_rfl
theorem c51 : okCode (V Oaag.prog) 51 (drAll (V Oaag.prog)) (Oaag.f51.body.getD .skip) = true := by kernel_rfl
theorem c59 : okCode (V Oaag.prog) 59 (drAll (V Oaag.prog)) (Oaag.f59.body.getD .skip) = true := by kernel_rfl
theorem c63 : okCode (V Oaag.prog) 63 (drAll (V Oaag.prog)) (Oaag.f63.body.getD .skip) = true := by kernel_rfl
theorem c67 : okCode (V Oaag.prog) 67 (drAll (V Oaag.prog)) (Oaag.f67.body.getD .skip) = true := by kernel_rfl
theorem c73 : okCode (V Oaag.prog) 73 (drAll (V Oaag.prog)) (Oaag.f73.body.getD .skip) = true := by kernel_rfl
theorem c80 : okCode (V Oaag.prog) 80 (drAll (V Oaag.prog)) (Oaag.f80.body.getD .skip) = true := by kernel_rfl
theorem c90 : okCode (V Oaag.prog) 90 (drAll (V Oaag.prog)) (Oaag.f90.body.getD .skip) = true := by kernel_rfl
theorem c105 : okCode (V Oaag.prog) 105 (drAll (V Oaag.prog)) (Oaag.f105.body.getD .skip) = true := by kernel_rfl
theorem c110 : okCode (V Oaag.prog) 110 (drAll (V Oaag.prog)) (Oaag.f110.body.getD .skip) = true := by kernel_rfl
theorem c114 : okCode (V Oaag.prog) 114 (drAll (V Oaag.prog)) (Oaag.f114.body.getD .skip) = true := by kernel_rfl
theorem c120 : okCode (V Oaag.prog) 120 (drAll (V Oaag.prog)) (Oaag.f120.body.getD .skip) = true := by kernel_rfl
theorem c124 : okCode (V Oaag.prog) 124 (drAll (V Oaag.prog)) (Oaag.f124.body.getD .skip) = true := by kernel_rfl
theorem c128 : okCode (V Oaag.prog) 128 (drAll (V Oaag.prog)) (Oaag.f128.body.getD .skip) = true := by kernel_rfl
theorem c134 : okCode (V Oaag.prog) 134 (drAll (V Oaag.prog)) (Oaag.f134.body.getD .skip) = true := by kernel_rfl
theorem c138 : okCode (V Oaag.prog) 138 (drAll (V Oaag.prog)) (Oaag.f138.body.getD .skip) = true := by kernel_rfl
theorem c142 : okCode (V Oaag.prog) 142 (drAll (V Oaag.prog)) (Oaag.f142.body.getD .skip) = true := by kernel_rfl
theorem c148 : okCode (V Oaag.prog) 148 (drAll (V Oaag.prog)) (Oaag.f148.body.getD .skip) = true := by kernel_rfl
theorem c160 : okCode (V Oaag.prog) 160 (drAll (V Oaag.prog)) (Oaag.f160.body.getD .skip) = true := by kernel_rfl
theorem c165 : okCode (V Oaag.prog) 165 (drAll (V Oaag.prog)) (Oaag.f165.body.getD .skip) = true := by kernel_rfl
theorem c171 : okCode (V Oaag.prog) 171 (drAll (V Oaag.prog)) (Oaag.f171.body.getD .skip) = true := by kernel_rfl
theorem c179 : okCode (V Oaag.prog) 179 (drAll (V Oaag.prog)) (Oaag.f179.body.getD .skip) = true := by kernel_rfl
theorem c183 : okCode (V Oaag.prog) 183 (drAll (V Oaag.prog)) (Oaag.f183.body.getD .skip) = true := by kernel_rfl
theorem c187 : okCode (V Oaag.prog) 187 (drAll (V Oaag.prog)) (Oaag.f187.body.getD .skip) = true := by kernel_rfl
theorem c191 : okCode (V Oaag.prog) 191 (drAll (V Oaag.prog)) (Oaag.f191.body.getD .skip) = true := by kernel_rfl
theorem c196 : okCode (V Oaag.prog) 196 (drAll (V Oaag.prog)) (Oaag.f196.body.getD .skip) = true := by kernel_rfl
theorem c204 : okCode (V Oaag.prog) 204 (drAll (V Oaag.prog)) (Oaag.f204.body.getD .skip) = true := by kernel_rfl
theorem c208 : okCode (V Oaag.prog) 208 (drAll (V Oaag.prog)) (Oaag.f208.body.getD .skip) = true := by kernel_rfl
theorem c212 : okCode (V Oaag.prog) 212 (drAll (V Oaag.prog)) (Oaag.f212.body.getD .skip) = true := by kernel_rfl
theorem c218 : okCode (V Oaag.prog) 218 (drAll (V Oaag.prog)) (Oaag.f218.body.getD .skip) = true := by kernel_rfl
theorem c222 : okCode (V Oaag.prog) 222 (drAll (V Oaag.prog)) (Oaag.f222.body.getD .skip) = true := by kernel_rfl
theorem c226 : okCode (V Oaag.prog) 226 (drAll (V Oaag.prog)) (Oaag.f226.body.getD .skip) = true := by kernel_rfl
theorem c230 : okCode (V Oaag.prog) 230 (drAll (V Oaag.prog)) (Oaag.f230.body.getD .skip) = true := by kernel_rfl
theorem c234 : okCode (V Oaag.prog) 234 (drAll (V Oaag.prog)) (Oaag.f234.body.getD .skip) = true := by kernel_rfl
theorem c238 : okCode (V Oaag.prog) 238 (drAll (V Oaag.prog)) (Oaag.f238.body.getD .skip) = true := by kernel_rfl
theorem c243 : okCode (V Oaag.prog) 243 (drAll (V Oaag.prog)) (Oaag.f243.body.getD .skip) = true := by kernel_rfl
theorem c247 : okCode (V Oaag.prog) 247 (drAll (V Oaag.prog)) (Oaag.f247.body.getD .skip) = true := by kernel_rfl
theorem c251 : okCode (V Oaag.prog) 251 (drAll (V Oaag.prog)) (Oaag.f251.body.getD .skip) = true := by kernel_rfl
theorem c257 : okCode (V Oaag.prog) 257 (drAll (V Oaag.prog)) (Oaag.f257.body.getD .skip) = true := by kernel_rfl
theorem c261 : okCode (V Oaag.prog) 261 (drAll (V Oaag.prog)) (Oaag.f261.body.getD .skip) = true := by kernel_rfl
theorem c270 : okCode (V Oaag.prog) 270 (drAll (V Oaag.prog)) (Oaag.f270.body.getD .skip) = true := by kernel_rfl
theorem c292 : okCode (V Oaag.prog) 292 (drAll (V Oaag.prog)) (Oaag.f292.body.getD .skip) = true := by kernel_rfl
theorem c304 : okCode (V Oaag.prog) 304 (drAll (V Oaag.prog)) (Oaag.f304.body.getD .skip) = true := by kernel_rfl
theorem c308 : okCode (V Oaag.prog) 308 (drAll (V Oaag.prog)) (Oaag.f308.body.getD .skip) = true := by kernel_rfl
theorem c312 : okCode (V Oaag.prog) 312 (drAll (V Oaag.prog)) (Oaag.f312.body.getD .skip) = true := by kernel_rfl
theorem c316 : okCode (V Oaag.prog) 316 (drAll (V Oaag.prog)) (Oaag.f316.body.getD .skip) = true := by kernel_rfl
theorem c320 : okCode (V Oaag.prog) 320 (drAll (V Oaag.prog)) (Oaag.f320.body.getD .skip) = true := by kernel_rfl
theorem c325 : okCode (V Oaag.prog) 325 (drAll (V Oaag.prog)) (Oaag.f325.body.getD .skip) = true := by kernel_rfl
theorem c329 : okCode (V Oaag.prog) 329 (drAll (V Oaag.prog)) (Oaag.f329.body.getD .skip) = true := by kernel_rfl
theorem c333 : okCode (V Oaag.prog) 333 (drAll (V Oaag.prog)) (Oaag.f333.body.getD .skip) = true := by kernel_rfl
theorem c337 : okCode (V Oaag.prog) 337 (drAll (V Oaag.prog)) (Oaag.f337.body.getD .skip) = true := by kernel_rfl
theorem c341 : okCode (V Oaag.prog) 341 (drAll (V Oaag.prog)) (Oaag.f341.body.getD .skip) = true := by kernel_rfl
theorem c347 : okCode (V Oaag.prog) 347 (drAll (V Oaag.prog)) (Oaag.f347.body.getD .skip) = true := by kernel_rfl
theorem c351 : okCode (V Oaag.prog) 351 (drAll (V Oaag.prog)) (Oaag.f351.body.getD .skip) = true := by kernel_rfl
theorem c355 : okCode (V Oaag.prog) 355 (drAll (V Oaag.prog)) (Oaag.f355.body.getD .skip) = true := by kernel_rfl
theorem c359 : okCode (V Oaag.prog) 359 (drAll (V Oaag.prog)) (Oaag.f359.body.getD .skip) = true := by kernel_rfl
theorem c363 : okCode (V Oaag.prog) 363 (drAll (V Oaag.prog)) (Oaag.f363.body.getD .skip) = true := by kernel_rfl
theorem c368 : okCode (V Oaag.prog) 368 (drAll (V Oaag.prog)) (Oaag.f368.body.getD .skip) = true := by kernel_rfl
theorem c372 : okCode (V Oaag.prog) 372 (drAll (V Oaag.prog)) (Oaag.f372.body.getD .skip) = true := by kernel_rfl
theorem c376 : okCode (V Oaag.prog) 376 (drAll (V Oaag.prog)) (Oaag.f376.body.getD .skip) = true := by kernel_rfl
theorem c398 : okCode (V Oaag.prog) 398 (drAll (V Oaag.prog)) (Oaag.f398.body.getD .skip) = true := by kernel_rfl
theorem c402 : okCode (V Oaag.prog) 402 (drAll (V Oaag.prog)) (Oaag.f402.body.getD .skip) = true := by kernel_rfl
theorem c406 : okCode (V Oaag.prog) 406 (drAll (V Oaag.prog)) (Oaag.f406.body.getD .skip) = true := by kernel_rfl
theorem c410 : okCode (V Oaag.prog) 410 (drAll (V Oaag.prog)) (Oaag.f410.body.getD .skip) = true := by kernel_rfl
theorem c414 : okCode (V Oaag.prog) 414 (drAll (V Oaag.prog)) (Oaag.f414.body.getD .skip) = true := by kernel_rfl
theorem c418 : okCode (V Oaag.prog) 418 (drAll (V Oaag.prog)) (Oaag.f418.body.getD .skip) = true := by kernel_rfl
theorem c438 : okCode (V Oaag.prog) 438 (drAll (V Oaag.prog)) (Oaag.f438.body.getD .skip) = true := by kernel_rfl
end Go.Proofs.Oaag.Twn
