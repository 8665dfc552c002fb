/-
  Two runs of one text: the functions of this program whose texts pass the check.
-/
import Derived.Test.YgcoaaGreatTwZ
import Derived.Tactics
set_option maxRecDepth 20000
namespace Go.Proofs.Oaag.Twn
open Go Go.Tw
theorem c23 : okCode (V Oaag.prog) 23 (drAll (V Oaag.prog)) (Oaag.f23.body.getD .skip) = true := by kernel_rfl
theorem c30 : okCode (V Oaag.prog) 30 (drAll (V Oaag.prog)) (Oaag.f30.body.getD .skip) = true := by kernel_rfl
theorem c36 : okCode (V Oaag.prog) 36 (drAll (V Oaag.prog)) (Oaag.f36.body.getD .skip) = true := by kernel_rfl
theorem c45 : okCode (V Oaag.prog) 45 (drAll (V Oaag.prog)) (Oaag.f45.body.getD .skip) = true := by kernel_rfl
theorem c58 : okCode (V Oaag.prog) 58 (drAll (V Oaag.prog)) (Oaag.f58.body.getD .skip) = true := by kernel_rfl
theorem c62 : okCode (V Oaag.prog) 62 (drAll (V Oaag.prog)) (Oaag.f62.body.getD .skip) = true := by kernel_rfl
theorem c66 : okCode (V Oaag.prog) 66 (drAll (V Oaag.prog)) (Oaag.f66.body.getD .skip) = true := by kernel_rfl
theorem c70 : okCode (V Oaag.prog) 70 (drAll (V Oaag.prog)) (Oaag.f70.body.getD .skip) = true := by kernel_rfl
theorem c78 : okCode (V Oaag.prog) 78 (drAll (V Oaag.prog)) (Oaag.f78.body.getD .skip) = true := by kernel_rfl
theorem c89 : okCode (V Oaag.prog) 89 (drAll (V Oaag.prog)) (Oaag.f89.body.getD .skip) = true := by kernel_rfl
theorem c104 : okCode (V Oaag.prog) 104 (drAll (V Oaag.prog)) (Oaag.f104.body.getD .skip) = true := by kernel_rfl
theorem c109 : okCode (V Oaag.prog) 109 (drAll (V Oaag.prog)) (Oaag.f109.body.getD .skip) = true := by kernel_rfl
theorem c113 : okCode (V Oaag.prog) 113 (drAll (V Oaag.prog)) (Oaag.f113.body.getD .skip) = true := by kernel_rfl
theorem c117 : okCode (V Oaag.prog) 117 (drAll (V Oaag.prog)) (Oaag.f117.body.getD .skip) = true := by kernel_rfl
theorem c123 : okCode (V Oaag.prog) 123 (drAll (V Oaag.prog)) (Oaag.f123.body.getD .skip) = true := by kernel_rfl
theorem c127 : okCode (V Oaag.prog) 127 (drAll (V Oaag.prog)) (Oaag.f127.body.getD .skip) = true := by kernel_rfl
theorem c132 : okCode (V Oaag.prog) 132 (drAll (V Oaag.prog)) (Oaag.f132.body.getD .skip) = true := by kernel_rfl
theorem c137 : okCode (V Oaag.prog) 137 (drAll (V Oaag.prog)) (Oaag.f137.body.getD .skip) = true := by kernel_rfl
theorem c141 : okCode (V Oaag.prog) 141 (drAll (V Oaag.prog)) (Oaag.f141.body.getD .skip) = true := by kernel_rfl
theorem c146 : okCode (V Oaag.prog) 146 (drAll (V Oaag.prog)) (Oaag.f146.body.getD .skip) = true := by kernel_rfl
theorem c159 : okCode (V Oaag.prog) 159 (drAll (V Oaag.prog)) (Oaag.f159.body.getD .skip) = true := by kernel_rfl
theorem c164 : okCode (V Oaag.prog) 164 (drAll (V Oaag.prog)) (Oaag.f164.body.getD .skip) = true := by kernel_rfl
theorem c170 : okCode (V Oaag.prog) 170 (drAll (V Oaag.prog)) (Oaag.f170.body.getD .skip) = true := by kernel_rfl
theorem c178 : okCode (V Oaag.prog) 178 (drAll (V Oaag.prog)) (Oaag.f178.body.getD .skip) = true := by kernel_rfl
theorem c182 : okCode (V Oaag.prog) 182 (drAll (V Oaag.prog)) (Oaag.f182.body.getD .skip) = true := by kernel_rfl
theorem c186 : okCode (V Oaag.prog) 186 (drAll (V Oaag.prog)) (Oaag.f186.body.getD .skip) = true := by kernel_rfl
theorem c190 : okCode (V Oaag.prog) 190 (drAll (V Oaag.prog)) (Oaag.f190.body.getD .skip) = true := by kernel_rfl
theorem c195 : okCode (V Oaag.prog) 195 (drAll (V Oaag.prog)) (Oaag.f195.body.getD .skip) = true := by kernel_rfl
theorem c203 : okCode (V Oaag.prog) 203 (drAll (V Oaag.prog)) (Oaag.f203.body.getD .skip) = true := by kernel_rfl
theorem c207 : okCode (V Oaag.prog) 207 (drAll (V Oaag.prog)) (Oaag.f207.body.getD .skip) = true := by kernel_rfl
theorem c211 : okCode (V Oaag.prog) 211 (drAll (V Oaag.prog)) (Oaag.f211.body.getD .skip) = true := by kernel_rfl
theorem c217 : okCode (V Oaag.prog) 217 (drAll (V Oaag.prog)) (Oaag.f217.body.getD .skip) = true := by kernel_rfl
theorem c221 : okCode (V Oaag.prog) 221 (drAll (V Oaag.prog)) (Oaag.f221.body.getD .skip) = true := by kernel_rfl
theorem c225 : okCode (V Oaag.prog) 225 (drAll (V Oaag.prog)) (Oaag.f225.body.getD .skip) = true := by kernel_rfl
theorem c229 : okCode (V Oaag.prog) 229 (drAll (V Oaag.prog)) (Oaag.f229.body.getD .skip) = true := by kernel_rfl
theorem c233 : okCode (V Oaag.prog) 233 (drAll (V Oaag.prog)) (Oaag.f233.body.getD .skip) = true := by kernel_rfl
theorem c237 : okCode (V Oaag.prog) 237 (drAll (V Oaag.prog)) (Oaag.f237.body.getD .skip) = true := by kernel_rfl
theorem c242 : okCode (V Oaag.prog) 242 (drAll (V Oaag.prog)) (Oaag.f242.body.getD .skip) = true := by kernel_rfl
theorem c246 : okCode (V Oaag.prog) 246 (drAll (V Oaag.prog)) (Oaag.f246.body.getD .skip) = true := by kernel_rfl
theorem c250 : okCode (V Oaag.prog) 250 (drAll (V Oaag.prog)) (Oaag.f250.body.getD .skip) = true := by kernel_rfl
theorem c256 : okCode (V Oaag.prog) 256 (drAll (V Oaag.prog)) (Oaag.f256.body.getD .skip) = true := by kernel_rfl
theorem c260 : okCode (V Oaag.prog) 260 (drAll (V Oaag.prog)) (Oaag.f260.body.getD .skip) = true := by kernel_rfl
theorem c264 : okCode (V Oaag.prog) 264 (drAll (V Oaag.prog)) (Oaag.f264.body.getD .skip) = true := by kernel_rfl
theorem c288 : okCode (V Oaag.prog) 288 (drAll (V Oaag.prog)) (Oaag.f288.body.getD .skip) = true := by kernel_rfl
theorem c303 : okCode (V Oaag.prog) 303 (drAll (V Oaag.prog)) (Oaag.f303.body.getD .skip) = true := by kernel_rfl
theorem c307 : okCode (V Oaag.prog) 307 (drAll (V Oaag.prog)) (Oaag.f307.body.getD .skip) = true := by kernel_rfl
theorem c311 : okCode (V Oaag.prog) 311 (drAll (V Oaag.prog)) (Oaag.f311.body.getD .skip) = true := by kernel_rfl
theorem c315 : okCode (V Oaag.prog) 315 (drAll (V Oaag.prog)) (Oaag.f315.body.getD .skip) = true := by kernel_rfl
theorem c319 : okCode (V Oaag.prog) 319 (drAll (V Oaag.prog)) (Oaag.f319.body.getD .skip) = true := by kernel_rfl
theorem c323 : okCode (V Oaag.prog) 323 (drAll (V Oaag.prog)) (Oaag.f323.body.getD .skip) = true := by kernel_rfl
theorem c328 : okCode (V Oaag.prog) 328 (drAll (V Oaag.prog)) (Oaag.f328.body.getD .skip) = true := by kernel_rfl
theorem c332 : okCode (V Oaag.prog) 332 (drAll (V Oaag.prog)) (Oaag.f332.body.getD .skip) = true := by kernel_rfl
theorem c336 : okCode (V Oaag.prog) 336 (drAll (V Oaag.prog)) (Oaag.f336.body.getD .skip) = true := by kernel_rfl
theorem c340 : okCode (V Oaag.prog) 340 (drAll (V Oaag.prog)) (Oaag.f340.body.getD .skip) = true := by kernel_rfl
theorem c344 : okCode (V Oaag.prog) 344 (drAll (V Oaag.prog)) (Oaag.f344.body.getD .skip) = true := by kernel_rfl
theorem c350 : okCode (V Oaag.prog) 350 (drAll (V Oaag.prog)) (Oaag.f350.body.getD .skip) = true := by kernel_rfl
theorem c354 : okCode (V Oaag.prog) 354 (drAll (V Oaag.prog)) (Oaag.f354.body.getD .skip) = true := by kernel_rfl
theorem c358 : okCode (V Oaag.prog) 358 (drAll (V Oaag.prog)) (Oaag.f358.body.getD .skip) = true := by kernel_rfl
theorem c362 : okCode (V Oaag.prog) 362 (drAll (V Oaag.prog)) (Oaag.f362.body.getD .skip) = true := by kernel_rfl
theorem c367 : okCode (V Oaag.prog) 367 (drAll (V Oaag.prog)) (Oaag.f367.body.getD .skip) = true := by kernel_rfl
theorem c371 : okCode (V Oaag.prog) 371 (drAll (V Oaag.prog)) (Oaag.f371.body.getD .skip) = true := by kernel_rfl
theorem c375 : okCode (V Oaag.prog) 375 (drAll (V Oaag.prog)) (Oaag.f375.body.getD .skip) = true := by kernel_rfl
theorem c397 : okCode (V Oaag.prog) 397 (drAll (V Oaag.prog)) (Oaag.f397.body.getD .skip) = true := by kernel_rfl
theorem c401 : okCode (V Oaag.prog) 401 (drAll (V Oaag.prog)) (Oaag.f401.body.getD .skip) = true := by kernel_rfl
theorem c405 : okCode (V Oaag.prog) 405 (drAll (V Oaag.prog)) (Oaag.f405.body.getD .skip) = true := by kernel_rfl
theorem c409 : okCode (V Oaag.prog) 409 (drAll (V Oaag.prog)) (Oaag.f409.body.getD .skip) = true := by kernel_rfl
theorem c413 : okCode (V Oaag.prog) 413 (drAll (V Oaag.prog)) (Oaag.f413.body.getD .skip) = true := by kernel_rfl
theorem c417 : okCode (V Oaag.prog) 417 (drAll (V Oaag.prog)) (Oaag.f417.body.getD .skip) = true := by kernel_rfl
theorem c437 : okCode (V Oaag.prog) 437 (drAll (V Oaag.prog)) (Oaag.f437.body.getD .skip) = true := by kernel_rfl
end Go.Proofs.Oaag.Twn
