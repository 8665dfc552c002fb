/-
  Two runs of one text: the functions of this program whose texts pass the check.
-/
import Derived.Test.YgcoaaGreatTwZ
import Derived.Tactics
set_option maxRecDepth 20000
namespace Go.Proofs.Oaag.Twn
open Go Go.Tw
theorem c26 : okCode (V Oaag.prog) 26 (drAll (V Oaag.prog)) (Oaag.f26.body.getD .skip) = true := by kernel_rfl
theorem c33 : okCode (V Oaag.prog) 33 (drAll (V Oaag.prog)) (Oaag.f33.body.getD .skip) = true := by kernel_rfl
theorem c39 : okCode (V Oaag.prog) 39 (drAll (V Oaag.prog)) (Oaag.f39.body.getD .skip) = true := by kernel_rfl
theorem c52 : okCode (V Oaag.prog) 52 (drAll (V Oaag.prog)) (Oaag.f52.body.getD .skip) = true := by kernel_rfl
theorem c60 : okCode (V Oaag.prog) 60 (drAll (V Oaag.prog)) (Oaag.f60.body.getD .skip) = true := by kernel_rfl
theorem c64 : okCode (V Oaag.prog) 64 (drAll (V Oaag.prog)) (Oaag.f64.body.getD .skip) = true := by kernel_rfl
theorem c68 : okCode (V Oaag.prog) 68 (drAll (V Oaag.prog)) (Oaag.f68.body.getD .skip) = true := by kernel_rfl
theorem c74 : okCode (V Oaag.prog) 74 (drAll (V Oaag.prog)) (Oaag.f74.body.getD .skip) = true := by kernel_rfl
theorem c85 : okCode (V Oaag.prog) 85 (drAll (V Oaag.prog)) (Oaag.f85.body.getD .skip) = true := by kernel_rfl
theorem c100 : okCode (V Oaag.prog) 100 (drAll (V Oaag.prog)) (Oaag.f100.body.getD .skip) = true := by kernel_rfl
theorem c106 : okCode (V Oaag.prog) 106 (drAll (V Oaag.prog)) (Oaag.f106.body.getD .skip) = true := by kernel_rfl
theorem c111 : okCode (V Oaag.prog) 111 (drAll (V Oaag.prog)) (Oaag.f111.body.getD .skip) = true := by kernel_rfl
theorem c115 : okCode (V Oaag.prog) 115 (drAll (V Oaag.prog)) (Oaag.f115.body.getD .skip) = true := by kernel_rfl
theorem c121 : okCode (V Oaag.prog) 121 (drAll (V Oaag.prog)) (Oaag.f121.body.getD .skip) = true := by kernel_rfl
theorem c125 : okCode (V Oaag.prog) 125 (drAll (V Oaag.prog)) (Oaag.f125.body.getD .skip) = true := by kernel_rfl
theorem c129 : okCode (V Oaag.prog) 129 (drAll (V Oaag.prog)) (Oaag.f129.body.getD .skip) = true := by kernel_rfl
theorem c135 : okCode (V Oaag.prog) 135 (drAll (V Oaag.prog)) (Oaag.f135.body.getD .skip) = true := by kernel_rfl
theorem c139 : okCode (V Oaag.prog) 139 (drAll (V Oaag.prog)) (Oaag.f139.body.getD .skip) = true := by kernel_rfl
theorem c143 : okCode (V Oaag.prog) 143 (drAll (V Oaag.prog)) (Oaag.f143.body.getD .skip) = true := by kernel_rfl
theorem c156 : okCode (V Oaag.prog) 156 (drAll (V Oaag.prog)) (Oaag.f156.body.getD .skip) = true := by kernel_rfl
theorem c162 : okCode (V Oaag.prog) 162 (drAll (V Oaag.prog)) (Oaag.f162.body.getD .skip) = true := by kernel_rfl
theorem c167 : okCode (V Oaag.prog) 167 (drAll (V Oaag.prog)) (Oaag.f167.body.getD .skip) = true := by kernel_rfl
theorem c176 : okCode (V Oaag.prog) 176 (drAll (V Oaag.prog)) (Oaag.f176.body.getD .skip) = true := by kernel_rfl
theorem c180 : okCode (V Oaag.prog) 180 (drAll (V Oaag.prog)) (Oaag.f180.body.getD .skip) = true := by kernel_rfl
theorem c184 : okCode (V Oaag.prog) 184 (drAll (V Oaag.prog)) (Oaag.f184.body.getD .skip) = true := by kernel_rfl
theorem c188 : okCode (V Oaag.prog) 188 (drAll (V Oaag.prog)) (Oaag.f188.body.getD .skip) = true := by kernel_rfl
theorem c192 : okCode (V Oaag.prog) 192 (drAll (V Oaag.prog)) (Oaag.f192.body.getD .skip) = true := by kernel_rfl
theorem c197 : okCode (V Oaag.prog) 197 (drAll (V Oaag.prog)) (Oaag.f197.body.getD .skip) = true := by kernel_rfl
theorem c205 : okCode (V Oaag.prog) 205 (drAll (V Oaag.prog)) (Oaag.f205.body.getD .skip) = true := by kernel_rfl
theorem c209 : okCode (V Oaag.prog) 209 (drAll (V Oaag.prog)) (Oaag.f209.body.getD .skip) = true := by kernel_rfl
theorem c213 : okCode (V Oaag.prog) 213 (drAll (V Oaag.prog)) (Oaag.f213.body.getD .skip) = true := by kernel_rfl
theorem c219 : okCode (V Oaag.prog) 219 (drAll (V Oaag.prog)) (Oaag.f219.body.getD .skip) = true := by kernel_rfl
theorem c223 : okCode (V Oaag.prog) 223 (drAll (V Oaag.prog)) (Oaag.f223.body.getD .skip) = true := by kernel_rfl
theorem c227 : okCode (V Oaag.prog) 227 (drAll (V Oaag.prog)) (Oaag.f227.body.getD .skip) = true := by kernel_rfl
theorem c231 : okCode (V Oaag.prog) 231 (drAll (V Oaag.prog)) (Oaag.f231.body.getD .skip) = true := by kernel_rfl
theorem c235 : okCode (V Oaag.prog) 235 (drAll (V Oaag.prog)) (Oaag.f235.body.getD .skip) = true := by kernel_rfl
theorem c240 : okCode (V Oaag.prog) 240 (drAll (V Oaag.prog)) (Oaag.f240.body.getD .skip) = true := by kernel_rfl
theorem c244 : okCode (V Oaag.prog) 244 (drAll (V Oaag.prog)) (Oaag.f244.body.getD .skip) = true := by kernel_rfl
theorem c248 : okCode (V Oaag.prog) 248 (drAll (V Oaag.prog)) (Oaag.f248.body.getD .skip) = true := by kernel_rfl
theorem c252 : okCode (V Oaag.prog) 252 (drAll (V Oaag.prog)) (Oaag.f252.body.getD .skip) = true := by kernel_rfl
theorem c258 : okCode (V Oaag.prog) 258 (drAll (V Oaag.prog)) (Oaag.f258.body.getD .skip) = true := by kernel_rfl
theorem c262 : okCode (V Oaag.prog) 262 (drAll (V Oaag.prog)) (Oaag.f262.body.getD .skip) = true := by kernel_rfl
theorem c271 : okCode (V Oaag.prog) 271 (drAll (V Oaag.prog)) (Oaag.f271.body.getD .skip) = true := by kernel_rfl
theorem c301 : okCode (V Oaag.prog) 301 (drAll (V Oaag.prog)) (Oaag.f301.body.getD .skip) = true := by kernel_rfl
theorem c305 : okCode (V Oaag.prog) 305 (drAll (V Oaag.prog)) (Oaag.f305.body.getD .skip) = true := by kernel_rfl
theorem c309 : okCode (V Oaag.prog) 309 (drAll (V Oaag.prog)) (Oaag.f309.body.getD .skip) = true := by kernel_rfl
theorem c313 : okCode (V Oaag.prog) 313 (drAll (V Oaag.prog)) (Oaag.f313.body.getD .skip) = true := by kernel_rfl
theorem c317 : okCode (V Oaag.prog) 317 (drAll (V Oaag.prog)) (Oaag.f317.body.getD .skip) = true := by kernel_rfl
theorem c321 : okCode (V Oaag.prog) 321 (drAll (V Oaag.prog)) (Oaag.f321.body.getD .skip) = true := by kernel_rfl
theorem c326 : okCode (V Oaag.prog) 326 (drAll (V Oaag.prog)) (Oaag.f326.body.getD .skip) = true := by kernel_rfl
theorem c330 : okCode (V Oaag.prog) 330 (drAll (V Oaag.prog)) (Oaag.f330.body.getD .skip) = true := by kernel_rfl
theorem c334 : okCode (V Oaag.prog) 334 (drAll (V Oaag.prog)) (Oaag.f334.body.getD .skip) = true := by kernel_rfl
theorem c338 : okCode (V Oaag.prog) 338 (drAll (V Oaag.prog)) (Oaag.f338.body.getD .skip) = true := by kernel_rfl
theorem c342 : okCode (V Oaag.prog) 342 (drAll (V Oaag.prog)) (Oaag.f342.body.getD .skip) = true := by kernel_rfl
theorem c348 : okCode (V Oaag.prog) 348 (drAll (V Oaag.prog)) (Oaag.f348.body.getD .skip) = true := by kernel_rfl
theorem c352 : okCode (V Oaag.prog) 352 (drAll (V Oaag.prog)) (Oaag.f352.body.getD .skip) = true := by kernel_rfl
theorem c356 : okCode (V Oaag.prog) 356 (drAll (V Oaag.prog)) (Oaag.f356.body.getD .skip) = true := by kernel_rfl
theorem c360 : okCode (V Oaag.prog) 360 (drAll (V Oaag.prog)) (Oaag.f360.body.getD .skip) = true := by kernel_rfl
theorem c364 : okCode (V Oaag.prog) 364 (drAll (V Oaag.prog)) (Oaag.f364.body.getD .skip) = true := by kernel_rfl
theorem c369 : okCode (V Oaag.prog) 369 (drAll (V Oaag.prog)) (Oaag.f369.body.getD .skip) = true := by kernel_rfl
theorem c373 : okCode (V Oaag.prog) 373 (drAll (V Oaag.prog)) (Oaag.f373.body.getD .skip) = true := by kernel_rfl
theorem c377 : okCode (V Oaag.prog) 377 (drAll (V Oaag.prog)) (Oaag.f377.body.getD .skip) = true := by kernel_rfl
theorem c399 : okCode (V Oaag.prog) 399 (drAll (V Oaag.prog)) (Oaag.f399.body.getD .skip) = true := by kernel_rfl
theorem c403 : okCode (V Oaag.prog) 403 (drAll (V Oaag.prog)) (Oaag.f403.body.getD .skip) = true := by kernel_rfl
theorem c407 : okCode (V Oaag.prog) 407 (drAll (V Oaag.prog)) (Oaag.f407.body.getD .skip) = true := by kernel_rfl
theorem c411 : okCode (V Oaag.prog) 411 (drAll (V Oaag.prog)) (Oaag.f411.body.getD .skip) = true := by kernel_rfl
theorem c415 : okCode (V Oaag.prog) 415 (drAll (V Oaag.prog)) (Oaag.f415.body.getD .skip) = true := by kernel_rfl
theorem c419 : okCode (V Oaag.prog) 419 (drAll (V Oaag.prog)) (Oaag.f419.body.getD .skip) = true := by kernel_rfl
theorem c439 : okCode (V Oaag.prog) 439 (drAll (V Oaag.prog)) (Oaag.f439.body.getD .skip) = true := by kernel_rfl
end Go.Proofs.Oaag.Twn
