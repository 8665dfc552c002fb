/-
  Two runs of one text: the functions of this program whose texts pass the check.
-/
import Derived.Test.YgcoaaGreatTwZ
import Derived.Tactics
set_option maxRecDepth 20000
namespace Go.Proofs.Oaag.Twn
open Go Go.Tw
theorem c27 : okCode (V Oaag.prog) 27 (drAll (V Oaag.prog)) (Oaag.f27.body.getD .skip) = true := by kernel_rfl
theorem c35 : okCode (V Oaag.prog) 35 (drAll (V Oaag.prog)) (Oaag.f35.body.getD .skip) = true := by kernel_rfl
theorem c42 : okCode (V Oaag.prog) 42 (drAll (V Oaag.prog)) (Oaag.f42.body.getD .skip) = true := by kernel_rfl
theorem c56 : okCode (V Oaag.prog) 56 (drAll (V Oaag.prog)) (Oaag.f56.body.getD .skip) = true := by kernel_rfl
theorem c61 : okCode (V Oaag.prog) 61 (drAll (V Oaag.prog)) (Oaag.f61.body.getD .skip) = true := by kernel_rfl
theorem c65 : okCode (V Oaag.prog) 65 (drAll (V Oaag.prog)) (Oaag.f65.body.getD .skip) = true := by kernel_rfl
theorem c69 : okCode (V Oaag.prog) 69 (drAll (V Oaag.prog)) (Oaag.f69.body.getD .skip) = true := by kernel_rfl
theorem c77 : okCode (V Oaag.prog) 77 (drAll (V Oaag.prog)) (Oaag.f77.body.getD .skip) = true := by kernel_rfl
theorem c88 : okCode (V Oaag.prog) 88 (drAll (V Oaag.prog)) (Oaag.f88.body.getD .skip) = true := by kernel_rfl
theorem c101 : okCode (V Oaag.prog) 101 (drAll (V Oaag.prog)) (Oaag.f101.body.getD .skip) = true := by kernel_rfl
theorem c108 : okCode (V Oaag.prog) 108 (drAll (V Oaag.prog)) (Oaag.f108.body.getD .skip) = true := by kernel_rfl
theorem c112 : okCode (V Oaag.prog) 112 (drAll (V Oaag.prog)) (Oaag.f112.body.getD .skip) = true := by kernel_rfl
theorem c116 : okCode (V Oaag.prog) 116 (drAll (V Oaag.prog)) (Oaag.f116.body.getD .skip) = true := by kernel_rfl
theorem c122 : okCode (V Oaag.prog) 122 (drAll (V Oaag.prog)) (Oaag.f122.body.getD .skip) = true := by kernel_rfl
theorem c126 : okCode (V Oaag.prog) 126 (drAll (V Oaag.prog)) (Oaag.f126.body.getD .skip) = true := by kernel_rfl
theorem c130 : okCode (V Oaag.prog) 130 (drAll (V Oaag.prog)) (Oaag.f130.body.getD .skip) = true := by kernel_rfl
theorem c136 : okCode (V Oaag.prog) 136 (drAll (V Oaag.prog)) (Oaag.f136.body.getD .skip) = true := by kernel_rfl
theorem c140 : okCode (V Oaag.prog) 140 (drAll (V Oaag.prog)) (Oaag.f140.body.getD .skip) = true := by kernel_rfl
theorem c144 : okCode (V Oaag.prog) 144 (drAll (V Oaag.prog)) (Oaag.f144.body.getD .skip) = true := by kernel_rfl
theorem c158 : okCode (V Oaag.prog) 158 (drAll (V Oaag.prog)) (Oaag.f158.body.getD .skip) = true := by kernel_rfl
theorem c163 : okCode (V Oaag.prog) 163 (drAll (V Oaag.prog)) (Oaag.f163.body.getD .skip) = true := by kernel_rfl
theorem c168 : okCode (V Oaag.prog) 168 (drAll (V Oaag.prog)) (Oaag.f168.body.getD .skip) = true := by kernel_rfl
theorem c177 : okCode (V Oaag.prog) 177 (drAll (V Oaag.prog)) (Oaag.f177.body.getD .skip) = true := by kernel_rfl
theorem c181 : okCode (V Oaag.prog) 181 (drAll (V Oaag.prog)) (Oaag.f181.body.getD .skip) = true := by kernel_rfl
theorem c185 : okCode (V Oaag.prog) 185 (drAll (V Oaag.prog)) (Oaag.f185.body.getD .skip) = true := by kernel_rfl
theorem c189 : okCode (V Oaag.prog) 189 (drAll (V Oaag.prog)) (Oaag.f189.body.getD .skip) = true := by kernel_rfl
theorem c194 : okCode (V Oaag.prog) 194 (drAll (V Oaag.prog)) (Oaag.f194.body.getD .skip) = true := by kernel_rfl
theorem c202 : okCode (V Oaag.prog) 202 (drAll (V Oaag.prog)) (Oaag.f202.body.getD .skip) = true := by kernel_rfl
theorem c206 : okCode (V Oaag.prog) 206 (drAll (V Oaag.prog)) (Oaag.f206.body.getD .skip) = true := by kernel_rfl
theorem c210 : okCode (V Oaag.prog) 210 (drAll (V Oaag.prog)) (Oaag.f210.body.getD .skip) = true := by kernel_rfl
theorem c214 : okCode (V Oaag.prog) 214 (drAll (V Oaag.prog)) (Oaag.f214.body.getD .skip) = true := by kernel_rfl
theorem c220 : okCode (V Oaag.prog) 220 (drAll (V Oaag.prog)) (Oaag.f220.body.getD .skip) = true := by kernel_rfl
theorem c224 : okCode (V Oaag.prog) 224 (drAll (V Oaag.prog)) (Oaag.f224.body.getD .skip) = true := by kernel_rfl
theorem c228 : okCode (V Oaag.prog) 228 (drAll (V Oaag.prog)) (Oaag.f228.body.getD .skip) = true := by kernel_rfl
theorem c232 : okCode (V Oaag.prog) 232 (drAll (V Oaag.prog)) (Oaag.f232.body.getD .skip) = true := by kernel_rfl
theorem c236 : okCode (V Oaag.prog) 236 (drAll (V Oaag.prog)) (Oaag.f236.body.getD .skip) = true := by kernel_rfl
theorem c241 : okCode (V Oaag.prog) 241 (drAll (V Oaag.prog)) (Oaag.f241.body.getD .skip) = true := by kernel_rfl
theorem c245 : okCode (V Oaag.prog) 245 (drAll (V Oaag.prog)) (Oaag.f245.body.getD .skip) = true := by kernel_rfl
theorem c249 : okCode (V Oaag.prog) 249 (drAll (V Oaag.prog)) (Oaag.f249.body.getD .skip) = true := by kernel_rfl
theorem c253 : okCode (V Oaag.prog) 253 (drAll (V Oaag.prog)) (Oaag.f253.body.getD .skip) = true := by kernel_rfl
theorem c259 : okCode (V Oaag.prog) 259 (drAll (V Oaag.prog)) (Oaag.f259.body.getD .skip) = true := by kernel_rfl
theorem c263 : okCode (V Oaag.prog) 263 (drAll (V Oaag.prog)) (Oaag.f263.body.getD .skip) = true := by kernel_rfl
theorem c272 : okCode (V Oaag.prog) 272 (drAll (V Oaag.prog)) (Oaag.f272.body.getD .skip) = true := by kernel_rfl
theorem c302 : okCode (V Oaag.prog) 302 (drAll (V Oaag.prog)) (Oaag.f302.body.getD .skip) = true := by kernel_rfl
theorem c306 : okCode (V Oaag.prog) 306 (drAll (V Oaag.prog)) (Oaag.f306.body.getD .skip) = true := by kernel_rfl
theorem c310 : okCode (V Oaag.prog) 310 (drAll (V Oaag.prog)) (Oaag.f310.body.getD .skip) = true := by kernel_rfl
theorem c314 : okCode (V Oaag.prog) 314 (drAll (V Oaag.prog)) (Oaag.f314.body.getD .skip) = true := by kernel_rfl
theorem c318 : okCode (V Oaag.prog) 318 (drAll (V Oaag.prog)) (Oaag.f318.body.getD .skip) = true := by kernel_rfl
theorem c322 : okCode (V Oaag.prog) 322 (drAll (V Oaag.prog)) (Oaag.f322.body.getD .skip) = true := by kernel_rfl
theorem c327 : okCode (V Oaag.prog) 327 (drAll (V Oaag.prog)) (Oaag.f327.body.getD .skip) = true := by kernel_rfl
theorem c331 : okCode (V Oaag.prog) 331 (drAll (V Oaag.prog)) (Oaag.f331.body.getD .skip) = true := by kernel_rfl
theorem c335 : okCode (V Oaag.prog) 335 (drAll (V Oaag.prog)) (Oaag.f335.body.getD .skip) = true := by kernel_rfl
theorem c339 : okCode (V Oaag.prog) 339 (drAll (V Oaag.prog)) (Oaag.f339.body.getD .skip) = true := by kernel_rfl
theorem c343 : okCode (V Oaag.prog) 343 (drAll (V Oaag.prog)) (Oaag.f343.body.getD .skip) = true := by kernel_rfl
theorem c349 : okCode (V Oaag.prog) 349 (drAll (V Oaag.prog)) (Oaag.f349.body.getD .skip) = true := by kernel_rfl
theorem c353 : okCode (V Oaag.prog) 353 (drAll (V Oaag.prog)) (Oaag.f353.body.getD .skip) = true := by kernel_rfl
theorem c357 : okCode (V Oaag.prog) 357 (drAll (V Oaag.prog)) (Oaag.f357.body.getD .skip) = true := by kernel_rfl
theorem c361 : okCode (V Oaag.prog) 361 (drAll (V Oaag.prog)) (Oaag.f361.body.getD .skip) = true := by kernel_rfl
theorem c365 : okCode (V Oaag.prog) 365 (drAll (V Oaag.prog)) (Oaag.f365.body.getD .skip) = true := by kernel_rfl
theorem c370 : okCode (V Oaag.prog) 370 (drAll (V Oaag.prog)) (Oaag.f370.body.getD .skip) = true := by kernel_rfl
theorem c374 : okCode (V Oaag.prog) 374 (drAll (V Oaag.prog)) (Oaag.f374.body.getD .skip) = true := by kernel_rfl
theorem c378 : okCode (V Oaag.prog) 378 (drAll (V Oaag.prog)) (Oaag.f378.body.getD .skip) = true := by kernel_rfl
theorem c400 : okCode (V Oaag.prog) 400 (drAll (V Oaag.prog)) (Oaag.f400.body.getD .skip) = true := by kernel_rfl
theorem c404 : okCode (V Oaag.prog) 404 (drAll (V Oaag.prog)) (Oaag.f404.body.getD .skip) = true := by kernel_rfl
theorem c408 : okCode (V Oaag.prog) 408 (drAll (V Oaag.prog)) (Oaag.f408.body.getD .skip) = true := by kernel_rfl
theorem c412 : okCode (V Oaag.prog) 412 (drAll (V Oaag.prog)) (Oaag.f412.body.getD .skip) = true := by kernel_rfl
theorem c416 : okCode (V Oaag.prog) 416 (drAll (V Oaag.prog)) (Oaag.f416.body.getD .skip) = true := by kernel_rfl
theorem c420 : okCode (V Oaag.prog) 420 (drAll (V Oaag.prog)) (Oaag.f420.body.getD .skip) = true := by kernel_rfl
end Go.Proofs.Oaag.Twn
