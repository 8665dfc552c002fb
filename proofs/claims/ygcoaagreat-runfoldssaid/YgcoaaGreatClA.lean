/-
  Package clinger: the powers of ten.
-/
import Derived.Test.YgcoaaGreatFlV
set_option linter.unusedVariables false
set_option maxRecDepth 20000
namespace Go.Proofs.YgcoaaGreat.NatW
open Go.RowKit
attribute [local go_sem] Go.Instr.field Go.asAgg ext421 ext345 ext423 ext346
theorem cbits64 (r : Nat) : NRet 198 #[.float .f64 r] (.int .u64 r) := by
  intro w K hK
  have HK := hide hK; clear hK
  have S := Same.refl w
  go_enter Oaag.func198, Oaag.ntmps198
  go_wp2_with (first | fail)
  exact unhide HK _ S

theorem cbits32 (r : Nat) : NRet 200 #[.float .f32 r] (.int .u32 r) := by
  intro w K hK
  have HK := hide hK; clear hK
  have S := Same.refl w
  go_enter Oaag.func200, Oaag.ntmps200
  go_wp2_with (first | fail)
  exact unhide HK _ S

set_option maxHeartbeats 4000000 in
theorem ten64_ex (q : Int) : ∃ c m e, c < 2 ^ FloatKind.f64.format.width ∧ FloatKind.f64.format.read c = .number false m e ∧ m ≠ 0 ∧ NRet 199 #[.int .i16 q] (.float .f64 c) := by
  by_cases h1 : q = 1
  · subst h1
    refine ⟨4621819117588971520, 5629499534213120, -49, by decide, by decide, by decide, ?_⟩
    intro w K hK
    have HK := hide hK; clear hK
    have S := Same.refl w
    go_enter Oaag.func199, Oaag.ntmps199
    go_wp2_with (first | fail)
    exact unhide HK _ S
  have e1 : (q == 1) = false := by simpa using h1
  by_cases h2 : q = 2
  · subst h2
    refine ⟨4636737291354636288, 7036874417766400, -46, by decide, by decide, by decide, ?_⟩
    intro w K hK
    have HK := hide hK; clear hK
    have S := Same.refl w
    go_enter Oaag.func199, Oaag.ntmps199
    go_wp2_with (first | fail)
    exact unhide HK _ S
  have e2 : (q == 2) = false := by simpa using h2
  by_cases h3 : q = 3
  · subst h3
    refine ⟨4652007308841189376, 8796093022208000, -43, by decide, by decide, by decide, ?_⟩
    intro w K hK
    have HK := hide hK; clear hK
    have S := Same.refl w
    go_enter Oaag.func199, Oaag.ntmps199
    go_wp2_with (first | fail)
    exact unhide HK _ S
  have e3 : (q == 3) = false := by simpa using h3
  by_cases h4 : q = 4
  · subst h4
    refine ⟨4666723172467343360, 5497558138880000, -39, by decide, by decide, by decide, ?_⟩
    intro w K hK
    have HK := hide hK; clear hK
    have S := Same.refl w
    go_enter Oaag.func199, Oaag.ntmps199
    go_wp2_with (first | fail)
    exact unhide HK _ S
  have e4 : (q == 4) = false := by simpa using h4
  by_cases h5 : q = 5
  · subst h5
    refine ⟨4681608360884174848, 6871947673600000, -36, by decide, by decide, by decide, ?_⟩
    intro w K hK
    have HK := hide hK; clear hK
    have S := Same.refl w
    go_enter Oaag.func199, Oaag.ntmps199
    go_wp2_with (first | fail)
    exact unhide HK _ S
  have e5 : (q == 5) = false := by simpa using h5
  by_cases h6 : q = 6
  · subst h6
    refine ⟨4696837146684686336, 8589934592000000, -33, by decide, by decide, by decide, ?_⟩
    intro w K hK
    have HK := hide hK; clear hK
    have S := Same.refl w
    go_enter Oaag.func199, Oaag.ntmps199
    go_wp2_with (first | fail)
    exact unhide HK _ S
  have e6 : (q == 6) = false := by simpa using h6
  by_cases h7 : q = 7
  · subst h7
    refine ⟨4711630319722168320, 5368709120000000, -29, by decide, by decide, by decide, ?_⟩
    intro w K hK
    have HK := hide hK; clear hK
    have S := Same.refl w
    go_enter Oaag.func199, Oaag.ntmps199
    go_wp2_with (first | fail)
    exact unhide HK _ S
  have e7 : (q == 7) = false := by simpa using h7
  by_cases h8 : q = 8
  · subst h8
    refine ⟨4726483295884279808, 6710886400000000, -26, by decide, by decide, by decide, ?_⟩
    intro w K hK
    have HK := hide hK; clear hK
    have S := Same.refl w
    go_enter Oaag.func199, Oaag.ntmps199
    go_wp2_with (first | fail)
    exact unhide HK _ S
  have e8 : (q == 8) = false := by simpa using h8
  by_cases h9 : q = 9
  · subst h9
    refine ⟨4741671816366391296, 8388608000000000, -23, by decide, by decide, by decide, ?_⟩
    intro w K hK
    have HK := hide hK; clear hK
    have S := Same.refl w
    go_enter Oaag.func199, Oaag.ntmps199
    go_wp2_with (first | fail)
    exact unhide HK _ S
  have e9 : (q == 9) = false := by simpa using h9
  by_cases h10 : q = 10
  · subst h10
    refine ⟨4756540486875873280, 5242880000000000, -19, by decide, by decide, by decide, ?_⟩
    intro w K hK
    have HK := hide hK; clear hK
    have S := Same.refl w
    go_enter Oaag.func199, Oaag.ntmps199
    go_wp2_with (first | fail)
    exact unhide HK _ S
  have e10 : (q == 10) = false := by simpa using h10
  by_cases h11 : q = 11
  · subst h11
    refine ⟨4771362005757984768, 6553600000000000, -16, by decide, by decide, by decide, ?_⟩
    intro w K hK
    have HK := hide hK; clear hK
    have S := Same.refl w
    go_enter Oaag.func199, Oaag.ntmps199
    go_wp2_with (first | fail)
    exact unhide HK _ S
  have e11 : (q == 11) = false := by simpa using h11
  by_cases h12 : q = 12
  · subst h12
    refine ⟨4786511204640096256, 8192000000000000, -13, by decide, by decide, by decide, ?_⟩
    intro w K hK
    have HK := hide hK; clear hK
    have S := Same.refl w
    go_enter Oaag.func199, Oaag.ntmps199
    go_wp2_with (first | fail)
    exact unhide HK _ S
  have e12 : (q == 12) = false := by simpa using h12
  by_cases h13 : q = 13
  · subst h13
    refine ⟨4801453603149578240, 5120000000000000, -9, by decide, by decide, by decide, ?_⟩
    intro w K hK
    have HK := hide hK; clear hK
    have S := Same.refl w
    go_enter Oaag.func199, Oaag.ntmps199
    go_wp2_with (first | fail)
    exact unhide HK _ S
  have e13 : (q == 13) = false := by simpa using h13
  by_cases h14 : q = 14
  · subst h14
    refine ⟨4816244402031689728, 6400000000000000, -6, by decide, by decide, by decide, ?_⟩
    intro w K hK
    have HK := hide hK; clear hK
    have S := Same.refl w
    go_enter Oaag.func199, Oaag.ntmps199
    go_wp2_with (first | fail)
    exact unhide HK _ S
  have e14 : (q == 14) = false := by simpa using h14
  by_cases h15 : q = 15
  · subst h15
    refine ⟨4831355200913801216, 8000000000000000, -3, by decide, by decide, by decide, ?_⟩
    intro w K hK
    have HK := hide hK; clear hK
    have S := Same.refl w
    go_enter Oaag.func199, Oaag.ntmps199
    go_wp2_with (first | fail)
    exact unhide HK _ S
  have e15 : (q == 15) = false := by simpa using h15
  by_cases h16 : q = 16
  · subst h16
    refine ⟨4846369599423283200, 5000000000000000, 1, by decide, by decide, by decide, ?_⟩
    intro w K hK
    have HK := hide hK; clear hK
    have S := Same.refl w
    go_enter Oaag.func199, Oaag.ntmps199
    go_wp2_with (first | fail)
    exact unhide HK _ S
  have e16 : (q == 16) = false := by simpa using h16
  by_cases h17 : q = 17
  · subst h17
    refine ⟨4861130398305394688, 6250000000000000, 4, by decide, by decide, by decide, ?_⟩
    intro w K hK
    have HK := hide hK; clear hK
    have S := Same.refl w
    go_enter Oaag.func199, Oaag.ntmps199
    go_wp2_with (first | fail)
    exact unhide HK _ S
  have e17 : (q == 17) = false := by simpa using h17
  by_cases h18 : q = 18
  · subst h18
    refine ⟨4876203697187506176, 7812500000000000, 7, by decide, by decide, by decide, ?_⟩
    intro w K hK
    have HK := hide hK; clear hK
    have S := Same.refl w
    go_enter Oaag.func199, Oaag.ntmps199
    go_wp2_with (first | fail)
    exact unhide HK _ S
  have e18 : (q == 18) = false := by simpa using h18
  by_cases h19 : q = 19
  · subst h19
    refine ⟨4891288408196988160, 4882812500000000, 11, by decide, by decide, by decide, ?_⟩
    intro w K hK
    have HK := hide hK; clear hK
    have S := Same.refl w
    go_enter Oaag.func199, Oaag.ntmps199
    go_wp2_with (first | fail)
    exact unhide HK _ S
  have e19 : (q == 19) = false := by simpa using h19
  by_cases h20 : q = 20
  · subst h20
    refine ⟨4906019910204099648, 6103515625000000, 14, by decide, by decide, by decide, ?_⟩
    intro w K hK
    have HK := hide hK; clear hK
    have S := Same.refl w
    go_enter Oaag.func199, Oaag.ntmps199
    go_wp2_with (first | fail)
    exact unhide HK _ S
  have e20 : (q == 20) = false := by simpa using h20
  by_cases h21 : q = 21
  · subst h21
    refine ⟨4921056587992461136, 7629394531250000, 17, by decide, by decide, by decide, ?_⟩
    intro w K hK
    have HK := hide hK; clear hK
    have S := Same.refl w
    go_enter Oaag.func199, Oaag.ntmps199
    go_wp2_with (first | fail)
    exact unhide HK _ S
  have e21 : (q == 21) = false := by simpa using h21
  by_cases h22 : q = 22
  · subst h22
    refine ⟨4936209963552724370, 4768371582031250, 21, by decide, by decide, by decide, ?_⟩
    intro w K hK
    have HK := hide hK; clear hK
    have S := Same.refl w
    go_enter Oaag.func199, Oaag.ntmps199
    go_wp2_with (first | fail)
    exact unhide HK _ S
  have e22 : (q == 22) = false := by simpa using h22
  clear h1 h2 h3 h4 h5 h6 h7 h8 h9 h10 h11 h12 h13 h14 h15 h16 h17 h18 h19 h20 h21 h22
  refine ⟨4607182418800017408, 4503599627370496, -52, by decide, by decide, by decide, ?_⟩
  intro w K hK
  have HK := hide hK; clear hK
  have S := Same.refl w
  go_enter Oaag.func199, Oaag.ntmps199
  go_wp2_with (first | fail)
  exact unhide HK _ S

set_option maxHeartbeats 4000000 in
theorem ten32_ex (q : Int) : ∃ c m e, c < 2 ^ FloatKind.f32.format.width ∧ FloatKind.f32.format.read c = .number false m e ∧ m ≠ 0 ∧ NRet 201 #[.int .i16 q] (.float .f32 c) := by
  by_cases h1 : q = 1
  · subst h1
    refine ⟨1092616192, 10485760, -20, by decide, by decide, by decide, ?_⟩
    intro w K hK
    have HK := hide hK; clear hK
    have S := Same.refl w
    go_enter Oaag.func201, Oaag.ntmps201
    go_wp2_with (first | fail)
    exact unhide HK _ S
  have e1 : (q == 1) = false := by simpa using h1
  by_cases h2 : q = 2
  · subst h2
    refine ⟨1120403456, 13107200, -17, by decide, by decide, by decide, ?_⟩
    intro w K hK
    have HK := hide hK; clear hK
    have S := Same.refl w
    go_enter Oaag.func201, Oaag.ntmps201
    go_wp2_with (first | fail)
    exact unhide HK _ S
  have e2 : (q == 2) = false := by simpa using h2
  by_cases h3 : q = 3
  · subst h3
    refine ⟨1148846080, 16384000, -14, by decide, by decide, by decide, ?_⟩
    intro w K hK
    have HK := hide hK; clear hK
    have S := Same.refl w
    go_enter Oaag.func201, Oaag.ntmps201
    go_wp2_with (first | fail)
    exact unhide HK _ S
  have e3 : (q == 3) = false := by simpa using h3
  by_cases h4 : q = 4
  · subst h4
    refine ⟨1176256512, 10240000, -10, by decide, by decide, by decide, ?_⟩
    intro w K hK
    have HK := hide hK; clear hK
    have S := Same.refl w
    go_enter Oaag.func201, Oaag.ntmps201
    go_wp2_with (first | fail)
    exact unhide HK _ S
  have e4 : (q == 4) = false := by simpa using h4
  by_cases h5 : q = 5
  · subst h5
    refine ⟨1203982336, 12800000, -7, by decide, by decide, by decide, ?_⟩
    intro w K hK
    have HK := hide hK; clear hK
    have S := Same.refl w
    go_enter Oaag.func201, Oaag.ntmps201
    go_wp2_with (first | fail)
    exact unhide HK _ S
  have e5 : (q == 5) = false := by simpa using h5
  by_cases h6 : q = 6
  · subst h6
    refine ⟨1232348160, 16000000, -4, by decide, by decide, by decide, ?_⟩
    intro w K hK
    have HK := hide hK; clear hK
    have S := Same.refl w
    go_enter Oaag.func201, Oaag.ntmps201
    go_wp2_with (first | fail)
    exact unhide HK _ S
  have e6 : (q == 6) = false := by simpa using h6
  by_cases h7 : q = 7
  · subst h7
    refine ⟨1259902592, 10000000, 0, by decide, by decide, by decide, ?_⟩
    intro w K hK
    have HK := hide hK; clear hK
    have S := Same.refl w
    go_enter Oaag.func201, Oaag.ntmps201
    go_wp2_with (first | fail)
    exact unhide HK _ S
  have e7 : (q == 7) = false := by simpa using h7
  by_cases h8 : q = 8
  · subst h8
    refine ⟨1287568416, 12500000, 3, by decide, by decide, by decide, ?_⟩
    intro w K hK
    have HK := hide hK; clear hK
    have S := Same.refl w
    go_enter Oaag.func201, Oaag.ntmps201
    go_wp2_with (first | fail)
    exact unhide HK _ S
  have e8 : (q == 8) = false := by simpa using h8
  by_cases h9 : q = 9
  · subst h9
    refine ⟨1315859240, 15625000, 6, by decide, by decide, by decide, ?_⟩
    intro w K hK
    have HK := hide hK; clear hK
    have S := Same.refl w
    go_enter Oaag.func201, Oaag.ntmps201
    go_wp2_with (first | fail)
    exact unhide HK _ S
  have e9 : (q == 9) = false := by simpa using h9
  by_cases h10 : q = 10
  · subst h10
    refine ⟨1343554297, 9765625, 10, by decide, by decide, by decide, ?_⟩
    intro w K hK
    have HK := hide hK; clear hK
    have S := Same.refl w
    go_enter Oaag.func201, Oaag.ntmps201
    go_wp2_with (first | fail)
    exact unhide HK _ S
  have e10 : (q == 10) = false := by simpa using h10
  clear h1 h2 h3 h4 h5 h6 h7 h8 h9 h10
  refine ⟨1065353216, 8388608, -23, by decide, by decide, by decide, ?_⟩
  intro w K hK
  have HK := hide hK; clear hK
  have S := Same.refl w
  go_enter Oaag.func201, Oaag.ntmps201
  go_wp2_with (first | fail)
  exact unhide HK _ S

end Go.Proofs.YgcoaaGreat.NatW
