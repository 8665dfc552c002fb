/-
  ex.Step: ReadHex, HexFlags.
-/
import Derived.Test.YgcoaaGreatExL
import Derived.Test.YgcoaaGreatRhA
import Derived.Test.YgcoaaGreatSxW
import Derived.Test.YgcoaaGreatRfX
import Derived.Test.YgcoaaGreatHmE
set_option linter.unusedVariables false
set_option linter.unusedSimpArgs false
set_option maxRecDepth 20000
namespace Go.Proofs.YgcoaaGreat.NatW
open Go.RowKit
open Go.Proofs.YgcoaaGreat.Det
attribute [local go_sem] Go.Instr.field Go.asAgg

theorem ex_26 (E M : Nat) (hf : fok E M = true) (md kD kA kB imm : Int) (hm0 : 0 ≤ md) (hm1 : md ≤ 255) (ok : OpOk kD kA kB imm) (text : ByteArray) (R : Nat → Int) (hR : ∀ i, i < 8 → U64 (R i)) (L : List Value) (hL : L.length ≤ 1000) : GoesM 133 E M md 26 kD kA kB imm text R L := by
  obtain ⟨di, hdi, hdi8⟩ := and7 kD ok.d.1 ok.d.2
  obtain ⟨ai, hai, hai8⟩ := and7 kA ok.a.1 ok.a.2
  obtain ⟨bi, hbi, hbi8⟩ := and7 kB ok.b.1 ok.b.2
  have ua := hR ai hai8
  have ub := hR bi hbi8
  have ui := ok.i
  obtain ⟨_, ⟨k, nn, dd, ee, pp, gg, rfl, k0, k4, hdd, he1, he2⟩, hS⟩ := hmscan_x text
  have hS' : ∀ tb, DFT tb 240 #[.string text] (scanV k nn dd ee pp gg) := fun tb w K ho hK => hS w tb K ho hK
  unfold scanV at hS'
  obtain ⟨r, hr, hB⟩ := roundHex_x E M hf md hm0 hm1 nn dd (by omega) ee he1 he2
  rcases (show k = 0 ∨ k = 1 ∨ k = 2 ∨ k = 3 ∨ k = 4 by omega) with rfl | rfl | rfl | rfl | rfl
  · exact ⟨up R di r, L, up_u64 hR hr di, .inl rfl, readhex_133_0 E M hf md kD kA kB imm text nn dd ee pp gg di hdi hdi8 ai bi hai hai8 hbi hbi8 R L hL hS' r (fun tb w K ho hK => hB w tb K ho hK)⟩
  · exact ⟨R, L ++ [_], hR, .inr ⟨_, rfl⟩, readhex_133_1 E M hf md kD kA kB imm text nn dd ee pp gg di hdi hdi8 ai bi hai hai8 hbi hbi8 R L hL hS'⟩
  · exact ⟨R, L ++ [_], hR, .inr ⟨_, rfl⟩, readhex_133_2 E M hf md kD kA kB imm text nn dd ee pp gg di hdi hdi8 ai bi hai hai8 hbi hbi8 R L hL hS'⟩
  · exact ⟨R, L ++ [_], hR, .inr ⟨_, rfl⟩, readhex_133_3 E M hf md kD kA kB imm text nn dd ee pp gg di hdi hdi8 ai bi hai hai8 hbi hbi8 R L hL hS'⟩
  · exact ⟨R, L ++ [_], hR, .inr ⟨_, rfl⟩, readhex_133_4 E M hf md kD kA kB imm text nn dd ee pp gg di hdi hdi8 ai bi hai hai8 hbi hbi8 R L hL hS'⟩

theorem ex_30 (E M : Nat) (hf : fok E M = true) (md kD kA kB imm : Int) (hm0 : 0 ≤ md) (hm1 : md ≤ 255) (ok : OpOk kD kA kB imm) (text : ByteArray) (R : Nat → Int) (hR : ∀ i, i < 8 → U64 (R i)) (L : List Value) (hL : L.length ≤ 1000) : GoesM 133 E M md 30 kD kA kB imm text R L := by
  obtain ⟨di, hdi, hdi8⟩ := and7 kD ok.d.1 ok.d.2
  obtain ⟨ai, hai, hai8⟩ := and7 kA ok.a.1 ok.a.2
  obtain ⟨bi, hbi, hbi8⟩ := and7 kB ok.b.1 ok.b.2
  have ua := hR ai hai8
  have ub := hR bi hbi8
  have ui := ok.i
  obtain ⟨_, ⟨k, nn, dd, ee, pp, gg, rfl, k0, k4, hdd, he1, he2⟩, hS⟩ := hmscan_x text
  have hS' : ∀ tb, DFT tb 240 #[.string text] (scanV k nn dd ee pp gg) := fun tb w K ho hK => hS w tb K ho hK
  unfold scanV at hS'
  obtain ⟨_, ⟨r, f, rfl, hr⟩, hB⟩ := roundHexFlags_x E M hf md hm0 hm1 nn dd (by omega) ee he1 he2
  obtain ⟨s0, hF⟩ := flagText_df f
  by_cases h3 : k = 3
  · exact ⟨R, L ++ [_], hR, .inr ⟨_, rfl⟩, sx_133_30 E M hf md kD kA kB imm text di ai bi hdi hdi8 hai hai8 hbi hbi8 R L hL _ (fun tb => rf_242_w E M hf md text k nn dd ee pp gg h3 tb (hS' tb))⟩
  by_cases h4 : k = 4
  · exact ⟨R, L ++ [_], hR, .inr ⟨_, rfl⟩, sx_133_30 E M hf md kD kA kB imm text di ai bi hdi hdi8 hai hai8 hbi hbi8 R L hL _ (fun tb => rf_242_b E M hf md text k nn dd ee pp gg h4 tb (hS' tb))⟩
  · exact ⟨R, L ++ [.string s0], hR, .inr ⟨_, rfl⟩, sx_133_30 E M hf md kD kA kB imm text di ai bi hdi hdi8 hai hai8 hbi hbi8 R L hL s0 (fun tb => rf_242_f E M hf md text k nn dd ee pp gg (by simpa using h3) (by simpa using h4) r f s0 (fun tb w K ho hK => hB w tb K ho hK) (fun tb w K ho hK => hF w tb K ho hK) tb (hS' tb))⟩
end Go.Proofs.YgcoaaGreat.NatW
