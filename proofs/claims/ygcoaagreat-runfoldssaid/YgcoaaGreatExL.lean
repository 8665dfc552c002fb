/-
  ex.Step: Read; handing on.
-/
import Derived.Test.YgcoaaGreatExK
import Derived.Test.YgcoaaGreatSxV
import Derived.Test.YgcoaaGreatSxT
import Derived.Test.YgcoaaGreatDmF
set_option linter.unusedVariables false
set_option linter.unusedSimpArgs false
set_option maxRecDepth 20000
namespace Go.Proofs.YgcoaaGreat.NatW
open Go.RowKit
open Go.Proofs.YgcoaaGreat.Det
attribute [local go_sem] Go.Instr.field Go.asAgg

theorem ex_read (E M : Nat) (hf : fok E M = true) (kd md kD kA kB imm : Int) (hm0 : 0 ≤ md) (hm1 : md ≤ 255) (ok : OpOk kD kA kB imm) (text : ByteArray) (R : Nat → Int) (hR : ∀ i, i < 8 → U64 (R i)) (L : List Value) (hL : L.length ≤ 1000) : GoesM 131 E M md kd kD kA kB imm text R L := by
  obtain ⟨di, hdi, hdi8⟩ := and7 kD ok.d.1 ok.d.2
  obtain ⟨_, ⟨k, nn, dd, ee, pp, gg, rfl, k0, k4, hdd, he1, he2⟩, hS⟩ := dscan_x text
  have hS' : ∀ tb, DFT tb 228 #[.string text] (scanV k nn dd ee pp gg) := fun tb w K ho hK => hS w tb K ho hK
  unfold scanV at hS'
  rcases (show k = 0 ∨ k = 1 ∨ k = 2 ∨ k = 3 ∨ k = 4 by omega) with rfl | rfl | rfl | rfl | rfl
  · obtain ⟨_, hv, hD⟩ := det58 E M hf md hm0 hm1 nn dd hdd ee he1 he2
    obtain ⟨r, rfl, hr⟩ := u64_of hv
    exact ⟨up R di r, L, up_u64 hR hr di, .inl rfl, read_131_0 E M hf md kd kD kA kB imm text nn dd ee pp gg di hdi hdi8 R L hL hS' r (fun tb w K ho hK => hD w tb K ho hK)⟩
  · obtain ⟨_, hv, hD⟩ := det85 E M hf nn
    obtain ⟨r, rfl, hr⟩ := u64_of hv
    exact ⟨up R di r, L, up_u64 hR hr di, .inl rfl, read_131_1 E M hf md kd kD kA kB imm text nn dd ee pp gg di hdi hdi8 R L hL hS' r (fun tb w K ho hK => hD w tb K ho hK)⟩
  · obtain ⟨_, hv, hD⟩ := det45 E M hf
    obtain ⟨r, rfl, hr⟩ := u64_of hv
    exact ⟨up R di r, L, up_u64 hR hr di, .inl rfl, read_131_2 E M hf md kd kD kA kB imm text nn dd ee pp gg di hdi hdi8 R L hL hS' r (fun tb w K ho hK => hD w tb K ho hK)⟩
  · exact ⟨R, L ++ [_], hR, .inr ⟨_, rfl⟩, read_131_3 E M hf md kd kD kA kB imm text nn dd ee pp gg di hdi hdi8 R L hL hS'⟩
  · exact ⟨R, L ++ [_], hR, .inr ⟨_, rfl⟩, read_131_4 E M hf md kd kD kA kB imm text nn dd ee pp gg di hdi hdi8 R L hL hS'⟩

theorem ex_13 (E M : Nat) (hf : fok E M = true) (md kD kA kB imm : Int) (hm0 : 0 ≤ md) (hm1 : md ≤ 255) (ok : OpOk kD kA kB imm) (text : ByteArray) (R : Nat → Int) (hR : ∀ i, i < 8 → U64 (R i)) (L : List Value) (hL : L.length ≤ 1000) : GoesE 81 E M md 13 kD kA kB imm text R L := by
  obtain ⟨di, hdi, hdi8⟩ := and7 kD ok.d.1 ok.d.2
  obtain ⟨ai, hai, hai8⟩ := and7 kA ok.a.1 ok.a.2
  obtain ⟨bi, hbi, hbi8⟩ := and7 kB ok.b.1 ok.b.2
  have ua := hR ai hai8
  have ub := hR bi hbi8
  have ui := ok.i
  obtain ⟨R', L', h1, h2, h3⟩ := ex_read E M hf 13 md kD kA kB imm hm0 hm1 ok text R hR L hL
  exact ⟨R', L', h1, h2, sx_81_13 E M hf md kD kA kB imm text di ai bi hdi hdi8 hai hai8 hbi hbi8 R R' L L' h3⟩

theorem ex_27 (E M : Nat) (hf : fok E M = true) (md kD kA kB imm : Int) (hm0 : 0 ≤ md) (hm1 : md ≤ 255) (ok : OpOk kD kA kB imm) (text : ByteArray) (R : Nat → Int) (hR : ∀ i, i < 8 → U64 (R i)) (L : List Value) (hL : L.length ≤ 1000) : GoesM 133 E M md 27 kD kA kB imm text R L := by
  obtain ⟨di, hdi, hdi8⟩ := and7 kD ok.d.1 ok.d.2
  obtain ⟨ai, hai, hai8⟩ := and7 kA ok.a.1 ok.a.2
  obtain ⟨bi, hbi, hbi8⟩ := and7 kB ok.b.1 ok.b.2
  have ua := hR ai hai8
  have ub := hR bi hbi8
  have ui := ok.i
  obtain ⟨R', L', h1, h2, h3⟩ := ex_read E M hf 27 md kD kA kB imm hm0 hm1 ok text R hR L hL
  exact ⟨R', L', h1, h2, sx_133_27 E M hf md kD kA kB imm text di ai bi hdi hdi8 hai hai8 hbi hbi8 R R' L L' h3⟩

theorem ex_hi (E M : Nat) (hf : fok E M = true) (kd md kD kA kB imm : Int) (h15 : 15 ≤ kd) (ok : OpOk kD kA kB imm) (text : ByteArray) (R : Nat → Int) (L : List Value) (h : GoesM 133 E M md kd kD kA kB imm text R L) : GoesE 81 E M md kd kD kA kB imm text R L := by
  obtain ⟨di, hdi, hdi8⟩ := and7 kD ok.d.1 ok.d.2
  obtain ⟨ai, hai, hai8⟩ := and7 kA ok.a.1 ok.a.2
  obtain ⟨bi, hbi, hbi8⟩ := and7 kB ok.b.1 ok.b.2
  obtain ⟨R', L', h1, h2, h3⟩ := h
  exact ⟨R', L', h1, h2, sx_81_hi E M hf kd h15 md kD kA kB imm text di ai bi hdi hdi8 hai hai8 hbi hbi8 R R' L L' h3⟩
end Go.Proofs.YgcoaaGreat.NatW
