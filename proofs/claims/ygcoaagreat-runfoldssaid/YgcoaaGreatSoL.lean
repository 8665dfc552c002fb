/-
  so: Neg, Abs, PrintE: where they go.
-/
import Derived.Test.YgcoaaGreatSoK
import Derived.Test.YgcoaaGreatDgX
import Derived.Test.YgcoaaGreatTfX
set_option linter.unusedVariables false
set_option linter.unusedSimpArgs false
set_option maxRecDepth 20000
namespace Go.Proofs.YgcoaaGreat.NatW
open Go.RowKit
open Go.Proofs.YgcoaaGreat.Det
open Go.Proofs.YgcoaaGreat.Limbs Go.Proofs.YgcoaaGreat.Bits
attribute [local go_sem] Go.Instr.field Go.asAgg

theorem so_6 (E M : Nat) (hf : fok E M = true) (md kD kA kB imm : Int) (ok : OpOk kD kA kB imm) (text : ByteArray) (R : Nat → Int) (hR : ∀ i, i < 8 → U64 (R i)) (L : List Value) (hL : L.length ≤ 1000) : Goes 82 E M md 6 kD kA kB imm text R L := by
  obtain ⟨di, hdi, hdi8⟩ := and7 kD ok.d.1 ok.d.2
  obtain ⟨ai, hai, hai8⟩ := and7 kA ok.a.1 ok.a.2
  obtain ⟨bi, hbi, hbi8⟩ := and7 kB ok.b.1 ok.b.2
  have ua := hR ai hai8
  have ub := hR bi hbi8
  obtain ⟨_, ⟨r1, rfl, h1⟩, hD1⟩ := clean_det E M hf (R ai) ua
  obtain ⟨_, ⟨r, rfl, hr⟩, hD2⟩ := clean_det E M hf (bits .xor .u64 r1 ((2 ^ (E + M) : Nat) : Int)) (U64.bits _ _ _)
  exact ⟨up R di r, L, up_snd hf hR hr di, .inl rfl, sx_82_6 E M hf md kD kA kB imm text di ai bi hdi hdi8 hai hai8 hbi hbi8 R L r1 r (fun tb w K ho hK => hD1 w tb K ho hK) (fun tb w K ho hK => hD2 w tb K ho hK)⟩

theorem so_7 (E M : Nat) (hf : fok E M = true) (md kD kA kB imm : Int) (ok : OpOk kD kA kB imm) (text : ByteArray) (R : Nat → Int) (hR : ∀ i, i < 8 → U64 (R i)) (L : List Value) (hL : L.length ≤ 1000) : Goes 82 E M md 7 kD kA kB imm text R L := by
  obtain ⟨di, hdi, hdi8⟩ := and7 kD ok.d.1 ok.d.2
  obtain ⟨ai, hai, hai8⟩ := and7 kA ok.a.1 ok.a.2
  obtain ⟨bi, hbi, hbi8⟩ := and7 kB ok.b.1 ok.b.2
  have ua := hR ai hai8
  have ub := hR bi hbi8
  obtain ⟨_, ⟨r1, rfl, h1⟩, hD1⟩ := clean_det E M hf (R ai) ua
  obtain ⟨_, ⟨r, rfl, hr⟩, hD2⟩ := clean_det E M hf (bits .andNot .u64 r1 ((2 ^ (E + M) : Nat) : Int)) (U64.bits _ _ _)
  exact ⟨up R di r, L, up_snd hf hR hr di, .inl rfl, sx_82_7 E M hf md kD kA kB imm text di ai bi hdi hdi8 hai hai8 hbi hbi8 R L r1 r (fun tb w K ho hK => hD1 w tb K ho hK) (fun tb w K ho hK => hD2 w tb K ho hK)⟩

theorem so_23 (E M : Nat) (hf : fok E M = true) (md kD kA kB imm : Int) (ok : OpOk kD kA kB imm) (text : ByteArray) (R : Nat → Int) (hR : ∀ i, i < 8 → U64 (R i)) (L : List Value) (hL : L.length ≤ 1000) : Goes 147 E M md 23 kD kA kB imm text R L := by
  obtain ⟨di, hdi, hdi8⟩ := and7 kD ok.d.1 ok.d.2
  obtain ⟨ai, hai, hai8⟩ := and7 kA ok.a.1 ok.a.2
  obtain ⟨bi, hbi, hbi8⟩ := and7 kB ok.b.1 ok.b.2
  have ua := hR ai hai8
  have ub := hR bi hbi8
  have i1 := ok.i.1
  obtain ⟨nb, hnb⟩ : ∃ nb, (bits .and .u64 (R ai) (2 ^ (E + M)) != 0) = nb := ⟨_, rfl⟩
  obtain ⟨_, ⟨s, e, rfl, hs, he1, he2⟩, hD1⟩ := digitsE_det E M hf (R ai) (imm % 2001) ua (by omega) (by omega)
  obtain ⟨_, ⟨t, rfl, ht⟩, hD2⟩ := textE_det nb s hs e he1 he2
  obtain ⟨_, ⟨u, rfl, _⟩, hD3⟩ := orName_det E M hf (R ai) ua t ht
  exact ⟨R, L ++ [.string u], hR, .inr ⟨_, rfl⟩, sx_147_23 E M hf md kD kA kB imm text di ai bi hdi hdi8 hai hai8 hbi hbi8 R L hL u (fun tb => dig_265_23 E M hf (R ai) kD kA kB imm ok.i text nb hnb s t u e (fun tb w K ho hK => hD1 w tb K ho hK) (fun tb w K ho hK => hD2 w tb K ho hK) (fun tb w K ho hK => hD3 w tb K ho hK) tb)⟩

theorem so_24 (E M : Nat) (hf : fok E M = true) (md kD kA kB imm : Int) (ok : OpOk kD kA kB imm) (text : ByteArray) (R : Nat → Int) (hR : ∀ i, i < 8 → U64 (R i)) (L : List Value) (hL : L.length ≤ 1000) : Goes 147 E M md 24 kD kA kB imm text R L := by
  obtain ⟨di, hdi, hdi8⟩ := and7 kD ok.d.1 ok.d.2
  obtain ⟨ai, hai, hai8⟩ := and7 kA ok.a.1 ok.a.2
  obtain ⟨bi, hbi, hbi8⟩ := and7 kB ok.b.1 ok.b.2
  have ua := hR ai hai8
  have ub := hR bi hbi8
  have i1 := ok.i.1
  obtain ⟨nb, hnb⟩ : ∃ nb, (bits .and .u64 (R ai) (2 ^ (E + M)) != 0) = nb := ⟨_, rfl⟩
  obtain ⟨P, hP⟩ : ∃ P : Nat, imm % 2001 = (P : Int) := ⟨(imm % 2001).toNat, by omega⟩
  obtain ⟨_, ⟨s, rfl, hs⟩, hD1⟩ := digitsF_det E M hf (R ai) (imm % 2001) ua (by omega) (by omega)
  obtain ⟨t, ht, hD2⟩ := textF_x nb s (by omega) P (by omega)
  rw [← hP] at hD2
  obtain ⟨_, ⟨u, rfl, _⟩, hD3⟩ := orName_det E M hf (R ai) ua t ht
  exact ⟨R, L ++ [.string u], hR, .inr ⟨_, rfl⟩, sx_147_24 E M hf md kD kA kB imm text di ai bi hdi hdi8 hai hai8 hbi hbi8 R L hL u (fun tb => dig_265_24 E M hf (R ai) kD kA kB imm ok.i text nb hnb s t u (fun tb w K ho hK => hD1 w tb K ho hK) (fun tb w K ho hK => hD2 w tb K ho hK) (fun tb w K ho hK => hD3 w tb K ho hK) tb)⟩
end Go.Proofs.YgcoaaGreat.NatW
