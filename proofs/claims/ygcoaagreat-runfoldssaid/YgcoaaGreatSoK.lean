/-
  so.more: where each kind goes.
-/
import Derived.Test.YgcoaaGreatSoJ
import Derived.Test.YgcoaaGreatSxE
import Derived.Test.YgcoaaGreatSxI
import Derived.Test.YgcoaaGreatSxK
import Derived.Test.YgcoaaGreatSxM
import Derived.Test.YgcoaaGreatSxO
import Derived.Test.YgcoaaGreatSxR
set_option linter.unusedVariables false
set_option linter.unusedSimpArgs false
set_option maxRecDepth 20000
namespace Go.Proofs.YgcoaaGreat.NatW
open Go.RowKit
open Go.Proofs.YgcoaaGreat.Det
open Go.Proofs.YgcoaaGreat.Limbs Go.Proofs.YgcoaaGreat.Bits
attribute [local go_sem] Go.Instr.field Go.asAgg

theorem so_16 (E M : Nat) (hf : fok E M = true) (md kD kA kB imm : Int) (ok : OpOk kD kA kB imm) (text : ByteArray) (R : Nat → Int) (hR : ∀ i, i < 8 → U64 (R i)) (L : List Value) (hL : L.length ≤ 1000) : Goes 147 E M md 16 kD kA kB imm text R L := by
  obtain ⟨di, hdi, hdi8⟩ := and7 kD ok.d.1 ok.d.2
  obtain ⟨ai, hai, hai8⟩ := and7 kA ok.a.1 ok.a.2
  obtain ⟨bi, hbi, hbi8⟩ := and7 kB ok.b.1 ok.b.2
  have ua := hR ai hai8
  have ub := hR bi hbi8
  obtain ⟨_, ⟨r, rfl, hr⟩, hD⟩ := rem_det E M hf (R ai) (R bi) ua ub
  exact ⟨up R di r, L, up_snd hf hR hr di, .inl rfl, sx_147_16 E M hf md kD kA kB imm text di ai bi hdi hdi8 hai hai8 hbi hbi8 R L r (fun tb w K ho hK => hD w tb K ho hK)⟩

theorem so_17 (E M : Nat) (hf : fok E M = true) (md kD kA kB imm : Int) (ok : OpOk kD kA kB imm) (text : ByteArray) (R : Nat → Int) (hR : ∀ i, i < 8 → U64 (R i)) (L : List Value) (hL : L.length ≤ 1000) : Goes 147 E M md 17 kD kA kB imm text R L := by
  obtain ⟨di, hdi, hdi8⟩ := and7 kD ok.d.1 ok.d.2
  obtain ⟨ai, hai, hai8⟩ := and7 kA ok.a.1 ok.a.2
  obtain ⟨bi, hbi, hbi8⟩ := and7 kB ok.b.1 ok.b.2
  have ua := hR ai hai8
  have ub := hR bi hbi8
  obtain ⟨_, ⟨r, rfl, hr⟩, hD⟩ := roundInt_det E M hf (IntKind.u8.wrap imm) (R ai) ua
  exact ⟨up R di r, L, up_snd hf hR hr di, .inl rfl, sx_147_17 E M hf md kD kA kB imm text di ai bi hdi hdi8 hai hai8 hbi hbi8 R L r (fun tb w K ho hK => hD w tb K ho hK)⟩

theorem so_18 (E M : Nat) (hf : fok E M = true) (md kD kA kB imm : Int) (ok : OpOk kD kA kB imm) (text : ByteArray) (R : Nat → Int) (hR : ∀ i, i < 8 → U64 (R i)) (L : List Value) (hL : L.length ≤ 1000) : Goes 147 E M md 18 kD kA kB imm text R L := by
  obtain ⟨di, hdi, hdi8⟩ := and7 kD ok.d.1 ok.d.2
  obtain ⟨ai, hai, hai8⟩ := and7 kA ok.a.1 ok.a.2
  obtain ⟨bi, hbi, hbi8⟩ := and7 kB ok.b.1 ok.b.2
  have ua := hR ai hai8
  have ub := hR bi hbi8
  obtain ⟨_, ⟨r, rfl, hr⟩, hD⟩ := min_det E M hf (R ai) (R bi) ua ub
  exact ⟨up R di r, L, up_snd hf hR hr di, .inl rfl, sx_147_18 E M hf md kD kA kB imm text di ai bi hdi hdi8 hai hai8 hbi hbi8 R L r (fun tb w K ho hK => hD w tb K ho hK)⟩

theorem so_19 (E M : Nat) (hf : fok E M = true) (md kD kA kB imm : Int) (ok : OpOk kD kA kB imm) (text : ByteArray) (R : Nat → Int) (hR : ∀ i, i < 8 → U64 (R i)) (L : List Value) (hL : L.length ≤ 1000) : Goes 147 E M md 19 kD kA kB imm text R L := by
  obtain ⟨di, hdi, hdi8⟩ := and7 kD ok.d.1 ok.d.2
  obtain ⟨ai, hai, hai8⟩ := and7 kA ok.a.1 ok.a.2
  obtain ⟨bi, hbi, hbi8⟩ := and7 kB ok.b.1 ok.b.2
  have ua := hR ai hai8
  have ub := hR bi hbi8
  obtain ⟨_, ⟨r, rfl, hr⟩, hD⟩ := max_det E M hf (R ai) (R bi) ua ub
  exact ⟨up R di r, L, up_snd hf hR hr di, .inl rfl, sx_147_19 E M hf md kD kA kB imm text di ai bi hdi hdi8 hai hai8 hbi hbi8 R L r (fun tb w K ho hK => hD w tb K ho hK)⟩

theorem so_20 (E M : Nat) (hf : fok E M = true) (md kD kA kB imm : Int) (ok : OpOk kD kA kB imm) (text : ByteArray) (R : Nat → Int) (hR : ∀ i, i < 8 → U64 (R i)) (L : List Value) (hL : L.length ≤ 1000) : Goes 147 E M md 20 kD kA kB imm text R L := by
  obtain ⟨di, hdi, hdi8⟩ := and7 kD ok.d.1 ok.d.2
  obtain ⟨ai, hai, hai8⟩ := and7 kA ok.a.1 ok.a.2
  obtain ⟨bi, hbi, hbi8⟩ := and7 kB ok.b.1 ok.b.2
  have ua := hR ai hai8
  have ub := hR bi hbi8
  obtain ⟨_, ⟨r, rfl, hr⟩, hD⟩ := nextUp_det E M hf (R ai) ua
  exact ⟨up R di r, L, up_snd hf hR hr di, .inl rfl, sx_147_20 E M hf md kD kA kB imm text di ai bi hdi hdi8 hai hai8 hbi hbi8 R L r (fun tb w K ho hK => hD w tb K ho hK)⟩

theorem so_21 (E M : Nat) (hf : fok E M = true) (md kD kA kB imm : Int) (ok : OpOk kD kA kB imm) (text : ByteArray) (R : Nat → Int) (hR : ∀ i, i < 8 → U64 (R i)) (L : List Value) (hL : L.length ≤ 1000) : Goes 147 E M md 21 kD kA kB imm text R L := by
  obtain ⟨di, hdi, hdi8⟩ := and7 kD ok.d.1 ok.d.2
  obtain ⟨ai, hai, hai8⟩ := and7 kA ok.a.1 ok.a.2
  obtain ⟨bi, hbi, hbi8⟩ := and7 kB ok.b.1 ok.b.2
  have ua := hR ai hai8
  have ub := hR bi hbi8
  obtain ⟨_, ⟨r, rfl, hr⟩, hD⟩ := nextDown_det E M hf (R ai) ua
  exact ⟨up R di r, L, up_snd hf hR hr di, .inl rfl, sx_147_21 E M hf md kD kA kB imm text di ai bi hdi hdi8 hai hai8 hbi hbi8 R L r (fun tb w K ho hK => hD w tb K ho hK)⟩

theorem so_31 (E M : Nat) (hf : fok E M = true) (md kD kA kB imm : Int) (ok : OpOk kD kA kB imm) (text : ByteArray) (R : Nat → Int) (hR : ∀ i, i < 8 → U64 (R i)) (L : List Value) (hL : L.length ≤ 1000) : Goes 147 E M md 31 kD kA kB imm text R L := by
  obtain ⟨di, hdi, hdi8⟩ := and7 kD ok.d.1 ok.d.2
  obtain ⟨ai, hai, hai8⟩ := and7 kA ok.a.1 ok.a.2
  obtain ⟨bi, hbi, hbi8⟩ := and7 kB ok.b.1 ok.b.2
  have ua := hR ai hai8
  have ub := hR bi hbi8
  obtain ⟨_, ⟨r, rfl, hr⟩, hD⟩ := scaleB_det E M hf md (R ai) (wrap64 imm) ua
  exact ⟨up R di r, L, up_snd hf hR hr di, .inl rfl, sx_147_31 E M hf md kD kA kB imm text di ai bi hdi hdi8 hai hai8 hbi hbi8 R L r (fun tb w K ho hK => hD w tb K ho hK)⟩

theorem so_15 (E M : Nat) (hf : fok E M = true) (md kD kA kB imm : Int) (ok : OpOk kD kA kB imm) (text : ByteArray) (R : Nat → Int) (hR : ∀ i, i < 8 → U64 (R i)) (L : List Value) (hL : L.length ≤ 1000) : Goes 147 E M md 15 kD kA kB imm text R L := by
  obtain ⟨di, hdi, hdi8⟩ := and7 kD ok.d.1 ok.d.2
  obtain ⟨ai, hai, hai8⟩ := and7 kA ok.a.1 ok.a.2
  obtain ⟨bi, hbi, hbi8⟩ := and7 kB ok.b.1 ok.b.2
  have ua := hR ai hai8
  have ub := hR bi hbi8
  obtain ⟨ci, hci, hci8⟩ := and7u imm ok.i
  obtain ⟨_, ⟨r, rfl, hr⟩, hD⟩ := fma_det E M hf md (R ai) (R bi) (R ci) ua ub (hR ci hci8)
  exact ⟨up R di r, L, up_snd hf hR hr di, .inl rfl, sx_147_15 E M hf md kD kA kB imm text di ai bi hdi hdi8 hai hai8 hbi hbi8 R L hL ci hci hci8 r (fun tb w K ho hK => hD w tb K ho hK)⟩
theorem so_22 (E M : Nat) (hf : fok E M = true) (md kD kA kB imm : Int) (ok : OpOk kD kA kB imm) (text : ByteArray) (R : Nat → Int) (hR : ∀ i, i < 8 → U64 (R i)) (L : List Value) (hL : L.length ≤ 1000) : Goes 147 E M md 22 kD kA kB imm text R L := by
  obtain ⟨di, hdi, hdi8⟩ := and7 kD ok.d.1 ok.d.2
  obtain ⟨ai, hai, hai8⟩ := and7 kA ok.a.1 ok.a.2
  obtain ⟨bi, hbi, hbi8⟩ := and7 kB ok.b.1 ok.b.2
  have ua := hR ai hai8
  have ub := hR bi hbi8
  obtain ⟨ci, hci, hci8⟩ := and7u (imm / 8) ⟨by have := ok.i.1; omega, by have := ok.i.1; have := ok.i.2; omega⟩
  obtain ⟨_, ⟨r1, rfl, h1⟩, hD1⟩ := clean_det E M hf (R ai) ua
  obtain ⟨_, ⟨r2, rfl, h2⟩, hD2⟩ := clean_det E M hf (R bi) ub
  obtain ⟨_, ⟨r3, rfl, h3⟩, hD3⟩ := clean_det E M hf (R ci) (hR ci hci8)
  obtain ⟨_, ⟨f, rfl⟩, hD4⟩ := flags_det E M hf md imm r1 r2 r3 (Snd.u64 hf h1) (Snd.u64 hf h2) (Snd.u64 hf h3)
  obtain ⟨_, ⟨s, rfl, _⟩, hD5⟩ := flagText_det f
  exact ⟨R, L ++ [.string s], hR, .inr ⟨_, rfl⟩, sx_147_22 E M hf md kD kA kB imm text di ai bi hdi hdi8 hai hai8 hbi hbi8 R L hL ci hci hci8 r1 r2 r3 f s (fun tb w K ho hK => hD1 w tb K ho hK) (fun tb w K ho hK => hD2 w tb K ho hK) (fun tb w K ho hK => hD3 w tb K ho hK) (fun tb w K ho hK => hD4 w tb K ho hK) (fun tb w K ho hK => hD5 w tb K ho hK)⟩
theorem so_25 (E M : Nat) (hf : fok E M = true) (md kD kA kB imm : Int) (ok : OpOk kD kA kB imm) (text : ByteArray) (R : Nat → Int) (hR : ∀ i, i < 8 → U64 (R i)) (L : List Value) (hL : L.length ≤ 1000) : Goes 147 E M md 25 kD kA kB imm text R L := by
  obtain ⟨di, hdi, hdi8⟩ := and7 kD ok.d.1 ok.d.2
  obtain ⟨ai, hai, hai8⟩ := and7 kA ok.a.1 ok.a.2
  obtain ⟨bi, hbi, hbi8⟩ := and7 kB ok.b.1 ok.b.2
  have ua := hR ai hai8
  have ub := hR bi hbi8
  obtain ⟨_, ⟨t, rfl, ht⟩, hD1⟩ := hexText_det E M hf (R ai) ua
  obtain ⟨_, ⟨s, rfl, _⟩, hD2⟩ := orName_det E M hf (R ai) ua t (by omega)
  exact ⟨R, L ++ [.string s], hR, .inr ⟨_, rfl⟩, sx_147_25 E M hf md kD kA kB imm text di ai bi hdi hdi8 hai hai8 hbi hbi8 R L hL t s (fun tb w K ho hK => hD1 w tb K ho hK) (fun tb w K ho hK => hD2 w tb K ho hK)⟩
theorem so_32 (E M : Nat) (hf : fok E M = true) (md kD kA kB imm : Int) (ok : OpOk kD kA kB imm) (text : ByteArray) (R : Nat → Int) (hR : ∀ i, i < 8 → U64 (R i)) (L : List Value) (hL : L.length ≤ 1000) : Goes 147 E M md 32 kD kA kB imm text R L := by
  obtain ⟨di, hdi, hdi8⟩ := and7 kD ok.d.1 ok.d.2
  obtain ⟨ai, hai, hai8⟩ := and7 kA ok.a.1 ok.a.2
  obtain ⟨bi, hbi, hbi8⟩ := and7 kB ok.b.1 ok.b.2
  have ua := hR ai hai8
  have ub := hR bi hbi8
  obtain ⟨_, ⟨lr, lb, rfl, hl⟩, hD1⟩ := logB_det E M hf (R ai) ua
  obtain ⟨_, ⟨s, rfl, _⟩, hD2⟩ := whole_det lr hl.1 (by have := hl.2; omega) lb
  exact ⟨R, L ++ [.string s], hR, .inr ⟨_, rfl⟩, sx_147_32 E M hf md kD kA kB imm text di ai bi hdi hdi8 hai hai8 hbi hbi8 R L hL lr lb s (fun tb w K ho hK => hD1 w tb K ho hK) (fun tb w K ho hK => hD2 w tb K ho hK)⟩
theorem so_33 (E M : Nat) (hf : fok E M = true) (md kD kA kB imm : Int) (ok : OpOk kD kA kB imm) (text : ByteArray) (R : Nat → Int) (hR : ∀ i, i < 8 → U64 (R i)) (L : List Value) (hL : L.length ≤ 1000) : Goes 147 E M md 33 kD kA kB imm text R L := by
  obtain ⟨di, hdi, hdi8⟩ := and7 kD ok.d.1 ok.d.2
  obtain ⟨ai, hai, hai8⟩ := and7 kA ok.a.1 ok.a.2
  obtain ⟨bi, hbi, hbi8⟩ := and7 kB ok.b.1 ok.b.2
  have ua := hR ai hai8
  have ub := hR bi hbi8
  obtain ⟨_, ⟨r1, rfl, h1⟩, hD1⟩ := clean_det E M hf (R ai) ua
  obtain ⟨_, ⟨rr, f, rfl, _⟩, hD2⟩ := scaleBFlags_det E M hf md r1 (wrap64 imm) (Snd.u64 hf h1)
  obtain ⟨_, ⟨s, rfl, _⟩, hD3⟩ := flagText_det f
  exact ⟨R, L ++ [.string s], hR, .inr ⟨_, rfl⟩, sx_147_33 E M hf md kD kA kB imm text di ai bi hdi hdi8 hai hai8 hbi hbi8 R L hL r1 rr f s (fun tb w K ho hK => hD1 w tb K ho hK) (fun tb w K ho hK => hD2 w tb K ho hK) (fun tb w K ho hK => hD3 w tb K ho hK)⟩
theorem so_28 (E M : Nat) (hf : fok E M = true) (md kD kA kB imm : Int) (ok : OpOk kD kA kB imm) (text : ByteArray) (R : Nat → Int) (hR : ∀ i, i < 8 → U64 (R i)) (L : List Value) (hL : L.length ≤ 1000) : Goes 147 E M md 28 kD kA kB imm text R L := by
  obtain ⟨di, hdi, hdi8⟩ := and7 kD ok.d.1 ok.d.2
  obtain ⟨ai, hai, hai8⟩ := and7 kA ok.a.1 ok.a.2
  obtain ⟨bi, hbi, hbi8⟩ := and7 kB ok.b.1 ok.b.2
  have ua := hR ai hai8
  have ub := hR bi hbi8
  obtain ⟨_, ⟨r1, rfl, h1⟩, hD1⟩ := clean_det E M hf (R ai) ua
  obtain ⟨_, ⟨f, fb, rfl⟩, hD2⟩ := convFlags_det E M hf md imm r1 ok.i (Snd.u64 hf h1)
  cases fb
  · exact ⟨R, L, hR, .inl rfl, sx_147_28f E M hf md kD kA kB imm text di ai bi hdi hdi8 hai hai8 hbi hbi8 R L hL r1 f (fun tb w K ho hK => hD1 w tb K ho hK) (fun tb w K ho hK => hD2 w tb K ho hK)⟩
  · obtain ⟨_, ⟨s, rfl, _⟩, hD3⟩ := flagText_det f
    exact ⟨R, L ++ [.string s], hR, .inr ⟨_, rfl⟩, sx_147_28t E M hf md kD kA kB imm text di ai bi hdi hdi8 hai hai8 hbi hbi8 R L hL r1 f s (fun tb w K ho hK => hD1 w tb K ho hK) (fun tb w K ho hK => hD2 w tb K ho hK) (fun tb w K ho hK => hD3 w tb K ho hK)⟩
theorem so_12 (E M : Nat) (hf : fok E M = true) (md kD kA kB imm : Int) (ok : OpOk kD kA kB imm) (text : ByteArray) (R : Nat → Int) (hR : ∀ i, i < 8 → U64 (R i)) (L : List Value) (hL : L.length ≤ 1000) : Goes 82 E M md 12 kD kA kB imm text R L := by
  obtain ⟨di, hdi, hdi8⟩ := and7 kD ok.d.1 ok.d.2
  obtain ⟨ai, hai, hai8⟩ := and7 kA ok.a.1 ok.a.2
  obtain ⟨bi, hbi, hbi8⟩ := and7 kB ok.b.1 ok.b.2
  have ua := hR ai hai8
  have ub := hR bi hbi8
  have i1 := ok.i.1
  have hG : imm % 256 = ((imm % 256).toNat : Int) := by omega
  have hN : imm / 256 % 256 = ((imm / 256 % 256).toNat : Int) := by omega
  obtain ⟨G, hGG⟩ : ∃ G, (imm % 256).toNat = G := ⟨_, rfl⟩
  obtain ⟨N, hNN⟩ : ∃ N, (imm / 256 % 256).toNat = N := ⟨_, rfl⟩
  rw [hGG] at hG
  rw [hNN] at hN
  cases hg : fok G N
  · exact ⟨R, L, hR, .inl rfl, sx_82_12f E M hf md kD kA kB imm text di ai bi hdi hdi8 hai hai8 hbi hbi8 R L hL ok.i G N hG hN hg⟩
  · obtain ⟨_, ⟨r1, rfl, h1⟩, hD1⟩ := convert_det E M hf G N hg md (R ai) ua
    obtain ⟨_, ⟨r, rfl, hr⟩, hD2⟩ := convert_det G N hg E M hf md r1 (Snd.u64 hg h1)
    exact ⟨up R di r, L, up_snd hf hR hr di, .inl rfl, sx_82_12t E M hf md kD kA kB imm text di ai bi hdi hdi8 hai hai8 hbi hbi8 R L hL ok.i G N hG hN hg r1 r (fun tb w K ho hK => hD1 w tb K ho hK) (fun tb w K ho hK => hD2 w tb K ho hK)⟩
end Go.Proofs.YgcoaaGreat.NatW
