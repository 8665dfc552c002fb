/-
  so.Step: where each kind goes.
-/
import Derived.Test.YgcoaaGreatSxA
import Derived.Test.YgcoaaGreatSxC
import Derived.Test.YgcoaaGreatSxG
import Derived.Test.YgcoaaGreatDetE
set_option linter.unusedVariables false
set_option linter.unusedSimpArgs false
set_option maxRecDepth 20000
namespace Go.Proofs.YgcoaaGreat.NatW
open Go.RowKit
open Go.Proofs.YgcoaaGreat.Det
open Go.Proofs.YgcoaaGreat.Limbs Go.Proofs.YgcoaaGreat.Bits
attribute [local go_sem] Go.Instr.field Go.asAgg

/-- An operation's fields are in their ranges. -/
structure OpOk (kD kA kB imm : Int) : Prop where
  d : 0 ≤ kD ∧ kD ≤ 255
  a : 0 ≤ kA ∧ kA ≤ 255
  b : 0 ≤ kB ∧ kB ≤ 255
  i : U64 imm
/-- Nothing was put out, or one word. -/
def Gr (L L' : List Value) : Prop := L' = L ∨ ∃ s : ByteArray, L' = L ++ [.string s]
/-- Step g takes a machine to a machine, the same in every memory. -/
def Goes (g : FuncId) (E M : Nat) (md kd kD kA kB imm : Int) (text : ByteArray) (R : Nat → Int) (L : List Value) : Prop :=
  ∃ R' L', (∀ i, i < 8 → U64 (R' i)) ∧ Gr L L' ∧ SX g E M md kd kD kA kB imm text R L R' L'
theorem up_snd {E M : Nat} (hf : fok E M = true) {R : Nat → Int} (h : ∀ i, i < 8 → U64 (R i)) {r : Int} (hr : Snd E M r) (d : Nat) : ∀ i, i < 8 → U64 (up R d r i) := by
  intro i hi
  unfold up
  split
  · exact Snd.u64 hf hr
  · exact h i hi

theorem so_0 (E M : Nat) (hf : fok E M = true) (md kD kA kB imm : Int) (ok : OpOk kD kA kB imm) (text : ByteArray) (R : Nat → Int) (hR : ∀ i, i < 8 → U64 (R i)) (L : List Value) (hL : L.length ≤ 1000) : Goes 82 E M md 0 kD kA kB imm text R L := by
  obtain ⟨di, hdi, hdi8⟩ := and7 kD ok.d.1 ok.d.2
  obtain ⟨ai, hai, hai8⟩ := and7 kA ok.a.1 ok.a.2
  obtain ⟨bi, hbi, hbi8⟩ := and7 kB ok.b.1 ok.b.2
  have ua := hR ai hai8
  have ub := hR bi hbi8
  obtain ⟨_, ⟨r, rfl, hr⟩, hD⟩ := clean_det E M hf imm ok.i
  exact ⟨up R di r, L, up_snd hf hR hr di, .inl rfl, sx_82_0 E M hf md kD kA kB imm text di ai bi hdi hdi8 hai hai8 hbi hbi8 R L r (fun tb w K ho hK => hD w tb K ho hK)⟩

theorem so_1 (E M : Nat) (hf : fok E M = true) (md kD kA kB imm : Int) (ok : OpOk kD kA kB imm) (text : ByteArray) (R : Nat → Int) (hR : ∀ i, i < 8 → U64 (R i)) (L : List Value) (hL : L.length ≤ 1000) : Goes 82 E M md 1 kD kA kB imm text R L := by
  obtain ⟨di, hdi, hdi8⟩ := and7 kD ok.d.1 ok.d.2
  obtain ⟨ai, hai, hai8⟩ := and7 kA ok.a.1 ok.a.2
  obtain ⟨bi, hbi, hbi8⟩ := and7 kB ok.b.1 ok.b.2
  have ua := hR ai hai8
  have ub := hR bi hbi8
  obtain ⟨_, ⟨r, rfl, hr⟩, hD⟩ := add_det E M hf md (R ai) (R bi) ua ub
  exact ⟨up R di r, L, up_snd hf hR hr di, .inl rfl, sx_82_1 E M hf md kD kA kB imm text di ai bi hdi hdi8 hai hai8 hbi hbi8 R L r (fun tb w K ho hK => hD w tb K ho hK)⟩

theorem so_2 (E M : Nat) (hf : fok E M = true) (md kD kA kB imm : Int) (ok : OpOk kD kA kB imm) (text : ByteArray) (R : Nat → Int) (hR : ∀ i, i < 8 → U64 (R i)) (L : List Value) (hL : L.length ≤ 1000) : Goes 82 E M md 2 kD kA kB imm text R L := by
  obtain ⟨di, hdi, hdi8⟩ := and7 kD ok.d.1 ok.d.2
  obtain ⟨ai, hai, hai8⟩ := and7 kA ok.a.1 ok.a.2
  obtain ⟨bi, hbi, hbi8⟩ := and7 kB ok.b.1 ok.b.2
  have ua := hR ai hai8
  have ub := hR bi hbi8
  obtain ⟨_, ⟨r, rfl, hr⟩, hD⟩ := ssub_det E M hf md (R ai) (R bi) ua ub
  exact ⟨up R di r, L, up_snd hf hR hr di, .inl rfl, sx_82_2 E M hf md kD kA kB imm text di ai bi hdi hdi8 hai hai8 hbi hbi8 R L r (fun tb w K ho hK => hD w tb K ho hK)⟩

theorem so_3 (E M : Nat) (hf : fok E M = true) (md kD kA kB imm : Int) (ok : OpOk kD kA kB imm) (text : ByteArray) (R : Nat → Int) (hR : ∀ i, i < 8 → U64 (R i)) (L : List Value) (hL : L.length ≤ 1000) : Goes 82 E M md 3 kD kA kB imm text R L := by
  obtain ⟨di, hdi, hdi8⟩ := and7 kD ok.d.1 ok.d.2
  obtain ⟨ai, hai, hai8⟩ := and7 kA ok.a.1 ok.a.2
  obtain ⟨bi, hbi, hbi8⟩ := and7 kB ok.b.1 ok.b.2
  have ua := hR ai hai8
  have ub := hR bi hbi8
  obtain ⟨_, ⟨r, rfl, hr⟩, hD⟩ := mul_det E M hf md (R ai) (R bi) ua ub
  exact ⟨up R di r, L, up_snd hf hR hr di, .inl rfl, sx_82_3 E M hf md kD kA kB imm text di ai bi hdi hdi8 hai hai8 hbi hbi8 R L r (fun tb w K ho hK => hD w tb K ho hK)⟩

theorem so_4 (E M : Nat) (hf : fok E M = true) (md kD kA kB imm : Int) (ok : OpOk kD kA kB imm) (text : ByteArray) (R : Nat → Int) (hR : ∀ i, i < 8 → U64 (R i)) (L : List Value) (hL : L.length ≤ 1000) : Goes 82 E M md 4 kD kA kB imm text R L := by
  obtain ⟨di, hdi, hdi8⟩ := and7 kD ok.d.1 ok.d.2
  obtain ⟨ai, hai, hai8⟩ := and7 kA ok.a.1 ok.a.2
  obtain ⟨bi, hbi, hbi8⟩ := and7 kB ok.b.1 ok.b.2
  have ua := hR ai hai8
  have ub := hR bi hbi8
  obtain ⟨_, ⟨r, rfl, hr⟩, hD⟩ := div_det E M hf md (R ai) (R bi) ua ub
  exact ⟨up R di r, L, up_snd hf hR hr di, .inl rfl, sx_82_4 E M hf md kD kA kB imm text di ai bi hdi hdi8 hai hai8 hbi hbi8 R L r (fun tb w K ho hK => hD w tb K ho hK)⟩

theorem so_5 (E M : Nat) (hf : fok E M = true) (md kD kA kB imm : Int) (ok : OpOk kD kA kB imm) (text : ByteArray) (R : Nat → Int) (hR : ∀ i, i < 8 → U64 (R i)) (L : List Value) (hL : L.length ≤ 1000) : Goes 82 E M md 5 kD kA kB imm text R L := by
  obtain ⟨di, hdi, hdi8⟩ := and7 kD ok.d.1 ok.d.2
  obtain ⟨ai, hai, hai8⟩ := and7 kA ok.a.1 ok.a.2
  obtain ⟨bi, hbi, hbi8⟩ := and7 kB ok.b.1 ok.b.2
  have ua := hR ai hai8
  have ub := hR bi hbi8
  obtain ⟨_, ⟨r, rfl, hr⟩, hD⟩ := sqrt_det E M hf md (R ai) ua
  exact ⟨up R di r, L, up_snd hf hR hr di, .inl rfl, sx_82_5 E M hf md kD kA kB imm text di ai bi hdi hdi8 hai hai8 hbi hbi8 R L r (fun tb w K ho hK => hD w tb K ho hK)⟩

theorem so_9 (E M : Nat) (hf : fok E M = true) (md kD kA kB imm : Int) (ok : OpOk kD kA kB imm) (text : ByteArray) (R : Nat → Int) (hR : ∀ i, i < 8 → U64 (R i)) (L : List Value) (hL : L.length ≤ 1000) : Goes 82 E M md 9 kD kA kB imm text R L := by
  obtain ⟨di, hdi, hdi8⟩ := and7 kD ok.d.1 ok.d.2
  obtain ⟨ai, hai, hai8⟩ := and7 kA ok.a.1 ok.a.2
  obtain ⟨bi, hbi, hbi8⟩ := and7 kB ok.b.1 ok.b.2
  have ua := hR ai hai8
  have ub := hR bi hbi8
  obtain ⟨_, ⟨r, rfl, hr⟩, hD⟩ := fromI_det E M hf md (wrap64 imm)
  exact ⟨up R di r, L, up_snd hf hR hr di, .inl rfl, sx_82_9 E M hf md kD kA kB imm text di ai bi hdi hdi8 hai hai8 hbi hbi8 R L r (fun tb w K ho hK => hD w tb K ho hK)⟩

theorem so_10 (E M : Nat) (hf : fok E M = true) (md kD kA kB imm : Int) (ok : OpOk kD kA kB imm) (text : ByteArray) (R : Nat → Int) (hR : ∀ i, i < 8 → U64 (R i)) (L : List Value) (hL : L.length ≤ 1000) : Goes 82 E M md 10 kD kA kB imm text R L := by
  obtain ⟨di, hdi, hdi8⟩ := and7 kD ok.d.1 ok.d.2
  obtain ⟨ai, hai, hai8⟩ := and7 kA ok.a.1 ok.a.2
  obtain ⟨bi, hbi, hbi8⟩ := and7 kB ok.b.1 ok.b.2
  have ua := hR ai hai8
  have ub := hR bi hbi8
  obtain ⟨_, ⟨r, rfl, hr⟩, hD⟩ := fromU_det E M hf md imm ok.i
  exact ⟨up R di r, L, up_snd hf hR hr di, .inl rfl, sx_82_10 E M hf md kD kA kB imm text di ai bi hdi hdi8 hai hai8 hbi hbi8 R L r (fun tb w K ho hK => hD w tb K ho hK)⟩

theorem so_8 (E M : Nat) (hf : fok E M = true) (md kD kA kB imm : Int) (ok : OpOk kD kA kB imm) (text : ByteArray) (R : Nat → Int) (hR : ∀ i, i < 8 → U64 (R i)) (L : List Value) (hL : L.length ≤ 1000) : Goes 82 E M md 8 kD kA kB imm text R L := by
  obtain ⟨di, hdi, hdi8⟩ := and7 kD ok.d.1 ok.d.2
  obtain ⟨ai, hai, hai8⟩ := and7 kA ok.a.1 ok.a.2
  obtain ⟨bi, hbi, hbi8⟩ := and7 kB ok.b.1 ok.b.2
  have ua := hR ai hai8
  have ub := hR bi hbi8
  obtain ⟨_, ⟨c, rfl⟩, hD⟩ := cmp_det E M hf (R ai) (R bi) ua ub
  obtain ⟨_, ⟨s, rfl, _⟩, hE⟩ := order_det c
  exact ⟨R, L ++ [.string s], hR, .inr ⟨_, rfl⟩, sx_82_8 E M hf md kD kA kB imm text di ai bi hdi hdi8 hai hai8 hbi hbi8 R L hL c s (fun tb w K ho hK => hD w tb K ho hK) (fun tb w K ho hK => hE w tb K ho hK)⟩
theorem so_11 (E M : Nat) (hf : fok E M = true) (md kD kA kB imm : Int) (ok : OpOk kD kA kB imm) (text : ByteArray) (R : Nat → Int) (hR : ∀ i, i < 8 → U64 (R i)) (L : List Value) (hL : L.length ≤ 1000) : Goes 82 E M md 11 kD kA kB imm text R L := by
  obtain ⟨di, hdi, hdi8⟩ := and7 kD ok.d.1 ok.d.2
  obtain ⟨ai, hai, hai8⟩ := and7 kA ok.a.1 ok.a.2
  obtain ⟨bi, hbi, hbi8⟩ := and7 kB ok.b.1 ok.b.2
  have ua := hR ai hai8
  have ub := hR bi hbi8
  obtain ⟨_, ⟨s, rfl, _⟩, hD⟩ := sotoInt_det E M hf (R ai) ua
  exact ⟨R, L ++ [.string s], hR, .inr ⟨_, rfl⟩, sx_82_11 E M hf md kD kA kB imm text di ai bi hdi hdi8 hai hai8 hbi hbi8 R L hL s (fun tb w K ho hK => hD w tb K ho hK)⟩
end Go.Proofs.YgcoaaGreat.NatW
