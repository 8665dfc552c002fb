/-
  ex.Step: where each kind goes.
-/
import Derived.Test.YgcoaaGreatSoJ
import Derived.Test.YgcoaaGreatSxB
import Derived.Test.YgcoaaGreatDetX
set_option linter.unusedVariables false
set_option linter.unusedSimpArgs false
set_option maxRecDepth 20000
namespace Go.Proofs.YgcoaaGreat.NatW
open Go.RowKit
open Go.Proofs.YgcoaaGreat.Det
open Go.Proofs.YgcoaaGreat.Limbs Go.Proofs.YgcoaaGreat.Bits
attribute [local go_sem] Go.Instr.field Go.asAgg

/-- Step g takes a machine to a machine, the same in every memory. -/
def GoesE (g : FuncId) (E M : Nat) (md kd kD kA kB imm : Int) (text : ByteArray) (R : Nat → Int) (L : List Value) : Prop :=
  ∃ R' L', (∀ i, i < 8 → U64 (R' i)) ∧ Gr L L' ∧ SX g E M md kd kD kA kB imm text R L R' L'
theorem up_u64 {R : Nat → Int} (h : ∀ i, i < 8 → U64 (R i)) {r : Int} (hr : U64 r) (d : Nat) : ∀ i, i < 8 → U64 (up R d r i) := by
  intro i hi
  unfold up
  split
  · exact hr
  · exact h i hi
theorem u64_of {v : Value} (h : Sf.val (fun _ _ => none) Go.Proofs.YgcoaaGreat.SfW.d2 v) : ∃ r, v = .int .u64 r ∧ U64 r := by
  obtain ⟨r, e, h0, h1⟩ := h
  exact ⟨r, e, h0, by omega⟩

theorem ex_0 (E M : Nat) (hf : fok E M = true) (md kD kA kB imm : Int) (hm0 : 0 ≤ md) (hm1 : md ≤ 255) (ok : OpOk kD kA kB imm) (text : ByteArray) (R : Nat → Int) (hR : ∀ i, i < 8 → U64 (R i)) (L : List Value) (hL : L.length ≤ 1000) : GoesE 81 E M md 0 kD kA kB imm text R L := by
  obtain ⟨di, hdi, hdi8⟩ := and7 kD ok.d.1 ok.d.2
  obtain ⟨ai, hai, hai8⟩ := and7 kA ok.a.1 ok.a.2
  obtain ⟨bi, hbi, hbi8⟩ := and7 kB ok.b.1 ok.b.2
  have ua := hR ai hai8
  have ub := hR bi hbi8
  have ui := ok.i
  obtain ⟨_, hv, hD⟩ := det120 E M hf imm ui.1 (by have := ui.2; omega)
  obtain ⟨r, rfl, hr⟩ := u64_of hv
  exact ⟨up R di r, L, up_u64 hR hr di, .inl rfl, sx_81_0 E M hf md kD kA kB imm text di ai bi hdi hdi8 hai hai8 hbi hbi8 R L r (fun tb w K ho hK => hD w tb K ho hK)⟩

theorem ex_1 (E M : Nat) (hf : fok E M = true) (md kD kA kB imm : Int) (hm0 : 0 ≤ md) (hm1 : md ≤ 255) (ok : OpOk kD kA kB imm) (text : ByteArray) (R : Nat → Int) (hR : ∀ i, i < 8 → U64 (R i)) (L : List Value) (hL : L.length ≤ 1000) : GoesE 81 E M md 1 kD kA kB imm text R L := by
  obtain ⟨di, hdi, hdi8⟩ := and7 kD ok.d.1 ok.d.2
  obtain ⟨ai, hai, hai8⟩ := and7 kA ok.a.1 ok.a.2
  obtain ⟨bi, hbi, hbi8⟩ := and7 kB ok.b.1 ok.b.2
  have ua := hR ai hai8
  have ub := hR bi hbi8
  have ui := ok.i
  obtain ⟨_, hv, hD⟩ := det121 E M hf md hm0 hm1 (R ai) ua.1 (by have := ua.2; omega) (R bi) ub.1 (by have := ub.2; omega)
  obtain ⟨r, rfl, hr⟩ := u64_of hv
  exact ⟨up R di r, L, up_u64 hR hr di, .inl rfl, sx_81_1 E M hf md kD kA kB imm text di ai bi hdi hdi8 hai hai8 hbi hbi8 R L r (fun tb w K ho hK => hD w tb K ho hK)⟩

theorem ex_2 (E M : Nat) (hf : fok E M = true) (md kD kA kB imm : Int) (hm0 : 0 ≤ md) (hm1 : md ≤ 255) (ok : OpOk kD kA kB imm) (text : ByteArray) (R : Nat → Int) (hR : ∀ i, i < 8 → U64 (R i)) (L : List Value) (hL : L.length ≤ 1000) : GoesE 81 E M md 2 kD kA kB imm text R L := by
  obtain ⟨di, hdi, hdi8⟩ := and7 kD ok.d.1 ok.d.2
  obtain ⟨ai, hai, hai8⟩ := and7 kA ok.a.1 ok.a.2
  obtain ⟨bi, hbi, hbi8⟩ := and7 kB ok.b.1 ok.b.2
  have ua := hR ai hai8
  have ub := hR bi hbi8
  have ui := ok.i
  obtain ⟨_, hv, hD⟩ := det122 E M hf md hm0 hm1 (R ai) ua.1 (by have := ua.2; omega) (R bi) ub.1 (by have := ub.2; omega)
  obtain ⟨r, rfl, hr⟩ := u64_of hv
  exact ⟨up R di r, L, up_u64 hR hr di, .inl rfl, sx_81_2 E M hf md kD kA kB imm text di ai bi hdi hdi8 hai hai8 hbi hbi8 R L r (fun tb w K ho hK => hD w tb K ho hK)⟩

theorem ex_3 (E M : Nat) (hf : fok E M = true) (md kD kA kB imm : Int) (hm0 : 0 ≤ md) (hm1 : md ≤ 255) (ok : OpOk kD kA kB imm) (text : ByteArray) (R : Nat → Int) (hR : ∀ i, i < 8 → U64 (R i)) (L : List Value) (hL : L.length ≤ 1000) : GoesE 81 E M md 3 kD kA kB imm text R L := by
  obtain ⟨di, hdi, hdi8⟩ := and7 kD ok.d.1 ok.d.2
  obtain ⟨ai, hai, hai8⟩ := and7 kA ok.a.1 ok.a.2
  obtain ⟨bi, hbi, hbi8⟩ := and7 kB ok.b.1 ok.b.2
  have ua := hR ai hai8
  have ub := hR bi hbi8
  have ui := ok.i
  obtain ⟨_, hv, hD⟩ := det123 E M hf md hm0 hm1 (R ai) ua.1 (by have := ua.2; omega) (R bi) ub.1 (by have := ub.2; omega)
  obtain ⟨r, rfl, hr⟩ := u64_of hv
  exact ⟨up R di r, L, up_u64 hR hr di, .inl rfl, sx_81_3 E M hf md kD kA kB imm text di ai bi hdi hdi8 hai hai8 hbi hbi8 R L r (fun tb w K ho hK => hD w tb K ho hK)⟩

theorem ex_4 (E M : Nat) (hf : fok E M = true) (md kD kA kB imm : Int) (hm0 : 0 ≤ md) (hm1 : md ≤ 255) (ok : OpOk kD kA kB imm) (text : ByteArray) (R : Nat → Int) (hR : ∀ i, i < 8 → U64 (R i)) (L : List Value) (hL : L.length ≤ 1000) : GoesE 81 E M md 4 kD kA kB imm text R L := by
  obtain ⟨di, hdi, hdi8⟩ := and7 kD ok.d.1 ok.d.2
  obtain ⟨ai, hai, hai8⟩ := and7 kA ok.a.1 ok.a.2
  obtain ⟨bi, hbi, hbi8⟩ := and7 kB ok.b.1 ok.b.2
  have ua := hR ai hai8
  have ub := hR bi hbi8
  have ui := ok.i
  obtain ⟨_, hv, hD⟩ := det124 E M hf md hm0 hm1 (R ai) ua.1 (by have := ua.2; omega) (R bi) ub.1 (by have := ub.2; omega)
  obtain ⟨r, rfl, hr⟩ := u64_of hv
  exact ⟨up R di r, L, up_u64 hR hr di, .inl rfl, sx_81_4 E M hf md kD kA kB imm text di ai bi hdi hdi8 hai hai8 hbi hbi8 R L r (fun tb w K ho hK => hD w tb K ho hK)⟩

theorem ex_5 (E M : Nat) (hf : fok E M = true) (md kD kA kB imm : Int) (hm0 : 0 ≤ md) (hm1 : md ≤ 255) (ok : OpOk kD kA kB imm) (text : ByteArray) (R : Nat → Int) (hR : ∀ i, i < 8 → U64 (R i)) (L : List Value) (hL : L.length ≤ 1000) : GoesE 81 E M md 5 kD kA kB imm text R L := by
  obtain ⟨di, hdi, hdi8⟩ := and7 kD ok.d.1 ok.d.2
  obtain ⟨ai, hai, hai8⟩ := and7 kA ok.a.1 ok.a.2
  obtain ⟨bi, hbi, hbi8⟩ := and7 kB ok.b.1 ok.b.2
  have ua := hR ai hai8
  have ub := hR bi hbi8
  have ui := ok.i
  obtain ⟨_, hv, hD⟩ := det125 E M hf md hm0 hm1 (R ai) ua.1 (by have := ua.2; omega)
  obtain ⟨r, rfl, hr⟩ := u64_of hv
  exact ⟨up R di r, L, up_u64 hR hr di, .inl rfl, sx_81_5 E M hf md kD kA kB imm text di ai bi hdi hdi8 hai hai8 hbi hbi8 R L r (fun tb w K ho hK => hD w tb K ho hK)⟩

theorem ex_10 (E M : Nat) (hf : fok E M = true) (md kD kA kB imm : Int) (hm0 : 0 ≤ md) (hm1 : md ≤ 255) (ok : OpOk kD kA kB imm) (text : ByteArray) (R : Nat → Int) (hR : ∀ i, i < 8 → U64 (R i)) (L : List Value) (hL : L.length ≤ 1000) : GoesE 81 E M md 10 kD kA kB imm text R L := by
  obtain ⟨di, hdi, hdi8⟩ := and7 kD ok.d.1 ok.d.2
  obtain ⟨ai, hai, hai8⟩ := and7 kA ok.a.1 ok.a.2
  obtain ⟨bi, hbi, hbi8⟩ := and7 kB ok.b.1 ok.b.2
  have ua := hR ai hai8
  have ub := hR bi hbi8
  have ui := ok.i
  obtain ⟨_, hv, hD⟩ := det129 E M hf md hm0 hm1 imm ui.1 (by have := ui.2; omega)
  obtain ⟨r, rfl, hr⟩ := u64_of hv
  exact ⟨up R di r, L, up_u64 hR hr di, .inl rfl, sx_81_10 E M hf md kD kA kB imm text di ai bi hdi hdi8 hai hai8 hbi hbi8 R L r (fun tb w K ho hK => hD w tb K ho hK)⟩
end Go.Proofs.YgcoaaGreat.NatW
