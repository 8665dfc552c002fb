/-
  ex.Step: where the kinds go that the table of contracts answers.
-/
import Derived.Test.YgcoaaGreatExJ
import Derived.Test.YgcoaaGreatSxD
import Derived.Test.YgcoaaGreatSxF
import Derived.Test.YgcoaaGreatSxH
import Derived.Test.YgcoaaGreatSxJ
import Derived.Test.YgcoaaGreatSxL
import Derived.Test.YgcoaaGreatSxN
import Derived.Test.YgcoaaGreatSxP
import Derived.Test.YgcoaaGreatSxS
import Derived.Test.YgcoaaGreatDetY
set_option linter.unusedVariables false
set_option linter.unusedSimpArgs false
set_option maxRecDepth 20000
namespace Go.Proofs.YgcoaaGreat.NatW
open Go.RowKit
open Go.Proofs.YgcoaaGreat.Det
attribute [local go_sem] Go.Instr.field Go.asAgg

/-- The same for a step without the table. -/
def GoesM (g : FuncId) (E M : Nat) (md kd kD kA kB imm : Int) (text : ByteArray) (R : Nat → Int) (L : List Value) : Prop :=
  ∃ R' L', (∀ i, i < 8 → U64 (R' i)) ∧ Gr L L' ∧ SXm g E M md kd kD kA kB imm text R L R' L'
theorem str_of {n : Nat} {v : Value} (h : Sf.val (fun _ _ => none) (.str n) v) : ∃ s : ByteArray, v = .string s ∧ s.size ≤ n := h
theorem tup2_of {a b : Sf.D} {v : Value} (h : Sf.val (fun _ _ => none) (.tup (.cons a (.cons b .nil))) v) : ∃ x y, v = .tuple #[x, y] ∧ Sf.one (fun _ _ => none) a x ∧ Sf.one (fun _ _ => none) b y := by
  obtain ⟨xs, rfl, hs, hc⟩ := h
  obtain ⟨x, ha, hx⟩ := hc 0 _ rfl
  obtain ⟨y, hb, hy⟩ := hc 1 _ rfl
  refine ⟨x, y, ?_, hx, hy⟩
  congr 1
  have hs' : xs.size = 2 := hs
  apply Array.ext (by simpa using hs')
  intro i hi hj
  match i, hj with
  | 0, _ => have := (Array.getElem?_eq_some_iff.1 ha).2; simpa using this
  | 1, _ => have := (Array.getElem?_eq_some_iff.1 hb).2; simpa using this
theorem wrap64_in64 (x : Int) : -9223372036854775808 ≤ wrap64 x ∧ wrap64 x ≤ 9223372036854775807 := by unfold wrap64; omega
theorem wr8 (x : Int) : 0 ≤ IntKind.u8.wrap x ∧ IntKind.u8.wrap x ≤ 255 := by
  simp [IntKind.wrap, IntKind.bits, IntKind.signed]
  omega
theorem U64.le {x : Int} (h : U64 x) : x ≤ 18446744073709551615 := by have := h.2; omega

theorem ex_6 (E M : Nat) (hf : fok E M = true) (md kD kA kB imm : Int) (hm0 : 0 ≤ md) (hm1 : md ≤ 255) (ok : OpOk kD kA kB imm) (text : ByteArray) (R : Nat → Int) (hR : ∀ i, i < 8 → U64 (R i)) (L : List Value) (hL : L.length ≤ 1000) : GoesE 81 E M md 6 kD kA kB imm text R L := by
  obtain ⟨di, hdi, hdi8⟩ := and7 kD ok.d.1 ok.d.2
  obtain ⟨ai, hai, hai8⟩ := and7 kA ok.a.1 ok.a.2
  obtain ⟨bi, hbi, hbi8⟩ := and7 kB ok.b.1 ok.b.2
  have ua := hR ai hai8
  have ub := hR bi hbi8
  have ui := ok.i
  obtain ⟨_, hv1, hD1⟩ := det120 E M hf (R ai) ua.1 ua.le
  obtain ⟨r1, rfl, h1⟩ := u64_of hv1
  have u2 : U64 (bits .xor .u64 r1 ((2 ^ (E + M) : Nat) : Int)) := by unfold bits; exact wr64 _
  obtain ⟨_, hv, hD⟩ := det120 E M hf (bits .xor .u64 r1 ((2 ^ (E + M) : Nat) : Int)) u2.1 u2.le
  obtain ⟨r, rfl, hr⟩ := u64_of hv
  exact ⟨up R di r, L, up_u64 hR hr di, .inl rfl, sx_81_6 E M hf md kD kA kB imm text di ai bi hdi hdi8 hai hai8 hbi hbi8 R L r1 r (fun tb w K ho hK => hD1 w tb K ho hK) (fun tb w K ho hK => hD w tb K ho hK)⟩

theorem ex_7 (E M : Nat) (hf : fok E M = true) (md kD kA kB imm : Int) (hm0 : 0 ≤ md) (hm1 : md ≤ 255) (ok : OpOk kD kA kB imm) (text : ByteArray) (R : Nat → Int) (hR : ∀ i, i < 8 → U64 (R i)) (L : List Value) (hL : L.length ≤ 1000) : GoesE 81 E M md 7 kD kA kB imm text R L := by
  obtain ⟨di, hdi, hdi8⟩ := and7 kD ok.d.1 ok.d.2
  obtain ⟨ai, hai, hai8⟩ := and7 kA ok.a.1 ok.a.2
  obtain ⟨bi, hbi, hbi8⟩ := and7 kB ok.b.1 ok.b.2
  have ua := hR ai hai8
  have ub := hR bi hbi8
  have ui := ok.i
  obtain ⟨_, hv1, hD1⟩ := det120 E M hf (R ai) ua.1 ua.le
  obtain ⟨r1, rfl, h1⟩ := u64_of hv1
  have u2 : U64 (bits .andNot .u64 r1 ((2 ^ (E + M) : Nat) : Int)) := by unfold bits; exact wr64 _
  obtain ⟨_, hv, hD⟩ := det120 E M hf (bits .andNot .u64 r1 ((2 ^ (E + M) : Nat) : Int)) u2.1 u2.le
  obtain ⟨r, rfl, hr⟩ := u64_of hv
  exact ⟨up R di r, L, up_u64 hR hr di, .inl rfl, sx_81_7 E M hf md kD kA kB imm text di ai bi hdi hdi8 hai hai8 hbi hbi8 R L r1 r (fun tb w K ho hK => hD1 w tb K ho hK) (fun tb w K ho hK => hD w tb K ho hK)⟩

theorem ex_8 (E M : Nat) (hf : fok E M = true) (md kD kA kB imm : Int) (hm0 : 0 ≤ md) (hm1 : md ≤ 255) (ok : OpOk kD kA kB imm) (text : ByteArray) (R : Nat → Int) (hR : ∀ i, i < 8 → U64 (R i)) (L : List Value) (hL : L.length ≤ 1000) : GoesE 81 E M md 8 kD kA kB imm text R L := by
  obtain ⟨di, hdi, hdi8⟩ := and7 kD ok.d.1 ok.d.2
  obtain ⟨ai, hai, hai8⟩ := and7 kA ok.a.1 ok.a.2
  obtain ⟨bi, hbi, hbi8⟩ := and7 kB ok.b.1 ok.b.2
  have ua := hR ai hai8
  have ub := hR bi hbi8
  have ui := ok.i
  obtain ⟨_, hv, hD0⟩ := det127 E M hf (R ai) ua.1 ua.le (R bi) ub.1 ub.le
  obtain ⟨c0, rfl, c1, c2⟩ := hv
  obtain ⟨_, hv, hD1⟩ := det126 c0 (by omega) (by omega)
  obtain ⟨s0, rfl, _⟩ := str_of hv
  exact ⟨R, L ++ [.string s0], hR, .inr ⟨_, rfl⟩, sx_81_8 E M hf md kD kA kB imm text di ai bi hdi hdi8 hai hai8 hbi hbi8 R L hL c0 s0 (fun tb w K ho hK => hD0 w tb K ho hK) (fun tb w K ho hK => hD1 w tb K ho hK)⟩

theorem ex_9 (E M : Nat) (hf : fok E M = true) (md kD kA kB imm : Int) (hm0 : 0 ≤ md) (hm1 : md ≤ 255) (ok : OpOk kD kA kB imm) (text : ByteArray) (R : Nat → Int) (hR : ∀ i, i < 8 → U64 (R i)) (L : List Value) (hL : L.length ≤ 1000) : GoesE 81 E M md 9 kD kA kB imm text R L := by
  obtain ⟨di, hdi, hdi8⟩ := and7 kD ok.d.1 ok.d.2
  obtain ⟨ai, hai, hai8⟩ := and7 kA ok.a.1 ok.a.2
  obtain ⟨bi, hbi, hbi8⟩ := and7 kB ok.b.1 ok.b.2
  have ua := hR ai hai8
  have ub := hR bi hbi8
  have ui := ok.i
  obtain ⟨_, hv, hD⟩ := det128 E M hf md hm0 hm1 (wrap64 imm) (wrap64_in64 imm).1 (wrap64_in64 imm).2
  obtain ⟨r, rfl, hr⟩ := u64_of hv
  exact ⟨up R di r, L, up_u64 hR hr di, .inl rfl, sx_81_9 E M hf md kD kA kB imm text di ai bi hdi hdi8 hai hai8 hbi hbi8 R L r (fun tb w K ho hK => hD w tb K ho hK)⟩

theorem ex_11 (E M : Nat) (hf : fok E M = true) (md kD kA kB imm : Int) (hm0 : 0 ≤ md) (hm1 : md ≤ 255) (ok : OpOk kD kA kB imm) (text : ByteArray) (R : Nat → Int) (hR : ∀ i, i < 8 → U64 (R i)) (L : List Value) (hL : L.length ≤ 1000) : GoesE 81 E M md 11 kD kA kB imm text R L := by
  obtain ⟨di, hdi, hdi8⟩ := and7 kD ok.d.1 ok.d.2
  obtain ⟨ai, hai, hai8⟩ := and7 kA ok.a.1 ok.a.2
  obtain ⟨bi, hbi, hbi8⟩ := and7 kB ok.b.1 ok.b.2
  have ua := hR ai hai8
  have ub := hR bi hbi8
  have ui := ok.i
  obtain ⟨_, hv, hD0⟩ := det130 E M hf (R ai) ua.1 ua.le
  obtain ⟨s0, rfl, _⟩ := str_of hv
  exact ⟨R, L ++ [.string s0], hR, .inr ⟨_, rfl⟩, sx_81_11 E M hf md kD kA kB imm text di ai bi hdi hdi8 hai hai8 hbi hbi8 R L hL s0 (fun tb w K ho hK => hD0 w tb K ho hK)⟩

theorem ex_12 (E M : Nat) (hf : fok E M = true) (md kD kA kB imm : Int) (hm0 : 0 ≤ md) (hm1 : md ≤ 255) (ok : OpOk kD kA kB imm) (text : ByteArray) (R : Nat → Int) (hR : ∀ i, i < 8 → U64 (R i)) (L : List Value) (hL : L.length ≤ 1000) : GoesE 81 E M md 12 kD kA kB imm text R L := by
  obtain ⟨di, hdi, hdi8⟩ := and7 kD ok.d.1 ok.d.2
  obtain ⟨ai, hai, hai8⟩ := and7 kA ok.a.1 ok.a.2
  obtain ⟨bi, hbi, hbi8⟩ := and7 kB ok.b.1 ok.b.2
  have ua := hR ai hai8
  have ub := hR bi hbi8
  have ui := ok.i
  have i1 := ok.i.1
  have hG : imm % 256 = ((imm % 256).toNat : Int) := by omega
  have hN : imm / 256 % 256 = ((imm / 256 % 256).toNat : Int) := by omega
  obtain ⟨G, hGG⟩ : ∃ G, (imm % 256).toNat = G := ⟨_, rfl⟩
  obtain ⟨N, hNN⟩ : ∃ N, (imm / 256 % 256).toNat = N := ⟨_, rfl⟩
  rw [hGG] at hG
  rw [hNN] at hN
  cases hg : fok G N
  · exact ⟨R, L, hR, .inl rfl, sx_81_12f E M hf md kD kA kB imm text di ai bi hdi hdi8 hai hai8 hbi hbi8 R L hL ok.i G N hG hN hg⟩
  · obtain ⟨_, hv1, hD1⟩ := det100 E M hf G N hg md hm0 hm1 (R ai) ua.1 ua.le
    obtain ⟨r1, rfl, h1⟩ := u64_of hv1
    obtain ⟨_, hv, hD2⟩ := det100 G N hg E M hf md hm0 hm1 r1 h1.1 h1.le
    obtain ⟨r, rfl, hr⟩ := u64_of hv
    exact ⟨up R di r, L, up_u64 hR hr di, .inl rfl, sx_81_12t E M hf md kD kA kB imm text di ai bi hdi hdi8 hai hai8 hbi hbi8 R L hL ok.i G N hG hN hg r1 r (fun tb w K ho hK => hD1 w tb K ho hK) (fun tb w K ho hK => hD2 w tb K ho hK)⟩

theorem ex_15 (E M : Nat) (hf : fok E M = true) (md kD kA kB imm : Int) (hm0 : 0 ≤ md) (hm1 : md ≤ 255) (ok : OpOk kD kA kB imm) (text : ByteArray) (R : Nat → Int) (hR : ∀ i, i < 8 → U64 (R i)) (L : List Value) (hL : L.length ≤ 1000) : GoesM 133 E M md 15 kD kA kB imm text R L := by
  obtain ⟨di, hdi, hdi8⟩ := and7 kD ok.d.1 ok.d.2
  obtain ⟨ai, hai, hai8⟩ := and7 kA ok.a.1 ok.a.2
  obtain ⟨bi, hbi, hbi8⟩ := and7 kB ok.b.1 ok.b.2
  have ua := hR ai hai8
  have ub := hR bi hbi8
  have ui := ok.i
  obtain ⟨ci, hci, hci8⟩ := and7u imm ok.i
  have uc := hR ci hci8
  obtain ⟨_, hv, hD⟩ := det230 E M hf md hm0 hm1 (R ai) ua.1 ua.le (R bi) ub.1 ub.le (R ci) uc.1 uc.le
  obtain ⟨r, rfl, hr⟩ := u64_of hv
  exact ⟨up R di r, L, up_u64 hR hr di, .inl rfl, sx_133_15 E M hf md kD kA kB imm text di ai bi hdi hdi8 hai hai8 hbi hbi8 R L hL ci hci hci8 r (fun tb w K ho hK => hD w tb K ho hK)⟩

theorem ex_16 (E M : Nat) (hf : fok E M = true) (md kD kA kB imm : Int) (hm0 : 0 ≤ md) (hm1 : md ≤ 255) (ok : OpOk kD kA kB imm) (text : ByteArray) (R : Nat → Int) (hR : ∀ i, i < 8 → U64 (R i)) (L : List Value) (hL : L.length ≤ 1000) : GoesM 133 E M md 16 kD kA kB imm text R L := by
  obtain ⟨di, hdi, hdi8⟩ := and7 kD ok.d.1 ok.d.2
  obtain ⟨ai, hai, hai8⟩ := and7 kA ok.a.1 ok.a.2
  obtain ⟨bi, hbi, hbi8⟩ := and7 kB ok.b.1 ok.b.2
  have ua := hR ai hai8
  have ub := hR bi hbi8
  have ui := ok.i
  obtain ⟨_, hv, hD⟩ := det231 E M hf (R ai) ua.1 ua.le (R bi) ub.1 ub.le
  obtain ⟨r, rfl, hr⟩ := u64_of hv
  exact ⟨up R di r, L, up_u64 hR hr di, .inl rfl, sx_133_16 E M hf md kD kA kB imm text di ai bi hdi hdi8 hai hai8 hbi hbi8 R L r (fun tb w K ho hK => hD w tb K ho hK)⟩

theorem ex_17 (E M : Nat) (hf : fok E M = true) (md kD kA kB imm : Int) (hm0 : 0 ≤ md) (hm1 : md ≤ 255) (ok : OpOk kD kA kB imm) (text : ByteArray) (R : Nat → Int) (hR : ∀ i, i < 8 → U64 (R i)) (L : List Value) (hL : L.length ≤ 1000) : GoesM 133 E M md 17 kD kA kB imm text R L := by
  obtain ⟨di, hdi, hdi8⟩ := and7 kD ok.d.1 ok.d.2
  obtain ⟨ai, hai, hai8⟩ := and7 kA ok.a.1 ok.a.2
  obtain ⟨bi, hbi, hbi8⟩ := and7 kB ok.b.1 ok.b.2
  have ua := hR ai hai8
  have ub := hR bi hbi8
  have ui := ok.i
  obtain ⟨_, hv, hD⟩ := det232 E M hf (IntKind.u8.wrap imm) (wr8 imm).1 (wr8 imm).2 (R ai) ua.1 ua.le
  obtain ⟨r, rfl, hr⟩ := u64_of hv
  exact ⟨up R di r, L, up_u64 hR hr di, .inl rfl, sx_133_17 E M hf md kD kA kB imm text di ai bi hdi hdi8 hai hai8 hbi hbi8 R L r (fun tb w K ho hK => hD w tb K ho hK)⟩

theorem ex_18 (E M : Nat) (hf : fok E M = true) (md kD kA kB imm : Int) (hm0 : 0 ≤ md) (hm1 : md ≤ 255) (ok : OpOk kD kA kB imm) (text : ByteArray) (R : Nat → Int) (hR : ∀ i, i < 8 → U64 (R i)) (L : List Value) (hL : L.length ≤ 1000) : GoesM 133 E M md 18 kD kA kB imm text R L := by
  obtain ⟨di, hdi, hdi8⟩ := and7 kD ok.d.1 ok.d.2
  obtain ⟨ai, hai, hai8⟩ := and7 kA ok.a.1 ok.a.2
  obtain ⟨bi, hbi, hbi8⟩ := and7 kB ok.b.1 ok.b.2
  have ua := hR ai hai8
  have ub := hR bi hbi8
  have ui := ok.i
  obtain ⟨_, hv, hD⟩ := det233 E M hf (R ai) ua.1 ua.le (R bi) ub.1 ub.le
  obtain ⟨r, rfl, hr⟩ := u64_of hv
  exact ⟨up R di r, L, up_u64 hR hr di, .inl rfl, sx_133_18 E M hf md kD kA kB imm text di ai bi hdi hdi8 hai hai8 hbi hbi8 R L r (fun tb w K ho hK => hD w tb K ho hK)⟩

theorem ex_19 (E M : Nat) (hf : fok E M = true) (md kD kA kB imm : Int) (hm0 : 0 ≤ md) (hm1 : md ≤ 255) (ok : OpOk kD kA kB imm) (text : ByteArray) (R : Nat → Int) (hR : ∀ i, i < 8 → U64 (R i)) (L : List Value) (hL : L.length ≤ 1000) : GoesM 133 E M md 19 kD kA kB imm text R L := by
  obtain ⟨di, hdi, hdi8⟩ := and7 kD ok.d.1 ok.d.2
  obtain ⟨ai, hai, hai8⟩ := and7 kA ok.a.1 ok.a.2
  obtain ⟨bi, hbi, hbi8⟩ := and7 kB ok.b.1 ok.b.2
  have ua := hR ai hai8
  have ub := hR bi hbi8
  have ui := ok.i
  obtain ⟨_, hv, hD⟩ := det234 E M hf (R ai) ua.1 ua.le (R bi) ub.1 ub.le
  obtain ⟨r, rfl, hr⟩ := u64_of hv
  exact ⟨up R di r, L, up_u64 hR hr di, .inl rfl, sx_133_19 E M hf md kD kA kB imm text di ai bi hdi hdi8 hai hai8 hbi hbi8 R L r (fun tb w K ho hK => hD w tb K ho hK)⟩

theorem ex_20 (E M : Nat) (hf : fok E M = true) (md kD kA kB imm : Int) (hm0 : 0 ≤ md) (hm1 : md ≤ 255) (ok : OpOk kD kA kB imm) (text : ByteArray) (R : Nat → Int) (hR : ∀ i, i < 8 → U64 (R i)) (L : List Value) (hL : L.length ≤ 1000) : GoesM 133 E M md 20 kD kA kB imm text R L := by
  obtain ⟨di, hdi, hdi8⟩ := and7 kD ok.d.1 ok.d.2
  obtain ⟨ai, hai, hai8⟩ := and7 kA ok.a.1 ok.a.2
  obtain ⟨bi, hbi, hbi8⟩ := and7 kB ok.b.1 ok.b.2
  have ua := hR ai hai8
  have ub := hR bi hbi8
  have ui := ok.i
  obtain ⟨_, hv, hD⟩ := det235 E M hf (R ai) ua.1 ua.le
  obtain ⟨r, rfl, hr⟩ := u64_of hv
  exact ⟨up R di r, L, up_u64 hR hr di, .inl rfl, sx_133_20 E M hf md kD kA kB imm text di ai bi hdi hdi8 hai hai8 hbi hbi8 R L r (fun tb w K ho hK => hD w tb K ho hK)⟩

theorem ex_21 (E M : Nat) (hf : fok E M = true) (md kD kA kB imm : Int) (hm0 : 0 ≤ md) (hm1 : md ≤ 255) (ok : OpOk kD kA kB imm) (text : ByteArray) (R : Nat → Int) (hR : ∀ i, i < 8 → U64 (R i)) (L : List Value) (hL : L.length ≤ 1000) : GoesM 133 E M md 21 kD kA kB imm text R L := by
  obtain ⟨di, hdi, hdi8⟩ := and7 kD ok.d.1 ok.d.2
  obtain ⟨ai, hai, hai8⟩ := and7 kA ok.a.1 ok.a.2
  obtain ⟨bi, hbi, hbi8⟩ := and7 kB ok.b.1 ok.b.2
  have ua := hR ai hai8
  have ub := hR bi hbi8
  have ui := ok.i
  obtain ⟨_, hv, hD⟩ := det236 E M hf (R ai) ua.1 ua.le
  obtain ⟨r, rfl, hr⟩ := u64_of hv
  exact ⟨up R di r, L, up_u64 hR hr di, .inl rfl, sx_133_21 E M hf md kD kA kB imm text di ai bi hdi hdi8 hai hai8 hbi hbi8 R L r (fun tb w K ho hK => hD w tb K ho hK)⟩

theorem ex_31 (E M : Nat) (hf : fok E M = true) (md kD kA kB imm : Int) (hm0 : 0 ≤ md) (hm1 : md ≤ 255) (ok : OpOk kD kA kB imm) (text : ByteArray) (R : Nat → Int) (hR : ∀ i, i < 8 → U64 (R i)) (L : List Value) (hL : L.length ≤ 1000) : GoesM 133 E M md 31 kD kA kB imm text R L := by
  obtain ⟨di, hdi, hdi8⟩ := and7 kD ok.d.1 ok.d.2
  obtain ⟨ai, hai, hai8⟩ := and7 kA ok.a.1 ok.a.2
  obtain ⟨bi, hbi, hbi8⟩ := and7 kB ok.b.1 ok.b.2
  have ua := hR ai hai8
  have ub := hR bi hbi8
  have ui := ok.i
  obtain ⟨_, hv, hD⟩ := det243 E M hf md hm0 hm1 (R ai) ua.1 ua.le (wrap64 imm) (wrap64_in64 imm).1 (wrap64_in64 imm).2
  obtain ⟨r, rfl, hr⟩ := u64_of hv
  exact ⟨up R di r, L, up_u64 hR hr di, .inl rfl, sx_133_31 E M hf md kD kA kB imm text di ai bi hdi hdi8 hai hai8 hbi hbi8 R L r (fun tb w K ho hK => hD w tb K ho hK)⟩

theorem ex_22 (E M : Nat) (hf : fok E M = true) (md kD kA kB imm : Int) (hm0 : 0 ≤ md) (hm1 : md ≤ 255) (ok : OpOk kD kA kB imm) (text : ByteArray) (R : Nat → Int) (hR : ∀ i, i < 8 → U64 (R i)) (L : List Value) (hL : L.length ≤ 1000) : GoesM 133 E M md 22 kD kA kB imm text R L := by
  obtain ⟨di, hdi, hdi8⟩ := and7 kD ok.d.1 ok.d.2
  obtain ⟨ai, hai, hai8⟩ := and7 kA ok.a.1 ok.a.2
  obtain ⟨bi, hbi, hbi8⟩ := and7 kB ok.b.1 ok.b.2
  have ua := hR ai hai8
  have ub := hR bi hbi8
  have ui := ok.i
  obtain ⟨ci, hci, hci8⟩ := and7u (imm / 8) ⟨by have := ok.i.1; omega, by have := ok.i.1; have := ok.i.2; omega⟩
  have uc := hR ci hci8
  obtain ⟨_, hv1, hD1⟩ := det120 E M hf (R ai) ua.1 ua.le
  obtain ⟨r1, rfl, h1⟩ := u64_of hv1
  obtain ⟨_, hv2, hD2⟩ := det120 E M hf (R bi) ub.1 ub.le
  obtain ⟨r2, rfl, h2⟩ := u64_of hv2
  obtain ⟨_, hv3, hD3⟩ := det120 E M hf (R ci) uc.1 uc.le
  obtain ⟨r3, rfl, h3⟩ := u64_of hv3
  obtain ⟨_, hv, hD4⟩ := det238 E M hf md hm0 hm1 imm ui.1 ui.le r1 h1.1 h1.le r2 h2.1 h2.le r3 h3.1 h3.le
  obtain ⟨f, rfl, f0, f1⟩ := hv
  obtain ⟨s0, hD5⟩ := flagText_df f
  exact ⟨R, L ++ [.string s0], hR, .inr ⟨_, rfl⟩, sx_133_22 E M hf md kD kA kB imm text di ai bi hdi hdi8 hai hai8 hbi hbi8 R L hL ci hci hci8 r1 r2 r3 f s0 (fun tb w K ho hK => hD1 w tb K ho hK) (fun tb w K ho hK => hD2 w tb K ho hK) (fun tb w K ho hK => hD3 w tb K ho hK) (fun tb w K ho hK => hD4 w tb K ho hK) (fun tb w K ho hK => hD5 w tb K ho hK)⟩

theorem ex_28 (E M : Nat) (hf : fok E M = true) (md kD kA kB imm : Int) (hm0 : 0 ≤ md) (hm1 : md ≤ 255) (ok : OpOk kD kA kB imm) (text : ByteArray) (R : Nat → Int) (hR : ∀ i, i < 8 → U64 (R i)) (L : List Value) (hL : L.length ≤ 1000) : GoesM 133 E M md 28 kD kA kB imm text R L := by
  obtain ⟨di, hdi, hdi8⟩ := and7 kD ok.d.1 ok.d.2
  obtain ⟨ai, hai, hai8⟩ := and7 kA ok.a.1 ok.a.2
  obtain ⟨bi, hbi, hbi8⟩ := and7 kB ok.b.1 ok.b.2
  have ua := hR ai hai8
  have ub := hR bi hbi8
  have ui := ok.i
  obtain ⟨_, hv1, hD1⟩ := det120 E M hf (R ai) ua.1 ua.le
  obtain ⟨r1, rfl, h1⟩ := u64_of hv1
  obtain ⟨_, hv, hD2⟩ := det245 E M hf md hm0 hm1 imm ui.1 ui.le r1 h1.1 h1.le
  obtain ⟨_, _, rfl, ⟨f, rfl, f0, f1⟩, fb, rfl, _⟩ := tup2_of hv
  cases fb
  · exact ⟨R, L, hR, .inl rfl, sx_133_28f E M hf md kD kA kB imm text di ai bi hdi hdi8 hai hai8 hbi hbi8 R L hL r1 f (fun tb w K ho hK => hD1 w tb K ho hK) (fun tb w K ho hK => hD2 w tb K ho hK)⟩
  · obtain ⟨s0, hD3⟩ := flagText_df f
    exact ⟨R, L ++ [.string s0], hR, .inr ⟨_, rfl⟩, sx_133_28t E M hf md kD kA kB imm text di ai bi hdi hdi8 hai hai8 hbi hbi8 R L hL r1 f s0 (fun tb w K ho hK => hD1 w tb K ho hK) (fun tb w K ho hK => hD2 w tb K ho hK) (fun tb w K ho hK => hD3 w tb K ho hK)⟩

theorem ex_29 (E M : Nat) (hf : fok E M = true) (md kD kA kB imm : Int) (hm0 : 0 ≤ md) (hm1 : md ≤ 255) (ok : OpOk kD kA kB imm) (text : ByteArray) (R : Nat → Int) (hR : ∀ i, i < 8 → U64 (R i)) (L : List Value) (hL : L.length ≤ 1000) : GoesM 133 E M md 29 kD kA kB imm text R L := by
  obtain ⟨di, hdi, hdi8⟩ := and7 kD ok.d.1 ok.d.2
  obtain ⟨ai, hai, hai8⟩ := and7 kA ok.a.1 ok.a.2
  obtain ⟨bi, hbi, hbi8⟩ := and7 kB ok.b.1 ok.b.2
  have ua := hR ai hai8
  have ub := hR bi hbi8
  have ui := ok.i
  obtain ⟨s0, hD⟩ := exReadFlags_x E M hf md hm0 hm1 text
  exact ⟨R, L ++ [.string s0], hR, .inr ⟨_, rfl⟩, sx_133_29 E M hf md kD kA kB imm text di ai bi hdi hdi8 hai hai8 hbi hbi8 R L hL s0 (fun tb w K ho hK => hD w tb K ho hK)⟩

theorem ex_32 (E M : Nat) (hf : fok E M = true) (md kD kA kB imm : Int) (hm0 : 0 ≤ md) (hm1 : md ≤ 255) (ok : OpOk kD kA kB imm) (text : ByteArray) (R : Nat → Int) (hR : ∀ i, i < 8 → U64 (R i)) (L : List Value) (hL : L.length ≤ 1000) : GoesM 133 E M md 32 kD kA kB imm text R L := by
  obtain ⟨di, hdi, hdi8⟩ := and7 kD ok.d.1 ok.d.2
  obtain ⟨ai, hai, hai8⟩ := and7 kA ok.a.1 ok.a.2
  obtain ⟨bi, hbi, hbi8⟩ := and7 kB ok.b.1 ok.b.2
  have ua := hR ai hai8
  have ub := hR bi hbi8
  have ui := ok.i
  obtain ⟨_, hv, hD0⟩ := det244 E M hf (R ai) ua.1 ua.le
  obtain ⟨_, _, rfl, ⟨lr, rfl, l0, l1⟩, lb, rfl, _⟩ := tup2_of hv
  obtain ⟨_, hv, hD1⟩ := det227 lr l0 l1 lb
  obtain ⟨s0, rfl, _⟩ := str_of hv
  exact ⟨R, L ++ [.string s0], hR, .inr ⟨_, rfl⟩, sx_133_32 E M hf md kD kA kB imm text di ai bi hdi hdi8 hai hai8 hbi hbi8 R L hL lr lb s0 (fun tb w K ho hK => hD0 w tb K ho hK) (fun tb w K ho hK => hD1 w tb K ho hK)⟩

theorem ex_33 (E M : Nat) (hf : fok E M = true) (md kD kA kB imm : Int) (hm0 : 0 ≤ md) (hm1 : md ≤ 255) (ok : OpOk kD kA kB imm) (text : ByteArray) (R : Nat → Int) (hR : ∀ i, i < 8 → U64 (R i)) (L : List Value) (hL : L.length ≤ 1000) : GoesM 133 E M md 33 kD kA kB imm text R L := by
  obtain ⟨di, hdi, hdi8⟩ := and7 kD ok.d.1 ok.d.2
  obtain ⟨ai, hai, hai8⟩ := and7 kA ok.a.1 ok.a.2
  obtain ⟨bi, hbi, hbi8⟩ := and7 kB ok.b.1 ok.b.2
  have ua := hR ai hai8
  have ub := hR bi hbi8
  have ui := ok.i
  obtain ⟨_, hv1, hD1⟩ := det120 E M hf (R ai) ua.1 ua.le
  obtain ⟨r1, rfl, h1⟩ := u64_of hv1
  obtain ⟨_, hv, hD2⟩ := det186 E M hf md hm0 hm1 r1 h1.1 h1.le (wrap64 imm) (wrap64_in64 imm).1 (wrap64_in64 imm).2
  obtain ⟨_, _, rfl, ⟨rr, rfl, _, _⟩, f, rfl, f0, f1⟩ := tup2_of hv
  obtain ⟨s0, hD3⟩ := flagText_df f
  exact ⟨R, L ++ [.string s0], hR, .inr ⟨_, rfl⟩, sx_133_33 E M hf md kD kA kB imm text di ai bi hdi hdi8 hai hai8 hbi hbi8 R L hL r1 rr f s0 (fun tb w K ho hK => hD1 w tb K ho hK) (fun tb w K ho hK => hD2 w tb K ho hK) (fun tb w K ho hK => hD3 w tb K ho hK)⟩
end Go.Proofs.YgcoaaGreat.NatW
