/-
  ex.Step: Print, PrintE, PrintF.
-/
import Derived.Test.YgcoaaGreatExN
import Derived.Test.YgcoaaGreatOrN
import Derived.Test.YgcoaaGreatSxQ
import Derived.Test.YgcoaaGreatShT
import Derived.Test.YgcoaaGreatDiB
import Derived.Test.YgcoaaGreatShX
import Derived.Test.YgcoaaGreatDgX
import Derived.Test.YgcoaaGreatTfX
import Derived.Test.YgcoaaGreatDetY
import Derived.Test.YgcoaaGreatDetE
set_option linter.unusedVariables false
set_option linter.unusedSimpArgs false
set_option maxRecDepth 20000
namespace Go.Proofs.YgcoaaGreat.NatW
open Go.RowKit
open Go.Proofs.YgcoaaGreat.Det

theorem xshort_x (E M : Nat) (hf : fok E M = true) (x : Int) : ∃ v, DecV v ∧ DR 167 (argsAt [.v (fmt E M), .v (.int .u64 x)]) v :=
  detP [.v (fmt E M), .v (.int .u64 x)] 2 (by decide) rfl (by kernel_rfl) (by kernel_rfl) (by simp [Arg.ok, selfV, selfC, fmt]) (xshort_run w0 1 E M hf x ⟨by omega, w0_row⟩ rfl) (by rintro _ ⟨_, _, _, rfl, _⟩; rfl)
theorem digE_x (E M : Nat) (hf : fok E M = true) (x : Int) (p : Nat) (hp : p ≤ 65535) : ∃ v, DgER v ∧ DR 176 (argsAt [.v (fmt E M), .v (.int .u64 x), .v (.int .u16 p)]) v :=
  detP [.v (fmt E M), .v (.int .u64 x), .v (.int .u16 p)] 3 (by decide) rfl (by kernel_rfl) (by kernel_rfl) (by simp [Arg.ok, selfV, selfC, fmt]) (digE_run w0 E M hf x p hp rfl) (by rintro _ ⟨_, _, rfl, _⟩; rfl)
theorem digF_x (E M : Nat) (hf : fok E M = true) (x : Int) (p : Nat) (hp : p ≤ 65535) : ∃ v, StR 100000 v ∧ DR 178 (argsAt [.v (fmt E M), .v (.int .u64 x), .v (.int .u16 p)]) v :=
  detP [.v (fmt E M), .v (.int .u64 x), .v (.int .u16 p)] 3 (by decide) rfl (by kernel_rfl) (by kernel_rfl) (by simp [Arg.ok, selfV, selfC, fmt]) (digF_run w0 E M hf x p hp rfl) (by rintro _ ⟨_, rfl, _⟩; rfl)

theorem ex_14 (E M : Nat) (hf : fok E M = true) (md kD kA kB imm : Int) (ok : OpOk kD kA kB imm) (text : ByteArray) (R : Nat → Int) (hR : ∀ i, i < 8 → U64 (R i)) (L : List Value) (hL : L.length ≤ 1000) : GoesE 81 E M md 14 kD kA kB imm text R L := by
  obtain ⟨di, hdi, hdi8⟩ := and7 kD ok.d.1 ok.d.2
  obtain ⟨ai, hai, hai8⟩ := and7 kA ok.a.1 ok.a.2
  obtain ⟨bi, hbi, hbi8⟩ := and7 kB ok.b.1 ok.b.2
  have ua := hR ai hai8
  have i1 := ok.i.1
  obtain ⟨_, ⟨nn, dd, ee, rfl, hdd, he1, he2⟩, hD0⟩ := xshort_x E M hf (R ai)
  obtain ⟨_, ⟨sA, rfl, hsA⟩, hD1⟩ := detQ [.v (.agg #[.bool nn, .string dd, .int .i16 ee])] 1 (by decide) rfl (by kernel_rfl) (by kernel_rfl) (by simp [Arg.ok, selfV, selfC]) (text_ret nn dd (by omega) ee he1 he2) (by rintro _ ⟨_, rfl, _⟩; rfl)
  obtain ⟨_, ⟨s0, rfl, _⟩, hD2⟩ := orName229_det E M hf (R ai) ua sA (by omega)
  exact ⟨R, L ++ [.string s0], hR, .inr ⟨_, rfl⟩, sx_81_14 E M hf md kD kA kB imm text di ai bi hdi hdi8 hai hai8 hbi hbi8 R L hL s0 (fun tb => show_132 E M hf (R ai) nn dd ee sA s0 tb (fun w K ho hK => hD0 w tb K ho hK) (fun w K ho hK => hD1 w tb K ho hK) (fun w K ho hK => hD2 w tb K ho hK))⟩

theorem ex_23 (E M : Nat) (hf : fok E M = true) (md kD kA kB imm : Int) (ok : OpOk kD kA kB imm) (text : ByteArray) (R : Nat → Int) (hR : ∀ i, i < 8 → U64 (R i)) (L : List Value) (hL : L.length ≤ 1000) : GoesM 133 E M md 23 kD kA kB imm text R L := by
  obtain ⟨di, hdi, hdi8⟩ := and7 kD ok.d.1 ok.d.2
  obtain ⟨ai, hai, hai8⟩ := and7 kA ok.a.1 ok.a.2
  obtain ⟨bi, hbi, hbi8⟩ := and7 kB ok.b.1 ok.b.2
  have ua := hR ai hai8
  have i1 := ok.i.1
  obtain ⟨nb, hnb⟩ : ∃ nb, (bits .and .u64 (R ai) (2 ^ (E + M)) != 0) = nb := ⟨_, rfl⟩
  obtain ⟨P, hP⟩ : ∃ P : Nat, imm % 2001 = (P : Int) := ⟨(imm % 2001).toNat, by omega⟩
  obtain ⟨_, ⟨s, e, rfl, hs, he1, he2⟩, hD1⟩ := digE_x E M hf (R ai) P (by omega)
  rw [← hP] at hD1
  obtain ⟨_, ⟨t, rfl, ht⟩, hD2⟩ := textE_det nb s (by omega) e he1 he2
  obtain ⟨_, ⟨u, rfl, _⟩, hD3⟩ := orName229_det E M hf (R ai) ua t ht
  exact ⟨R, L ++ [.string u], hR, .inr ⟨_, rfl⟩, sx_133_23 E M hf md kD kA kB imm text di ai bi hdi hdi8 hai hai8 hbi hbi8 R L hL u (fun tb => dig_239_23 E M hf (R ai) kD kA kB imm ok.i text nb hnb s t u e (fun tb w K ho hK => hD1 w tb K ho hK) (fun tb w K ho hK => hD2 w tb K ho hK) (fun tb w K ho hK => hD3 w tb K ho hK) tb)⟩

theorem ex_24 (E M : Nat) (hf : fok E M = true) (md kD kA kB imm : Int) (ok : OpOk kD kA kB imm) (text : ByteArray) (R : Nat → Int) (hR : ∀ i, i < 8 → U64 (R i)) (L : List Value) (hL : L.length ≤ 1000) : GoesM 133 E M md 24 kD kA kB imm text R L := by
  obtain ⟨di, hdi, hdi8⟩ := and7 kD ok.d.1 ok.d.2
  obtain ⟨ai, hai, hai8⟩ := and7 kA ok.a.1 ok.a.2
  obtain ⟨bi, hbi, hbi8⟩ := and7 kB ok.b.1 ok.b.2
  have ua := hR ai hai8
  have i1 := ok.i.1
  obtain ⟨nb, hnb⟩ : ∃ nb, (bits .and .u64 (R ai) (2 ^ (E + M)) != 0) = nb := ⟨_, rfl⟩
  obtain ⟨P, hP⟩ : ∃ P : Nat, imm % 2001 = (P : Int) := ⟨(imm % 2001).toNat, by omega⟩
  obtain ⟨_, ⟨s, rfl, hs⟩, hD1⟩ := digF_x E M hf (R ai) P (by omega)
  obtain ⟨t, ht, hD2⟩ := textF_x nb s (by omega) P (by omega)
  rw [← hP] at hD1 hD2
  obtain ⟨_, ⟨u, rfl, _⟩, hD3⟩ := orName229_det E M hf (R ai) ua t ht
  exact ⟨R, L ++ [.string u], hR, .inr ⟨_, rfl⟩, sx_133_24 E M hf md kD kA kB imm text di ai bi hdi hdi8 hai hai8 hbi hbi8 R L hL u (fun tb => dig_239_24 E M hf (R ai) kD kA kB imm ok.i text nb hnb s t u (fun tb w K ho hK => hD1 w tb K ho hK) (fun tb w K ho hK => hD2 w tb K ho hK) (fun tb w K ho hK => hD3 w tb K ho hK) tb)⟩
end Go.Proofs.YgcoaaGreat.NatW
