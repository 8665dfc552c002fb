/-
  Package hmodel: Scan, with tape zero: what its walk stands on.
-/
import Derived.Test.YgcoaaGreatHmA
import Derived.Test.YgcoaaGreatDmB
import Derived.Test.YgcoaaGreatHxA
set_option linter.unusedVariables false
set_option linter.unusedSimpArgs false
set_option maxRecDepth 20000
namespace Go.Proofs.YgcoaaGreat.NatW
open Go.RowKit
open Go.Proofs.YgcoaaGreat.Det
attribute [local go_sem] Go.Instr.field Go.asAgg

theorem hrun_df (s : ByteArray) (hs : s.size ≤ 1000000) (b : Bool) : ∃ n : Nat, n ≤ s.size ∧ DF 370 #[.string s, .bool b] (.int .i64 n) := by
  obtain ⟨_, ⟨n, rfl, hn⟩, hD⟩ := zdet [.v (.string s), .v (.bool b)] 2 (by decide) rfl (by kernel_rfl) (by kernel_rfl) (by simp [Arg.ok, selfV, selfC]) (hrun_z s hs b).t (by rintro _ ⟨_, rfl, _⟩; rfl)
  exact ⟨n, hn, fun w tb K ho hK => hD w tb K ho hK⟩
theorem hcut_df (s : ByteArray) (hs : s.size ≤ 1000000) (a b : Int) : ∃ x y c, DF 369 #[.string s, .int .u8 a, .int .u8 b] (.tuple #[.string x, .string y, .bool c]) ∧ ((c = false ∧ x = s ∧ y = ⟨#[]⟩) ∨ (c = true ∧ x.size + 1 + y.size = s.size)) := by
  obtain ⟨_, ⟨x, y, c, rfl, hn⟩, hD⟩ := zdet [.v (.string s), .v (.int .u8 a), .v (.int .u8 b)] 3 (by decide) rfl (by kernel_rfl) (by kernel_rfl) (by simp [Arg.ok, selfV, selfC]) (hcut_z s hs a b).t (by rintro _ ⟨_, _, _, rfl, _⟩; rfl)
  exact ⟨x, y, c, fun w tb K ho hK => hD w tb K ho hK, hn⟩
theorem hwrong_i (s : ByteArray) (hs : s.size ≤ 1000000) (p : Int) (h0 : 0 ≤ p) (h1 : p ≤ s.size) : ZRet 368 #[.string s, .int .i64 p] (fun r => ∃ g : Int, r = .agg #[.int .u8 3, .bool false, .string ⟨#[]⟩, .int .i16 0, .int .i64 p, .int .i32 g]) := by
  obtain ⟨P, rfl⟩ := Int.eq_ofNat_of_zero_le h0
  exact hwrong_z s hs P (by omega)

/-- The answer's box, still empty, and the memory below it as it was. -/
structure Emh (tb : Nat) (w W : World) : Prop where
  on : On tb W
  tape : W.tape = fun _ _ => 0
  below : Below w.heap.size w W
  lt : w.heap.size < W.heap.size
  c0 : W.cell? ⟨w.heap.size, 0, none⟩ = some (.int .u8 0)
  f0 : W.frozen? ⟨w.heap.size, 0, none⟩ = false
  c1 : W.cell? ⟨w.heap.size, 1, none⟩ = some (.bool false)
  f1 : W.frozen? ⟨w.heap.size, 1, none⟩ = false
  c2 : W.cell? ⟨w.heap.size, 2, none⟩ = some (.string ⟨#[]⟩)
  f2 : W.frozen? ⟨w.heap.size, 2, none⟩ = false
  c3 : W.cell? ⟨w.heap.size, 3, none⟩ = some (.int .i16 0)
  f3 : W.frozen? ⟨w.heap.size, 3, none⟩ = false
  c4 : W.cell? ⟨w.heap.size, 4, none⟩ = some (.int .i64 0)
  f4 : W.frozen? ⟨w.heap.size, 4, none⟩ = false
  c5 : W.cell? ⟨w.heap.size, 5, none⟩ = some (.int .i32 0)
  f5 : W.frozen? ⟨w.heap.size, 5, none⟩ = false
theorem Emh.new {tb : Nat} {w : World} (ho : On tb w) (ht : w.tape = fun _ _ => 0) : Emh tb w (w.alloc (Obj.cells #[Value.int IntKind.u8 0, Value.bool false, Value.string ⟨#[]⟩, Value.int IntKind.i16 0, Value.int IntKind.i64 0, Value.int IntKind.i32 0] 253)) := ⟨ho.later ((Below.refl _ _).alloc (Nat.le_refl _) _), ht, (Below.refl _ _).alloc (Nat.le_refl _) _, by simp, by simp, by simp, by simp, by simp, by simp, by simp, by simp, by simp, by simp, by simp, by simp, by simp⟩
theorem Emh.later {tb : Nat} {w W W' : World} (h : Emh tb w W) (hb : Below W.heap.size W W') : Emh tb w W' :=
  ⟨h.on.later hb, hb.tape.trans h.tape, h.below.trans (hb.mono (Nat.le_of_lt h.lt)), Nat.lt_of_lt_of_le h.lt hb.size, (hb.cell (p := ⟨w.heap.size, 0, none⟩) h.lt).trans h.c0, (hb.frozen h.lt).trans h.f0, (hb.cell (p := ⟨w.heap.size, 1, none⟩) h.lt).trans h.c1, (hb.frozen h.lt).trans h.f1, (hb.cell (p := ⟨w.heap.size, 2, none⟩) h.lt).trans h.c2, (hb.frozen h.lt).trans h.f2, (hb.cell (p := ⟨w.heap.size, 3, none⟩) h.lt).trans h.c3, (hb.frozen h.lt).trans h.f3, (hb.cell (p := ⟨w.heap.size, 4, none⟩) h.lt).trans h.c4, (hb.frozen h.lt).trans h.f4, (hb.cell (p := ⟨w.heap.size, 5, none⟩) h.lt).trans h.c5, (hb.frozen h.lt).trans h.f5⟩
theorem numR_hex (n : Bool) {d : ByteArray} {e : Int} (h : d.size ≤ 800 ∧ -16000 ≤ e ∧ e ≤ 16000) : NumR (scanV 0 n d e 0 0) := ⟨0, n, d, e, 0, 0, rfl, by decide, by decide, h.1, by omega, by omega⟩
end Go.Proofs.YgcoaaGreat.NatW
