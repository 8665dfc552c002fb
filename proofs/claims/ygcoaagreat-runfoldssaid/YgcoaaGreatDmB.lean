/-
  Package dmodel: number, with tape zero: what its walk stands on.
-/
import Derived.Test.YgcoaaGreatDmA
import Derived.Test.YgcoaaGreatDetD
set_option linter.unusedVariables false
set_option linter.unusedSimpArgs false
set_option maxRecDepth 20000
namespace Go.Proofs.YgcoaaGreat.NatW
open Go.RowKit
open Go.Proofs.YgcoaaGreat.Det
attribute [local go_sem] Go.Instr.field Go.asAgg

/-- This value in every memory that holds the table somewhere. -/
def DF (g : FuncId) (args : Array Value) (v : Value) : Prop := ∀ w tb (K : Ending → World → Prop), On tb w → (∀ w', Below w.heap.size w w' → K (.returned v) w') → Calls Oaag.prog g args w K
theorem DF.run {g : FuncId} {args : Array Value} {v : Value} (h : DF g args v) {w : World} {tb : Nat} {K : Ending → World → Prop} (ho : On tb w) (hK : ∀ w', Below w.heap.size w w' → K (.returned v) w') : Calls Oaag.prog g args w K := h w tb K ho hK
theorem ZRet.run {g : FuncId} {args : Array Value} {Ψ : Value → Prop} (h : ZRet g args Ψ) {w : World} {K : Ending → World → Prop} (ht : w.tape = (fun _ _ => 0)) (hK : ∀ v w', Ψ v → Below w.heap.size w w' → K (.returned v) w') : Calls Oaag.prog g args w K := h w K ht hK
theorem Ret.go {g : FuncId} {args : Array Value} {Ψ : Value → Prop} (h : Ret g args Ψ) {w : World} {K : Ending → World → Prop} (hK : ∀ v w', Ψ v → Below w.heap.size w w' → K (.returned v) w') : Calls Oaag.prog g args w K := h w K hK

/-- Runs with tape zero in a memory that holds the table. -/
def TRet (g : FuncId) (args : Array Value) (Ψ : Value → Prop) : Prop := ∀ (w : World) (tb : Nat) (K : Ending → World → Prop), On tb w → w.tape = (fun _ _ => 0) → (∀ v w', Ψ v → Below w.heap.size w w' → K (.returned v) w') → Calls Oaag.prog g args w K
theorem TRet.run {g : FuncId} {args : Array Value} {Ψ : Value → Prop} (h : TRet g args Ψ) {w : World} {tb : Nat} {K : Ending → World → Prop} (ho : On tb w) (ht : w.tape = (fun _ _ => 0)) (hK : ∀ v w', Ψ v → Below w.heap.size w w' → K (.returned v) w') : Calls Oaag.prog g args w K := h w tb K ho ht hK

theorem zdet {g : FuncId} (l : List Arg) (n : Nat) (hg : Go.Proofs.Oaag.Twn.okL.contains g = true) (hn : l.length = n) (hft : noFT (Go.Proofs.Oaag.Twn.V Oaag.prog).FT g n = true) (hp : (Oaag.prog.funcs[g]?.map fun fn => decide (n ≤ fn.params.size)) = some true) (hok : l.all Arg.ok = true)
    {Ψ : Value → Prop} (hr : TRet g (argsAt l 1) Ψ) (hΨ : ∀ v, Ψ v → flatT v = true) : ∃ v, Ψ v ∧ DR g (argsAt l) v :=
  detP l n hg hn hft hp hok (hr w0 1 _ ⟨by omega, w0_row⟩ rfl fun v w' hv _ => ⟨v, rfl, hv⟩) hΨ
theorem ZRet.t {g : FuncId} {args : Array Value} {Ψ : Value → Prop} (h : ZRet g args Ψ) : TRet g args Ψ := fun w tb K _ ht hK => h w K ht hK

theorem digits_df (s : ByteArray) (hs : s.size ≤ 1000000) : ∃ n : Nat, n ≤ s.size ∧ DF 418 #[.string s] (.int .i64 n) := by
  obtain ⟨v, ⟨n, rfl, hn⟩, hD⟩ := zdet [.v (.string s)] 1 (by decide) rfl (by kernel_rfl) (by kernel_rfl) (by simp [Arg.ok, selfV, selfC]) (digits_z s hs).t (by rintro _ ⟨_, rfl, _⟩; rfl)
  exact ⟨n, hn, fun w tb K ho hK => hD w tb K ho hK⟩
theorem cut_df (s : ByteArray) (hs : s.size ≤ 1000000) (a b : Int) : ∃ n : Int, -1 ≤ n ∧ n < s.size ∧ DF 417 #[.string s, .int .u8 a, .int .u8 b] (.int .i64 n) := by
  obtain ⟨v, ⟨n, rfl, h1, h2⟩, hD⟩ := zdet [.v (.string s), .v (.int .u8 a), .v (.int .u8 b)] 3 (by decide) rfl (by kernel_rfl) (by kernel_rfl) (by simp [Arg.ok, selfV, selfC]) (cut_z s hs a b).t (by rintro _ ⟨_, rfl, _⟩; rfl)
  exact ⟨n, h1, h2, fun w tb K ho hK => hD w tb K ho hK⟩
theorem matched_df (s v : ByteArray) (hs : s.size ≤ 1000000) (hv : v.size ≤ 1000000) : ∃ n : Nat, n ≤ s.size ∧ n ≤ v.size ∧ DF 363 #[.string s, .string v] (.int .i64 n) := by
  obtain ⟨_, ⟨n, rfl, h1, h2⟩, hD⟩ := zdet [.v (.string s), .v (.string v)] 2 (by decide) rfl (by kernel_rfl) (by kernel_rfl) (by simp [Arg.ok, selfV, selfC]) (matched_z s v hs hv).t (by rintro _ ⟨_, rfl, _⟩; rfl)
  exact ⟨n, h1, h2, fun w tb K ho hK => hD w tb K ho hK⟩
theorem wrong_i (s : ByteArray) (hs : s.size ≤ 1000000) (p : Int) (h0 : 0 ≤ p) (h1 : p ≤ s.size) : ZRet 364 #[.string s, .int .i64 p] (fun r => ∃ g : Int, r = .agg #[.int .u8 3, .bool false, .string ⟨#[]⟩, .int .i16 0, .int .i64 p, .int .i32 g]) := by
  obtain ⟨P, rfl⟩ := Int.eq_ofNat_of_zero_le h0
  exact wrong_z s hs P (by omega)

/-- The answer's box, still empty, and the memory below it as it was. -/
structure Emp (tb : Nat) (w W : World) : Prop where
  on : On tb W
  tape : W.tape = fun _ _ => 0
  below : Below w.heap.size w W
  lt : w.heap.size < W.heap.size
  c0 : W.cell? ⟨w.heap.size, 0, none⟩ = some (.int .u8 0)
  f0 : W.frozen? ⟨w.heap.size, 0, none⟩ = false
  c1 : W.cell? ⟨w.heap.size, 1, none⟩ = some (.bool false)
  f1 : W.frozen? ⟨w.heap.size, 1, none⟩ = false
  c2 : W.cell? ⟨w.heap.size, 2, none⟩ = some (.string ⟨#[]⟩)
  f2 : W.frozen? ⟨w.heap.size, 2, none⟩ = false
  c3 : W.cell? ⟨w.heap.size, 3, none⟩ = some (.int .i16 0)
  f3 : W.frozen? ⟨w.heap.size, 3, none⟩ = false
  c4 : W.cell? ⟨w.heap.size, 4, none⟩ = some (.int .i64 0)
  f4 : W.frozen? ⟨w.heap.size, 4, none⟩ = false
  c5 : W.cell? ⟨w.heap.size, 5, none⟩ = some (.int .i32 0)
  f5 : W.frozen? ⟨w.heap.size, 5, none⟩ = false
theorem Emp.new {tb : Nat} {w : World} (ho : On tb w) (ht : w.tape = fun _ _ => 0) : Emp tb w (w.alloc (Obj.cells #[Value.int IntKind.u8 0, Value.bool false, Value.string ⟨#[]⟩, Value.int IntKind.i16 0, Value.int IntKind.i64 0, Value.int IntKind.i32 0] 244)) := ⟨ho.later ((Below.refl _ _).alloc (Nat.le_refl _) _), ht, (Below.refl _ _).alloc (Nat.le_refl _) _, by simp, by simp, by simp, by simp, by simp, by simp, by simp, by simp, by simp, by simp, by simp, by simp, by simp⟩
theorem Emp.later {tb : Nat} {w W W' : World} (h : Emp tb w W) (hb : Below W.heap.size W W') : Emp tb w W' :=
  ⟨h.on.later hb, hb.tape.trans h.tape, h.below.trans (hb.mono (Nat.le_of_lt h.lt)), Nat.lt_of_lt_of_le h.lt hb.size, (hb.cell (p := ⟨w.heap.size, 0, none⟩) h.lt).trans h.c0, (hb.frozen h.lt).trans h.f0, (hb.cell (p := ⟨w.heap.size, 1, none⟩) h.lt).trans h.c1, (hb.frozen h.lt).trans h.f1, (hb.cell (p := ⟨w.heap.size, 2, none⟩) h.lt).trans h.c2, (hb.frozen h.lt).trans h.f2, (hb.cell (p := ⟨w.heap.size, 3, none⟩) h.lt).trans h.c3, (hb.frozen h.lt).trans h.f3, (hb.cell (p := ⟨w.heap.size, 4, none⟩) h.lt).trans h.c4, (hb.frozen h.lt).trans h.f4, (hb.cell (p := ⟨w.heap.size, 5, none⟩) h.lt).trans h.c5, (hb.frozen h.lt).trans h.f5⟩
theorem Emp.drew {tb : Nat} {w W : World} (h : Emp tb w W) : Emp tb w W.drew := h.later ⟨rfl, rfl, rfl, Nat.le_refl _, fun _ _ => rfl⟩

/-- What number answers. -/
def NumR (v : Value) : Prop := ∃ k n d e p g, v = scanV k n d e p g ∧ 0 ≤ k ∧ k ≤ 4 ∧ d.size ≤ 800 ∧ -32768 ≤ e ∧ e ≤ 32767
theorem numR_wrong (p g : Int) : NumR (scanV 3 false ⟨#[]⟩ 0 p g) := ⟨3, false, ⟨#[]⟩, 0, p, g, rfl, by decide, by decide, by decide, by decide, by decide⟩
theorem numR_big : NumR (scanV 4 false ⟨#[]⟩ 0 0 0) := ⟨4, false, ⟨#[]⟩, 0, 0, 0, rfl, by decide, by decide, by decide, by decide, by decide⟩
theorem numR_fin (n : Bool) {d : ByteArray} {e : Int} (h : Canon d e) : NumR (scanV 0 n d e 0 0) := ⟨0, n, d, e, 0, 0, rfl, by decide, by decide, by rcases h with h | h <;> omega, by rcases h with h | h <;> omega, by rcases h with h | h <;> omega⟩
theorem sz_nil : (ByteArray.mk #[]).size ≤ 500000 := Nat.zero_le _
theorem sz_app (a b : ByteArray) (ha : a.size ≤ 500000) (hb : b.size ≤ 500000) : (a ++ b).size ≤ 1000000 := by rw [ByteArray.size_append]; omega
end Go.Proofs.YgcoaaGreat.NatW
