/-
  Floats: the entries of package math that the model runs in place; numbers alike but for a NaN's bits.
-/
import Derived.Test.YgcoaaGreatSfS
import Derived.Test.YgcoaaGreatSoH
import Derived.Test.YgcoaaGreatSoftI
import Derived.Laws.FloatArith
import Derived.Laws.Externs
set_option linter.unusedVariables false
set_option maxRecDepth 20000
namespace Go.Proofs.YgcoaaGreat.NatW
open Go.RowKit
attribute [local go_sem] Go.Instr.field Go.asAgg

/-- The world but for the count of what was drawn. -/
structure Same (w w' : World) : Prop where
  heap : w'.heap = w.heap
  os : w'.os = w.os
  tape : w'.tape = w.tape
  output : w'.output = w.output
theorem Same.refl (w : World) : Same w w := ⟨rfl, rfl, rfl, rfl⟩
theorem Same.trans {a b c : World} (h : Same a b) (h' : Same b c) : Same a c := ⟨h'.heap.trans h.heap, h'.os.trans h.os, h'.tape.trans h.tape, h'.output.trans h.output⟩
theorem Same.drew (w : World) : Same w w.drew := ⟨rfl, rfl, rfl, rfl⟩
theorem Same.below {w w' : World} (h : Same w w') : Below w.heap.size w w' := ⟨h.os, h.tape, h.output, by rw [h.heap]; exact Nat.le_refl _, fun b _ => by rw [h.heap]⟩

theorem call345 (args : Array Value) (w : World) : (callFunc 345 args).run Oaag.prog w = ((Extern.MathFloatBits.float64bits args).run Oaag.prog w).andThen fun v w' => .ok (.value v) w' :=
  run_callFunc_extern Oaag.func345 (by kernel_rfl) (by kernel_rfl) (by kernel_rfl) (by kernel_rfl) args w
theorem call346 (args : Array Value) (w : World) : (callFunc 346 args).run Oaag.prog w = ((Extern.MathFloatBits.float32bits args).run Oaag.prog w).andThen fun v w' => .ok (.value v) w' :=
  run_callFunc_extern Oaag.func346 (by kernel_rfl) (by kernel_rfl) (by kernel_rfl) (by kernel_rfl) args w
theorem call421 (args : Array Value) (w : World) : (callFunc 421 args).run Oaag.prog w = ((Extern.MathFloatBits.float64frombits args).run Oaag.prog w).andThen fun v w' => .ok (.value v) w' :=
  run_callFunc_extern Oaag.func421 (by kernel_rfl) (by kernel_rfl) (by kernel_rfl) (by kernel_rfl) args w
theorem call423 (args : Array Value) (w : World) : (callFunc 423 args).run Oaag.prog w = ((Extern.MathFloatBits.float32frombits args).run Oaag.prog w).andThen fun v w' => .ok (.value v) w' :=
  run_callFunc_extern Oaag.func423 (by kernel_rfl) (by kernel_rfl) (by kernel_rfl) (by kernel_rfl) args w
theorem call440 (args : Array Value) (w : World) : (callFunc 440 args).run Oaag.prog w = ((Extern.MathSqrt.sqrt args).run Oaag.prog w).andThen fun v w' => .ok (.value v) w' :=
  run_callFunc_extern Oaag.func440 (by kernel_rfl) (by kernel_rfl) (by kernel_rfl) (by kernel_rfl) args w
theorem call441 (args : Array Value) (w : World) : (callFunc 441 args).run Oaag.prog w = ((Extern.MathFMA.fma args).run Oaag.prog w).andThen fun v w' => .ok (.value v) w' :=
  run_callFunc_extern Oaag.func441 (by kernel_rfl) (by kernel_rfl) (by kernel_rfl) (by kernel_rfl) args w
theorem call447 (args : Array Value) (w : World) : (callFunc 447 args).run Oaag.prog w = ((Extern.MathFloor.toIntegral "math.RoundToEven" .even args).run Oaag.prog w).andThen fun v w' => .ok (.value v) w' :=
  run_callFunc_extern Oaag.func447 (by kernel_rfl) (by kernel_rfl) (by kernel_rfl) (by kernel_rfl) args w
theorem call456 (args : Array Value) (w : World) : (callFunc 456 args).run Oaag.prog w = ((Extern.MathFloor.toIntegral "math.archTrunc" .zero args).run Oaag.prog w).andThen fun v w' => .ok (.value v) w' :=
  run_callFunc_extern Oaag.func456 (by kernel_rfl) (by kernel_rfl) (by kernel_rfl) (by kernel_rfl) args w
theorem call458 (args : Array Value) (w : World) : (callFunc 458 args).run Oaag.prog w = ((Extern.MathFloor.toIntegral "math.archCeil" .up args).run Oaag.prog w).andThen fun v w' => .ok (.value v) w' :=
  run_callFunc_extern Oaag.func458 (by kernel_rfl) (by kernel_rfl) (by kernel_rfl) (by kernel_rfl) args w
theorem call460 (args : Array Value) (w : World) : (callFunc 460 args).run Oaag.prog w = ((Extern.MathFloor.toIntegral "math.archFloor" .down args).run Oaag.prog w).andThen fun v w' => .ok (.value v) w' :=
  run_callFunc_extern Oaag.func460 (by kernel_rfl) (by kernel_rfl) (by kernel_rfl) (by kernel_rfl) args w

theorem ext421 (a : Int) (w : World) : (callFunc 421 #[.int .u64 a]).run Oaag.prog w = .ok (.value (.float .f64 a.toNat)) w := by rw [call421]; rfl
theorem ext345 (a : Nat) (w : World) : (callFunc 345 #[.float .f64 a]).run Oaag.prog w = .ok (.value (.int .u64 a)) w := by rw [call345]; rfl
theorem ext423 (a : Int) (w : World) : (callFunc 423 #[.int .u32 a]).run Oaag.prog w = .ok (.value (.float .f32 a.toNat)) w := by rw [call423]; rfl
theorem ext346 (a : Nat) (w : World) : (callFunc 346 #[.float .f32 a]).run Oaag.prog w = .ok (.value (.int .u32 a)) w := by rw [call346]; rfl

/-- The bits stand for no number. -/
abbrev nanK (k : FloatKind) (b : Nat) : Prop := (k.format.read b).isNaN = true
/-- Alike: the same bits, or two NaNs. -/
def Like (k : FloatKind) (r c : Nat) : Prop := r < 2 ^ k.format.width ∧ (r = c ∨ nanK k r ∧ nanK k c)

theorem order_self (k : FloatKind) (b : Nat) : (k.format.order b b != some .eq) = (k.format.read b).isNaN := by
  unfold Ieee.Format.order
  generalize k.format.read b = d
  cases d with
  | nan s f => simp [Ieee.Datum.order, Ieee.Datum.isNaN]
  | infinity s => simp [Ieee.Datum.order, Ieee.Datum.isNaN]
  | number s m i => simp [Ieee.Datum.order, Ieee.Datum.isNaN]

theorem cut64_nan (t : Nat) : nanK .f64 ((t % 2) * 2 ^ 63 + 0x7ff0000000000000 + 1 + (t / 2) % (2 ^ 52 - 1)) := by
  unfold nanK
  have e1 : Ieee.Format.signWeight FloatKind.f64.format = 9223372036854775808 := by decide
  have e2 : Ieee.Format.infRung FloatKind.f64.format = 9218868437227405312 := by decide
  have e3 : Ieee.Format.binade FloatKind.f64.format = 4503599627370496 := by decide
  unfold Ieee.Format.read
  rw [e1, e2, e3]
  rw [show (2 : Nat) ^ 63 = 9223372036854775808 by decide, show (2 : Nat) ^ 52 - 1 = 4503599627370495 by decide, show (0x7ff0000000000000 : Nat) = 9218868437227405312 by decide]
  have hm := Nat.mod_lt (t / 2) (show 0 < 4503599627370495 by decide)
  generalize t / 2 % 4503599627370495 = m at *
  have ht : t % 2 < 2 := Nat.mod_lt _ (by decide)
  generalize t % 2 = s at *
  have e : (s * 9223372036854775808 + 9218868437227405312 + 1 + m) % 9223372036854775808 = 9218868437227405312 + 1 + m := by omega
  simp only [e]
  rw [if_neg (by omega), if_neg (by omega), if_neg (by omega)]
  rfl
theorem cut32_nan (t : Nat) : nanK .f32 ((t % 2) * 2 ^ 31 + 0x7f800000 + 1 + (t / 2) % (2 ^ 23 - 1)) := by
  unfold nanK
  have e1 : Ieee.Format.signWeight FloatKind.f32.format = 2147483648 := by decide
  have e2 : Ieee.Format.infRung FloatKind.f32.format = 2139095040 := by decide
  have e3 : Ieee.Format.binade FloatKind.f32.format = 8388608 := by decide
  unfold Ieee.Format.read
  rw [e1, e2, e3]
  rw [show (2 : Nat) ^ 31 = 2147483648 by decide, show (2 : Nat) ^ 23 - 1 = 8388607 by decide, show (0x7f800000 : Nat) = 2139095040 by decide]
  have hm := Nat.mod_lt (t / 2) (show 0 < 8388607 by decide)
  generalize t / 2 % 8388607 = m at *
  have ht : t % 2 < 2 := Nat.mod_lt _ (by decide)
  generalize t % 2 = s at *
  have e : (s * 2147483648 + 2139095040 + 1 + m) % 2147483648 = 2139095040 + 1 + m := by omega
  simp only [e]
  rw [if_neg (by omega), if_neg (by omega), if_neg (by omega)]
  rfl
theorem cut64_lt (t : Nat) : (t % 2) * 2 ^ 63 + 0x7ff0000000000000 + 1 + (t / 2) % (2 ^ 52 - 1) < 2 ^ 64 := by
  have hm := Nat.mod_lt (t / 2) (show 0 < 2 ^ 52 - 1 by decide)
  omega
theorem cut32_lt (t : Nat) : (t % 2) * 2 ^ 31 + 0x7f800000 + 1 + (t / 2) % (2 ^ 23 - 1) < 2 ^ 32 := by
  have hm := Nat.mod_lt (t / 2) (show 0 < 2 ^ 23 - 1 by decide)
  omega

/-- A question whose answer is a NaN. -/
def nanQ (k : FloatKind) (q : Question) : Prop := q.forced = false ∧ ∀ t, nanK k (q.cut t) ∧ q.cut t < 2 ^ k.format.width
theorem nanQ_bits (k : FloatKind) (x y : Nat) : nanQ k (.nanBits k x y) := by
  refine ⟨rfl, fun t => ?_⟩; cases k
  · exact ⟨cut32_nan t, cut32_lt t⟩
  · exact ⟨cut64_nan t, cut64_lt t⟩
theorem nanQ_conv (k : FloatKind) (x : Nat) : nanQ k (.nanConv k x) := by
  refine ⟨rfl, fun t => ?_⟩; cases k
  · exact ⟨cut32_nan t, cut32_lt t⟩
  · exact ⟨cut64_nan t, cut64_lt t⟩

theorem run_draw {P : Program} {k : FloatKind} {q : Question} (hq : nanQ k q) (w : World) : ∃ r, (do pure (Value.float k (← choose q)) : Sem Value).run P w = .ok (.float k r) w.drew ∧ nanK k r ∧ r < 2 ^ k.format.width := by
  refine ⟨q.cut (w.tape w.drawn q), ?_, (hq.2 _).1, (hq.2 _).2⟩
  show (if q.forced then _ else _ : Result Value) = _
  rw [hq.1]
  rfl
end Go.Proofs.YgcoaaGreat.NatW
