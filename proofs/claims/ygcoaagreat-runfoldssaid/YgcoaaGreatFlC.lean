/-
  Floats: the package of the machine's own floats, the functions of one operation.
-/
import Derived.Test.YgcoaaGreatFlB
set_option linter.unusedVariables false
set_option maxRecDepth 20000
namespace Go.Proofs.YgcoaaGreat.NatW
open Go.RowKit
attribute [local go_sem] Go.Instr.field Go.asAgg ext421 ext345 ext423 ext346

/-- The function returns this value, and turns nothing. -/
def NRet (g : FuncId) (args : Array Value) (v : Value) : Prop := ∀ (w : World) (K : Ending → World → Prop), (∀ w', Same w w' → K (.returned v) w') → Calls Oaag.prog g args w K
/-- The function returns a float like this one, and turns nothing. -/
def FRet (k : FloatKind) (g : FuncId) (args : Array Value) (c : Nat) : Prop := ∀ (w : World) (K : Ending → World → Prop), (∀ r w', Like k r c → Same w w' → K (.returned (.float k r)) w') → Calls Oaag.prog g args w K
theorem NRet.ret {g : FuncId} {args : Array Value} {v : Value} (h : NRet g args v) : Ret g args (fun x => x = v) := fun w K hK => h w K fun w' s => hK v w' rfl s.below

theorem fa_lt (op : BinOp) (k : FloatKind) (x y : Nat) : fa op k x y < 2 ^ k.format.width := by
  unfold fa
  cases h : floatBits op k x y with
  | none => cases k <;> decide
  | some r =>
    cases op <;> simp only [floatBits] at h <;> first | exact Ieee.Format.add_lt _ h | exact Ieee.Format.sub_lt _ h | exact Ieee.Format.mul_lt _ h | exact Ieee.Format.div_lt _ h | cases h
theorem put_lt {k : FloatKind} {c : Nat} (h : c < 2 ^ k.format.width) : put k c < 2 ^ k.format.width := by
  unfold put
  split
  · cases k <;> decide
  · exact h
theorem w64 : (2 : Nat) ^ FloatKind.f64.format.width = 18446744073709551616 := by decide
theorem w32 : (2 : Nat) ^ FloatKind.f32.format.width = 4294967296 := by decide
theorem Like.self {k : FloatKind} {c : Nat} (h : c < 2 ^ k.format.width) : Like k c c := ⟨h, Or.inl rfl⟩
def U32 (a : Int) : Prop := 0 ≤ a ∧ a < 4294967296
theorem u64_put {c : Nat} (h : c < 2 ^ FloatKind.f64.format.width) : U64 (put .f64 c : Nat) := by
  have := put_lt h; rw [w64] at this; exact ⟨by omega, by omega⟩
theorem u32_put {c : Nat} (h : c < 2 ^ FloatKind.f32.format.width) : U32 (put .f32 c : Nat) := by
  have := put_lt h; rw [w32] at this; exact ⟨by omega, by omega⟩
theorem toNat64 {a : Int} (h : U64 a) : a.toNat < 2 ^ FloatKind.f64.format.width := by
  rw [w64]; have := h.1; have := h.2; omega
theorem toNat32 {a : Int} (h : U32 a) : a.toNat < 2 ^ FloatKind.f32.format.width := by
  rw [w32]; have := h.1; have := h.2; omega

theorem op64_ex (op a b : Int) : ∃ r : Nat, U64 r ∧ NRet 273 #[.int .u8 op, .int .u64 a, .int .u64 b] (.int .u64 r) := by
  by_cases h0 : op = 0
  · subst h0
    refine ⟨put .f64 (fa .add .f64 a.toNat b.toNat), u64_put (fa_lt _ _ _ _), ?_⟩
    intro w K hK
    have HK := hide hK; clear hK
    have S := Same.refl w
    go_enter Oaag.func273, Oaag.ntmps273
    go_wp2_with (first | (refine from64_is _ _ _ ?_; intro w1 s1; replace S := Same.trans S s1; clear s1) | (refine put64_is _ _ (by assumption) _ _ ?_; intro w1 s1; replace S := Same.trans S s1; clear s1) | (refine upon_arith (by simp) ?_; intro r w1 hl s1; replace S := Same.trans S s1; clear s1; rewrite [Oper.upon_value]))
    exact unhide HK _ S
  have e0 : (op == 0) = false := by simpa using h0
  by_cases h1 : op = 1
  · subst h1
    refine ⟨put .f64 (fa .sub .f64 a.toNat b.toNat), u64_put (fa_lt _ _ _ _), ?_⟩
    intro w K hK
    have HK := hide hK; clear hK
    have S := Same.refl w
    go_enter Oaag.func273, Oaag.ntmps273
    go_wp2_with (first | (refine from64_is _ _ _ ?_; intro w1 s1; replace S := Same.trans S s1; clear s1) | (refine put64_is _ _ (by assumption) _ _ ?_; intro w1 s1; replace S := Same.trans S s1; clear s1) | (refine upon_arith (by simp) ?_; intro r w1 hl s1; replace S := Same.trans S s1; clear s1; rewrite [Oper.upon_value]))
    exact unhide HK _ S
  have e1 : (op == 1) = false := by simpa using h1
  by_cases h2 : op = 2
  · subst h2
    refine ⟨put .f64 (fa .mul .f64 a.toNat b.toNat), u64_put (fa_lt _ _ _ _), ?_⟩
    intro w K hK
    have HK := hide hK; clear hK
    have S := Same.refl w
    go_enter Oaag.func273, Oaag.ntmps273
    go_wp2_with (first | (refine from64_is _ _ _ ?_; intro w1 s1; replace S := Same.trans S s1; clear s1) | (refine put64_is _ _ (by assumption) _ _ ?_; intro w1 s1; replace S := Same.trans S s1; clear s1) | (refine upon_arith (by simp) ?_; intro r w1 hl s1; replace S := Same.trans S s1; clear s1; rewrite [Oper.upon_value]))
    exact unhide HK _ S
  have e2 : (op == 2) = false := by simpa using h2
  by_cases h3 : op = 3
  · subst h3
    refine ⟨put .f64 (fa .quo .f64 a.toNat b.toNat), u64_put (fa_lt _ _ _ _), ?_⟩
    intro w K hK
    have HK := hide hK; clear hK
    have S := Same.refl w
    go_enter Oaag.func273, Oaag.ntmps273
    go_wp2_with (first | (refine from64_is _ _ _ ?_; intro w1 s1; replace S := Same.trans S s1; clear s1) | (refine put64_is _ _ (by assumption) _ _ ?_; intro w1 s1; replace S := Same.trans S s1; clear s1) | (refine upon_arith (by simp) ?_; intro r w1 hl s1; replace S := Same.trans S s1; clear s1; rewrite [Oper.upon_value]))
    exact unhide HK _ S
  have e3 : (op == 3) = false := by simpa using h3
  refine ⟨nan64, by constructor <;> decide, ?_⟩
  clear h0 h1 h2 h3
  intro w K hK
  have HK := hide hK; clear hK
  have S := Same.refl w
  go_enter Oaag.func273, Oaag.ntmps273
  go_wp2_with (first | (refine from64_is _ _ _ ?_; intro w1 s1; replace S := Same.trans S s1; clear s1) | (refine put64_is _ _ (by assumption) _ _ ?_; intro w1 s1; replace S := Same.trans S s1; clear s1) | (refine upon_arith (by simp) ?_; intro r w1 hl s1; replace S := Same.trans S s1; clear s1; rewrite [Oper.upon_value]))
  exact unhide HK _ S

theorem op32_ex (op a b : Int) : ∃ r : Nat, U32 r ∧ NRet 274 #[.int .u8 op, .int .u32 a, .int .u32 b] (.int .u32 r) := by
  by_cases h0 : op = 0
  · subst h0
    refine ⟨put .f32 (fa .add .f32 a.toNat b.toNat), u32_put (fa_lt _ _ _ _), ?_⟩
    intro w K hK
    have HK := hide hK; clear hK
    have S := Same.refl w
    go_enter Oaag.func274, Oaag.ntmps274
    go_wp2_with (first | (refine from32_is _ _ _ ?_; intro w1 s1; replace S := Same.trans S s1; clear s1) | (refine put32_is _ _ (by assumption) _ _ ?_; intro w1 s1; replace S := Same.trans S s1; clear s1) | (refine upon_arith (by simp) ?_; intro r w1 hl s1; replace S := Same.trans S s1; clear s1; rewrite [Oper.upon_value]))
    exact unhide HK _ S
  have e0 : (op == 0) = false := by simpa using h0
  by_cases h1 : op = 1
  · subst h1
    refine ⟨put .f32 (fa .sub .f32 a.toNat b.toNat), u32_put (fa_lt _ _ _ _), ?_⟩
    intro w K hK
    have HK := hide hK; clear hK
    have S := Same.refl w
    go_enter Oaag.func274, Oaag.ntmps274
    go_wp2_with (first | (refine from32_is _ _ _ ?_; intro w1 s1; replace S := Same.trans S s1; clear s1) | (refine put32_is _ _ (by assumption) _ _ ?_; intro w1 s1; replace S := Same.trans S s1; clear s1) | (refine upon_arith (by simp) ?_; intro r w1 hl s1; replace S := Same.trans S s1; clear s1; rewrite [Oper.upon_value]))
    exact unhide HK _ S
  have e1 : (op == 1) = false := by simpa using h1
  by_cases h2 : op = 2
  · subst h2
    refine ⟨put .f32 (fa .mul .f32 a.toNat b.toNat), u32_put (fa_lt _ _ _ _), ?_⟩
    intro w K hK
    have HK := hide hK; clear hK
    have S := Same.refl w
    go_enter Oaag.func274, Oaag.ntmps274
    go_wp2_with (first | (refine from32_is _ _ _ ?_; intro w1 s1; replace S := Same.trans S s1; clear s1) | (refine put32_is _ _ (by assumption) _ _ ?_; intro w1 s1; replace S := Same.trans S s1; clear s1) | (refine upon_arith (by simp) ?_; intro r w1 hl s1; replace S := Same.trans S s1; clear s1; rewrite [Oper.upon_value]))
    exact unhide HK _ S
  have e2 : (op == 2) = false := by simpa using h2
  by_cases h3 : op = 3
  · subst h3
    refine ⟨put .f32 (fa .quo .f32 a.toNat b.toNat), u32_put (fa_lt _ _ _ _), ?_⟩
    intro w K hK
    have HK := hide hK; clear hK
    have S := Same.refl w
    go_enter Oaag.func274, Oaag.ntmps274
    go_wp2_with (first | (refine from32_is _ _ _ ?_; intro w1 s1; replace S := Same.trans S s1; clear s1) | (refine put32_is _ _ (by assumption) _ _ ?_; intro w1 s1; replace S := Same.trans S s1; clear s1) | (refine upon_arith (by simp) ?_; intro r w1 hl s1; replace S := Same.trans S s1; clear s1; rewrite [Oper.upon_value]))
    exact unhide HK _ S
  have e3 : (op == 3) = false := by simpa using h3
  refine ⟨nan32, by constructor <;> decide, ?_⟩
  clear h0 h1 h2 h3
  intro w K hK
  have HK := hide hK; clear hK
  have S := Same.refl w
  go_enter Oaag.func274, Oaag.ntmps274
  go_wp2_with (first | (refine from32_is _ _ _ ?_; intro w1 s1; replace S := Same.trans S s1; clear s1) | (refine put32_is _ _ (by assumption) _ _ ?_; intro w1 s1; replace S := Same.trans S s1; clear s1) | (refine upon_arith (by simp) ?_; intro r w1 hl s1; replace S := Same.trans S s1; clear s1; rewrite [Oper.upon_value]))
  exact unhide HK _ S

end Go.Proofs.YgcoaaGreat.NatW
