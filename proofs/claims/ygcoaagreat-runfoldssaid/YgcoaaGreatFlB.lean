/-
  Floats: + - * / and conversions, whatever a NaN's bits; the package of the machine's own floats's first functions.
-/
import Derived.Test.YgcoaaGreatFlA
set_option linter.unusedVariables false
set_option maxRecDepth 20000
namespace Go.Proofs.YgcoaaGreat.NatW
open Go.RowKit
attribute [local go_sem] Go.Instr.field Go.asAgg ext421 ext345 ext423 ext346

def nan64 : Nat := 9221120237041090560
def nan32 : Nat := 2143289344
def theNan : FloatKind → Nat
  | .f32 => nan32
  | .f64 => nan64
theorem theNan_nan (k : FloatKind) : nanK k (theNan k) := by cases k <;> decide

/-- What an operation gives. -/
def fa (op : BinOp) (k : FloatKind) (x y : Nat) : Nat := (floatBits op k x y).getD (theNan k)

theorem run_arith {P : Program} {op : BinOp} (hop : op = .add ∨ op = .sub ∨ op = .mul ∨ op = .quo) (t : TypeId) (k : FloatKind) (x y : Nat) (w : World) :
    ∃ r w', (binOp op t (.float k x) (.float k y)).run P w = .ok (.float k r) w' ∧ Like k r (fa op k x y) ∧ Same w w' := by
  cases h : floatBits op k x y with
  | some r =>
    refine ⟨r, w, run_float_arith _ op t k x y r h, ⟨?_, Or.inl ?_⟩, Same.refl _⟩
    · rcases hop with rfl | rfl | rfl | rfl
      · exact Ieee.Format.add_lt _ h
      · exact Ieee.Format.sub_lt _ h
      · exact Ieee.Format.mul_lt _ h
      · exact Ieee.Format.div_lt _ h
    · rw [fa, h]; rfl
  | none =>
    obtain ⟨r, e, h1, h2⟩ := run_draw (P := P) (nanQ_bits k x y) w
    refine ⟨r, w.drew, ?_, ⟨h2, Or.inr ⟨h1, ?_⟩⟩, Same.drew w⟩
    · rw [← e]
      rcases hop with rfl | rfl | rfl | rfl
      all_goals (unfold binOp; simp only [ne_eq, not_true_eq_false, if_false]; unfold Op.floatArith; simp only [floatBits] at h; simp only [h, pure_bind])
    · rw [fa, h]; exact theNan_nan k

theorem upon_arith {P : Program} {o : Oper} {a : Act} {next : Act → World → Prop} {Q : Exit → Act → World → Prop} {w : World} {op : BinOp} (hop : op = .add ∨ op = .sub ∨ op = .mul ∨ op = .quo) {t : TypeId} {k : FloatKind} {x y : Nat}
    (h : ∀ r w', Like k r (fa op k x y) → Same w w' → Oper.upon P o a next Q (.ok (.value (.float k r)) w')) :
    Oper.upon P o a next Q ((Sem.run P (binOp op t (.float k x) (.float k y)) w).andThen fun a w' => .ok (.value a) w') := by
  obtain ⟨r, w', e, h1, h2⟩ := run_arith (P := P) hop t k x y w
  rw [e]
  exact h r w' h1 h2

theorem from64_is (a : Int) (w : World) (K : Ending → World → Prop) (hK : ∀ w', Same w w' → K (.returned (.float .f64 a.toNat)) w') : Calls Oaag.prog 379 #[.int .u64 a] w K := by
  have HK := hide hK; clear hK
  go_enter Oaag.func379, Oaag.ntmps379
  go_wp2_with fail
  exact unhide HK _ (Same.refl _)
theorem from32_is (a : Int) (w : World) (K : Ending → World → Prop) (hK : ∀ w', Same w w' → K (.returned (.float .f32 a.toNat)) w') : Calls Oaag.prog 381 #[.int .u32 a] w K := by
  have HK := hide hK; clear hK
  go_enter Oaag.func381, Oaag.ntmps381
  go_wp2_with fail
  exact unhide HK _ (Same.refl _)
theorem bits64_is (r : Nat) (w : World) (K : Ending → World → Prop) (hK : ∀ w', Same w w' → K (.returned (.int .u64 r)) w') : Calls Oaag.prog 422 #[.float .f64 r] w K := by
  have HK := hide hK; clear hK
  go_enter Oaag.func422, Oaag.ntmps422
  go_wp2_with fail
  exact unhide HK _ (Same.refl _)
theorem bits32_is (r : Nat) (w : World) (K : Ending → World → Prop) (hK : ∀ w', Same w w' → K (.returned (.int .u32 r)) w') : Calls Oaag.prog 424 #[.float .f32 r] w K := by
  have HK := hide hK; clear hK
  go_enter Oaag.func424, Oaag.ntmps424
  go_wp2_with fail
  exact unhide HK _ (Same.refl _)

/-- A float's bits, a NaN made THE NaN. -/
def put (k : FloatKind) (c : Nat) : Nat := if nanK k c then theNan k else c
theorem put_like {k : FloatKind} {r c : Nat} (h : Like k r c) : put k r = put k c := by
  obtain ⟨_, rfl | ⟨h1, h2⟩⟩ := h
  · rfl
  · rw [put, put, if_pos h1, if_pos h2]
theorem order_nan {k : FloatKind} {r : Nat} {b : Bool} (h : (k.format.order r r != some .eq) = b) : b = true ↔ nanK k r := by
  subst h; show _ ↔ (_ = true); rw [order_self]

theorem put64_is (r c : Nat) (hl : Like .f64 r c) (w : World) (K : Ending → World → Prop) (hK : ∀ w', Same w w' → K (.returned (.int .u64 (put .f64 c))) w') : Calls Oaag.prog 380 #[.float .f64 r] w K := by
  rw [← put_like hl] at hK
  have HK := hide hK; clear hK
  obtain ⟨b, hb⟩ : ∃ b, (FloatKind.f64.format.order r r != some .eq) = b := ⟨_, rfl⟩
  have hn := order_nan hb
  cases b with
  | true =>
    have hn' := hn.1 rfl
    clear hn
    go_enter Oaag.func380, Oaag.ntmps380
    go_wp2_with fail
    have := unhide HK w (Same.refl _)
    rw [put, if_pos hn'] at this
    exact this
  | false =>
    have hn' : ¬ nanK .f64 r := fun h => by have := hn.2 h; cases this
    clear hn
    go_enter Oaag.func380, Oaag.ntmps380
    go_wp2_with fail
    refine bits64_is r w _ ?_
    intro w1 s1
    go_wp2_with fail
    have := unhide HK w1 s1
    rw [put, if_neg hn'] at this
    exact this
theorem put32_is (r c : Nat) (hl : Like .f32 r c) (w : World) (K : Ending → World → Prop) (hK : ∀ w', Same w w' → K (.returned (.int .u32 (put .f32 c))) w') : Calls Oaag.prog 382 #[.float .f32 r] w K := by
  rw [← put_like hl] at hK
  have HK := hide hK; clear hK
  obtain ⟨b, hb⟩ : ∃ b, (FloatKind.f32.format.order r r != some .eq) = b := ⟨_, rfl⟩
  have hn := order_nan hb
  cases b with
  | true =>
    have hn' := hn.1 rfl
    clear hn
    go_enter Oaag.func382, Oaag.ntmps382
    go_wp2_with fail
    have := unhide HK w (Same.refl _)
    rw [put, if_pos hn'] at this
    exact this
  | false =>
    have hn' : ¬ nanK .f32 r := fun h => by have := hn.2 h; cases this
    clear hn
    go_enter Oaag.func382, Oaag.ntmps382
    go_wp2_with fail
    refine bits32_is r w _ ?_
    intro w1 s1
    go_wp2_with fail
    have := unhide HK w1 s1
    rw [put, if_neg hn'] at this
    exact this
end Go.Proofs.YgcoaaGreat.NatW
