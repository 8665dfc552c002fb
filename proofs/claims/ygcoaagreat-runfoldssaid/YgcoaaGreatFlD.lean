/-
  Floats: roots, sums of products, whole numbers, the lesser and the greater, conversions.
-/
import Derived.Test.YgcoaaGreatFlC
set_option linter.unusedVariables false
set_option maxRecDepth 20000
namespace Go.Proofs.YgcoaaGreat.NatW
open Go.RowKit
attribute [local go_sem] Go.Instr.field Go.asAgg ext421 ext345 ext423 ext346

def sqrtC (x : Nat) : Nat := (FloatKind.f64.format.sqrt x).getD nan64
theorem sqrtC_lt (x : Nat) : sqrtC x < 2 ^ FloatKind.f64.format.width := by
  unfold sqrtC
  cases h : FloatKind.f64.format.sqrt x with
  | none => decide
  | some r => exact Ieee.Format.sqrt_lt _ h
theorem upon_sqrt {o : Oper} {a : Act} {next : Act → World → Prop} {Q : Exit → Act → World → Prop} {w : World} {x : Nat}
    (h : ∀ r w', Like .f64 r (sqrtC x) → Same w w' → Oper.upon Oaag.prog o a next Q (.ok (.value (.float .f64 r)) w')) :
    Oper.upon Oaag.prog o a next Q (Sem.run Oaag.prog (callFunc 440 #[.float .f64 x]) w) := by
  rw [call440]
  cases hs : FloatKind.f64.format.sqrt x with
  | some r =>
    have e : (Extern.MathSqrt.sqrt #[.float .f64 x]).run Oaag.prog w = .ok (.float .f64 r) w := by
      show Sem.run _ (match FloatKind.f64.format.sqrt x with | some r => _ | none => _) w = _
      rw [hs]; rfl
    rw [e]
    exact h r w ⟨Ieee.Format.sqrt_lt _ hs, Or.inl (by rw [sqrtC, hs]; rfl)⟩ (Same.refl _)
  | none =>
    obtain ⟨r, e, h1, h2⟩ := run_draw (P := Oaag.prog) (nanQ_bits .f64 x x) w
    have e' : (Extern.MathSqrt.sqrt #[.float .f64 x]).run Oaag.prog w = .ok (.float .f64 r) w.drew := by
      rw [← e]
      show Sem.run _ (match FloatKind.f64.format.sqrt x with | some r => _ | none => _) w = _
      rw [hs]
    rw [e']
    exact h r _ ⟨h2, Or.inr ⟨h1, by rw [sqrtC, hs]; exact theNan_nan .f64⟩⟩ (Same.drew w)

def fmaC (x y z : Nat) : Nat := (FloatKind.f64.format.fma x y z).getD nan64
theorem fmaC_lt (x y z : Nat) : fmaC x y z < 2 ^ FloatKind.f64.format.width := by
  unfold fmaC
  cases h : FloatKind.f64.format.fma x y z with
  | none => decide
  | some r => exact Ieee.Format.fma_lt _ h
theorem upon_fma {o : Oper} {a : Act} {next : Act → World → Prop} {Q : Exit → Act → World → Prop} {w : World} {x y z : Nat}
    (h : ∀ r w', Like .f64 r (fmaC x y z) → Same w w' → Oper.upon Oaag.prog o a next Q (.ok (.value (.float .f64 r)) w')) :
    Oper.upon Oaag.prog o a next Q (Sem.run Oaag.prog (callFunc 441 #[.float .f64 x, .float .f64 y, .float .f64 z]) w) := by
  rw [call441]
  cases hs : FloatKind.f64.format.fma x y z with
  | some r =>
    have e : (Extern.MathFMA.fma #[.float .f64 x, .float .f64 y, .float .f64 z]).run Oaag.prog w = .ok (.float .f64 r) w := by
      show Sem.run _ (match FloatKind.f64.format.fma x y z with | some r => _ | none => _) w = _
      rw [hs]; rfl
    rw [e]
    exact h r w ⟨Ieee.Format.fma_lt _ hs, Or.inl (by rw [fmaC, hs]; rfl)⟩ (Same.refl _)
  | none =>
    have e' : ∃ r, (Extern.MathFMA.fma #[.float .f64 x, .float .f64 y, .float .f64 z]).run Oaag.prog w = .ok (.float .f64 r) w.drew ∧ nanK .f64 r ∧ r < 2 ^ FloatKind.f64.format.width := by
      obtain ⟨r, e, h1, h2⟩ := run_draw (P := Oaag.prog) (nanQ_bits .f64 (if Extern.MathFMA.isNaN x then (x, y) else if Extern.MathFMA.isNaN y then (y, z) else (z, z)).1 (if Extern.MathFMA.isNaN x then (x, y) else if Extern.MathFMA.isNaN y then (y, z) else (z, z)).2) w
      refine ⟨r, ?_, h1, h2⟩
      rw [← e]
      show Sem.run _ (match FloatKind.f64.format.fma x y z with | some r => _ | none => _) w = _
      rw [hs]
    obtain ⟨r, e, h1, h2⟩ := e'
    rw [e]
    exact h r _ ⟨h2, Or.inr ⟨h1, by rw [fmaC, hs]; exact theNan_nan .f64⟩⟩ (Same.drew w)

/-- A number made whole. -/
def intC (way : Ieee.Toward) (x : Nat) : Nat := if nanK .f64 x then nan64 else FloatKind.f64.encode ((FloatKind.f64.decode x).integral way)
theorem intC_lt (way : Ieee.Toward) (x : Nat) : intC way x < 2 ^ FloatKind.f64.format.width := by
  unfold intC
  split
  · decide
  · exact Ieee.Format.write_lt _ _
theorem write_nan (s : Bool) (t : Nat) (h0 : 0 < t % 4503599627370496) : nanK .f64 (FloatKind.f64.encode (.nan s t)) := by
  unfold nanK
  show (Ieee.Format.read Ieee.double (Ieee.double.word s (Ieee.double.infRung + t % Ieee.double.binade))).isNaN = true
  have e1 : Ieee.Format.signWeight Ieee.double = 9223372036854775808 := by decide
  have e2 : Ieee.Format.infRung Ieee.double = 9218868437227405312 := by decide
  have e3 : Ieee.Format.binade Ieee.double = 4503599627370496 := by decide
  unfold Ieee.Format.read Ieee.Format.word
  rw [e1, e2, e3]
  have hm := Nat.mod_lt t (show 0 < 4503599627370496 by decide)
  generalize t % 4503599627370496 = m at *
  have e : (if s = true then 9223372036854775808 + (9218868437227405312 + m) else 9218868437227405312 + m) % 9223372036854775808 = 9218868437227405312 + m := by
    split <;> omega
  simp only [e]
  rw [if_neg (by omega), if_neg (by omega), if_neg (by omega)]
  rfl
theorem run_int {P : Program} (name : String) (way : Ieee.Toward) (x : Nat) (hx : x < 2 ^ FloatKind.f64.format.width) (w : World) :
    ∃ r w', (Extern.MathFloor.toIntegral name way #[.float .f64 x]).run P w = .ok (.float .f64 r) w' ∧ Like .f64 r (intC way x) ∧ Same w w' := by
  have e0 : (Extern.MathFloor.toIntegral name way #[.float .f64 x]).run P w = (match FloatKind.f64.decode x with
    | .nan s t =>
      if FloatKind.f64.format.quiet t = t then pure (.float .f64 x) else do
      let kept ← choose _
      pure (.float .f64 (if kept == 1 then x else FloatKind.f64.encode (.nan s (FloatKind.f64.format.quiet t))))
    | d => pure (.float .f64 (FloatKind.f64.encode (d.integral way))) : Sem Value).run P w := rfl
  rw [e0]
  cases hd : FloatKind.f64.decode x with
  | number s m i =>
    have hn : ¬ nanK .f64 x := by unfold nanK; rw [show FloatKind.f64.format.read x = _ from hd]; simp [Ieee.Datum.isNaN]
    refine ⟨_, w, rfl, ⟨Ieee.Format.write_lt _ _, Or.inl ?_⟩, Same.refl _⟩
    rw [intC, if_neg hn, hd]
  | infinity s =>
    have hn : ¬ nanK .f64 x := by unfold nanK; rw [show FloatKind.f64.format.read x = _ from hd]; simp [Ieee.Datum.isNaN]
    refine ⟨_, w, rfl, ⟨Ieee.Format.write_lt _ _, Or.inl ?_⟩, Same.refl _⟩
    rw [intC, if_neg hn, hd]
  | nan s t =>
    have hn : nanK .f64 x := by unfold nanK; rw [show FloatKind.f64.format.read x = _ from hd]; rfl
    have hc : nanK .f64 (intC way x) := by rw [intC, if_pos hn]; exact theNan_nan .f64
    by_cases hq : FloatKind.f64.format.quiet t = t
    · refine ⟨x, w, ?_, ⟨hx, Or.inr ⟨hn, hc⟩⟩, Same.refl _⟩
      simp only [hq, if_true]; rfl
    · have hb : nanK .f64 (FloatKind.f64.encode (.nan s (FloatKind.f64.format.quiet t))) := by
        refine write_nan s _ ?_
        show 0 < (t ||| 2251799813685248) % 4503599627370496
        have : (t ||| 2251799813685248).testBit 51 = true := by
          rw [Nat.testBit_or, show Nat.testBit 2251799813685248 51 = true by decide, Bool.or_true]
        have h2 : ((t ||| 2251799813685248) % 2 ^ 52).testBit 51 = true := by rw [Nat.testBit_mod_two_pow]; simp [this]
        rw [show (4503599627370496 : Nat) = 2 ^ 52 by decide]
        rcases Nat.eq_zero_or_pos ((t ||| 2251799813685248) % 2 ^ 52) with h | h
        · rw [h] at h2; simp at h2
        · exact h
      simp only [hq, if_false]
      refine ⟨_, w.drew, rfl, ?_, Same.drew w⟩
      split
      · exact ⟨hx, Or.inr ⟨hn, hc⟩⟩
      · exact ⟨Ieee.Format.write_lt _ _, Or.inr ⟨hb, hc⟩⟩
theorem upon_447 {o : Oper} {a : Act} {next : Act → World → Prop} {Q : Exit → Act → World → Prop} {w : World} {x : Nat} (hx : x < 2 ^ FloatKind.f64.format.width)
    (h : ∀ r w', Like .f64 r (intC .even x) → Same w w' → Oper.upon Oaag.prog o a next Q (.ok (.value (.float .f64 r)) w')) :
    Oper.upon Oaag.prog o a next Q (Sem.run Oaag.prog (callFunc 447 #[.float .f64 x]) w) := by
  rw [call447]
  obtain ⟨r, w', e, h1, h2⟩ := run_int (P := Oaag.prog) "math.RoundToEven" .even x hx w
  rw [e]
  exact h r w' h1 h2
theorem upon_456 {o : Oper} {a : Act} {next : Act → World → Prop} {Q : Exit → Act → World → Prop} {w : World} {x : Nat} (hx : x < 2 ^ FloatKind.f64.format.width)
    (h : ∀ r w', Like .f64 r (intC .zero x) → Same w w' → Oper.upon Oaag.prog o a next Q (.ok (.value (.float .f64 r)) w')) :
    Oper.upon Oaag.prog o a next Q (Sem.run Oaag.prog (callFunc 456 #[.float .f64 x]) w) := by
  rw [call456]
  obtain ⟨r, w', e, h1, h2⟩ := run_int (P := Oaag.prog) "math.archTrunc" .zero x hx w
  rw [e]
  exact h r w' h1 h2
theorem upon_458 {o : Oper} {a : Act} {next : Act → World → Prop} {Q : Exit → Act → World → Prop} {w : World} {x : Nat} (hx : x < 2 ^ FloatKind.f64.format.width)
    (h : ∀ r w', Like .f64 r (intC .up x) → Same w w' → Oper.upon Oaag.prog o a next Q (.ok (.value (.float .f64 r)) w')) :
    Oper.upon Oaag.prog o a next Q (Sem.run Oaag.prog (callFunc 458 #[.float .f64 x]) w) := by
  rw [call458]
  obtain ⟨r, w', e, h1, h2⟩ := run_int (P := Oaag.prog) "math.archCeil" .up x hx w
  rw [e]
  exact h r w' h1 h2
theorem upon_460 {o : Oper} {a : Act} {next : Act → World → Prop} {Q : Exit → Act → World → Prop} {w : World} {x : Nat} (hx : x < 2 ^ FloatKind.f64.format.width)
    (h : ∀ r w', Like .f64 r (intC .down x) → Same w w' → Oper.upon Oaag.prog o a next Q (.ok (.value (.float .f64 r)) w')) :
    Oper.upon Oaag.prog o a next Q (Sem.run Oaag.prog (callFunc 460 #[.float .f64 x]) w) := by
  rw [call460]
  obtain ⟨r, w', e, h1, h2⟩ := run_int (P := Oaag.prog) "math.archFloor" .down x hx w
  rw [e]
  exact h r w' h1 h2

theorem nanQ_minmax (k : FloatKind) (b : Bool) (x y : Nat) : nanQ k (.nanMinMax k b x y) := by
  refine ⟨rfl, fun t => ?_⟩; cases k
  · exact ⟨cut32_nan t, cut32_lt t⟩
  · exact ⟨cut64_nan t, cut64_lt t⟩
def minC (k : FloatKind) (x y : Nat) : Nat := match k.format.order x y with
  | none => theNan k
  | some .lt => x
  | some .gt => y
  | some .eq => if (k.decode x).neg then x else y
def maxC (k : FloatKind) (x y : Nat) : Nat := match k.format.order x y with
  | none => theNan k
  | some .lt => y
  | some .gt => x
  | some .eq => if (k.decode x).neg then y else x
theorem theNan_lt (k : FloatKind) : theNan k < 2 ^ k.format.width := by cases k <;> decide
theorem minC_lt {k : FloatKind} {x y : Nat} (hx : x < 2 ^ k.format.width) (hy : y < 2 ^ k.format.width) : minC k x y < 2 ^ k.format.width := by
  unfold minC
  split
  · exact theNan_lt k
  · exact hx
  · exact hy
  · split <;> assumption
theorem maxC_lt {k : FloatKind} {x y : Nat} (hx : x < 2 ^ k.format.width) (hy : y < 2 ^ k.format.width) : maxC k x y < 2 ^ k.format.width := by
  unfold maxC
  split
  · exact theNan_lt k
  · exact hy
  · exact hx
  · split <;> assumption
theorem run_min {P : Program} (k : FloatKind) (x y : Nat) (hx : x < 2 ^ k.format.width) (hy : y < 2 ^ k.format.width) (w : World) :
    ∃ r w', (Builtin.min2 (.float k x) (.float k y)).run P w = .ok (.float k r) w' ∧ Like k r (minC k x y) ∧ Same w w' := by
  have e0 : Builtin.min2 (.float k x) (.float k y) = (match k.format.order x y with
    | none => do pure (.float k (← choose (.nanMinMax k false x y)))
    | some .lt => pure (.float k x)
    | some .gt => pure (.float k y)
    | some .eq => pure (.float k (if (k.decode x).neg then x else y))) := rfl
  rw [e0]
  cases h : k.format.order x y with
  | none =>
    obtain ⟨r, e, h1, h2⟩ := run_draw (P := P) (nanQ_minmax k false x y) w
    exact ⟨r, w.drew, e, ⟨h2, Or.inr ⟨h1, by rw [minC, h]; exact theNan_nan k⟩⟩, Same.drew w⟩
  | some o =>
    refine ⟨minC k x y, w, ?_, Like.self (minC_lt hx hy), Same.refl _⟩
    rw [minC, h]
    cases o <;> rfl
theorem run_max {P : Program} (k : FloatKind) (x y : Nat) (hx : x < 2 ^ k.format.width) (hy : y < 2 ^ k.format.width) (w : World) :
    ∃ r w', (Builtin.max2 (.float k x) (.float k y)).run P w = .ok (.float k r) w' ∧ Like k r (maxC k x y) ∧ Same w w' := by
  have e0 : Builtin.max2 (.float k x) (.float k y) = (match k.format.order x y with
    | none => do pure (.float k (← choose (.nanMinMax k true x y)))
    | some .lt => pure (.float k y)
    | some .gt => pure (.float k x)
    | some .eq => pure (.float k (if (k.decode x).neg then y else x))) := rfl
  rw [e0]
  cases h : k.format.order x y with
  | none =>
    obtain ⟨r, e, h1, h2⟩ := run_draw (P := P) (nanQ_minmax k true x y) w
    exact ⟨r, w.drew, e, ⟨h2, Or.inr ⟨h1, by rw [maxC, h]; exact theNan_nan k⟩⟩, Same.drew w⟩
  | some o =>
    refine ⟨maxC k x y, w, ?_, Like.self (maxC_lt hx hy), Same.refl _⟩
    rw [maxC, h]
    cases o <;> rfl
theorem upon_min {P : Program} {o : Oper} {a : Act} {next : Act → World → Prop} {Q : Exit → Act → World → Prop} {w : World} {k : FloatKind} {x y : Nat} {ts : Array TypeId} {t : TypeId} (hx : x < 2 ^ k.format.width) (hy : y < 2 ^ k.format.width)
    (h : ∀ r w', Like k r (minC k x y) → Same w w' → Oper.upon P o a next Q (.ok (.value (.float k r)) w')) :
    Oper.upon P o a next Q ((Sem.run P (Builtin.min_ ts t #[.float k x, .float k y]) w).andThen fun a w' => .ok (.value a) w') := by
  obtain ⟨r, w', e, h1, h2⟩ := run_min (P := P) k x y hx hy w
  have e1 : Sem.run P (Builtin.min_ ts t #[.float k x, .float k y]) w = .ok (.float k r) w' := by
    rw [← e]
    show Sem.run P (List.foldlM Builtin.min2 (.float k x) [.float k y]) w = _
    simp [List.foldlM]
  rw [e1]
  exact h r w' h1 h2
theorem upon_max {P : Program} {o : Oper} {a : Act} {next : Act → World → Prop} {Q : Exit → Act → World → Prop} {w : World} {k : FloatKind} {x y : Nat} {ts : Array TypeId} {t : TypeId} (hx : x < 2 ^ k.format.width) (hy : y < 2 ^ k.format.width)
    (h : ∀ r w', Like k r (maxC k x y) → Same w w' → Oper.upon P o a next Q (.ok (.value (.float k r)) w')) :
    Oper.upon P o a next Q ((Sem.run P (Builtin.max_ ts t #[.float k x, .float k y]) w).andThen fun a w' => .ok (.value a) w') := by
  obtain ⟨r, w', e, h1, h2⟩ := run_max (P := P) k x y hx hy w
  have e1 : Sem.run P (Builtin.max_ ts t #[.float k x, .float k y]) w = .ok (.float k r) w' := by
    rw [← e]
    show Sem.run P (List.foldlM Builtin.max2 (.float k x) [.float k y]) w = _
    simp [List.foldlM]
  rw [e1]
  exact h r w' h1 h2

theorem neg_lt {k : FloatKind} {x : Nat} (h : x < 2 ^ k.format.width) : Op.negFloat k x < 2 ^ k.format.width := by
  unfold Op.negFloat
  exact Nat.xor_lt_two_pow h (Nat.pow_lt_pow_right (by decide) (by unfold Ieee.Format.width; omega))
theorem upon_neg {P : Program} {o : Oper} {a : Act} {next : Act → World → Prop} {Q : Exit → Act → World → Prop} {w : World} {k : FloatKind} {x : Nat}
    (h : Oper.upon P o a next Q (.ok (.value (.float k (Op.negFloat k x))) w)) :
    Oper.upon P o a next Q ((Sem.run P (Op.unary .neg (.float k x)) w).andThen fun a w' => .ok (.value a) w') := h
end Go.Proofs.YgcoaaGreat.NatW
