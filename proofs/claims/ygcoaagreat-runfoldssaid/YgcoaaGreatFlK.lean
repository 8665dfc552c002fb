/-
  Floats: package math: Abs, IsNaN, IsInf, Copysign, Inf, NaN, normalize.
-/
import Derived.Test.YgcoaaGreatFlJ
set_option linter.unusedVariables false
set_option maxRecDepth 20000
namespace Go.Proofs.YgcoaaGreat.NatW
open Go.RowKit
attribute [local go_sem] Go.Instr.field Go.asAgg ext421 ext345 ext423 ext346

/-- A word not above infinity's is no NaN. -/
theorem read_word_nan {f : Ieee.Format} (neg : Bool) {rung : Nat} (h : rung ≤ f.infRung) : (f.read (f.word neg rung)).isNaN = false := by
  have hs := Ieee.Format.infRung_lt f
  have e : f.word neg rung % f.signWeight = rung := by
    unfold Ieee.Format.word
    split
    · rw [Nat.add_mod_left]; exact Nat.mod_eq_of_lt (by omega)
    · exact Nat.mod_eq_of_lt (by omega)
  unfold Ieee.Format.read
  simp only [e]
  split
  · rfl
  · split
    · rfl
    · rw [if_pos (by omega)]; rfl
theorem enc_num (k : FloatKind) (s : Bool) (m : Nat) (e : Int) : ¬ nanK k (k.encode (.number s m e)) := by
  intro h
  unfold nanK at h
  have h2 : (k.format.read (k.format.nearest s m e)).isNaN = false := by
    unfold Ieee.Format.nearest
    split
    · exact read_word_nan s (Nat.zero_le _)
    · exact read_word_nan s (Nat.min_le_right _ _)
  rw [show k.format.read (k.encode (.number s m e)) = k.format.read (k.format.nearest s m e) from rfl] at h
  rw [h2] at h
  cases h
def numK (k : FloatKind) (x : Nat) : Prop := ∃ s m e, k.decode x = .number s m e
theorem numK.notNan {k : FloatKind} {x : Nat} (h : numK k x) : ¬ nanK k x := by
  obtain ⟨s, m, e, h⟩ := h
  intro hn
  unfold nanK at hn
  rw [show k.format.read x = _ from h] at hn
  cases hn
theorem Like.eq {k : FloatKind} {r c : Nat} (h : Like k r c) (hn : ¬ nanK k c) : r = c := by
  obtain ⟨_, h | h⟩ := h
  · exact h
  · exact absurd h.2 hn
theorem fa_num {op : BinOp} (hop : op = .add ∨ op = .sub ∨ op = .mul) {k : FloatKind} {x y : Nat} (hx : numK k x) (hy : numK k y) : ¬ nanK k (fa op k x y) := by
  obtain ⟨s, m, i, hx⟩ := hx
  obtain ⟨t, n, j, hy⟩ := hy
  have hx' : k.format.read x = .number s m i := hx
  have hy' : k.format.read y = .number t n j := hy
  rcases hop with rfl | rfl | rfl
  · unfold fa floatBits Ieee.Format.add
    rw [hx', hy']
    exact enc_num k _ _ _
  · unfold fa floatBits Ieee.Format.sub
    rw [hx', hy']
    exact enc_num k _ _ _
  · unfold fa floatBits Ieee.Format.mul
    rw [hx', hy']
    exact enc_num k _ _ _
/-- An operation on two numbers. -/
theorem upon_num {P : Program} {o : Oper} {a : Act} {next : Act → World → Prop} {Q : Exit → Act → World → Prop} {w : World} {op : BinOp} (hop : op = .add ∨ op = .sub ∨ op = .mul) {t : TypeId} {k : FloatKind} {x y : Nat} (hx : numK k x) (hy : numK k y)
    (h : ∀ w', Same w w' → Oper.upon P o a next Q (.ok (.value (.float k (fa op k x y))) w')) :
    Oper.upon P o a next Q ((Sem.run P (binOp op t (.float k x) (.float k y)) w).andThen fun a w' => .ok (.value a) w') := by
  refine upon_arith (by rcases hop with h | h | h <;> simp [h]) ?_
  intro r w' hl hs
  rw [hl.eq (fa_num hop hx hy)]
  exact h w' hs

def absC (x : Nat) : Nat := (bits .andNot .u64 (x : Int) 9223372036854775808).toNat
theorem absC_lt (x : Nat) : absC x < 2 ^ FloatKind.f64.format.width := toNat_lt _

theorem mAbs (x : Nat) (hx : x < 2 ^ FloatKind.f64.format.width) : NRet 464 #[.float .f64 x] (.float .f64 (absC x)) := by
  rw [w64] at hx
  intro w K hK
  have HK := hide hK; clear hK
  have S := Same.refl w
  go_enter Oaag.func464, Oaag.ntmps464
  go_wp2_with (first | fail)
  exact unhide HK _ S

theorem mIsNaN (x : Nat) : NRet 449 #[.float .f64 x] (.bool (FloatKind.f64.format.read x).isNaN) := by
  rw [← order_self]
  intro w K hK
  have HK := hide hK; clear hK
  have S := Same.refl w
  go_enter Oaag.func449, Oaag.ntmps449
  go_wp2_with (first | fail)
  exact unhide HK _ S

def isInf (x : Nat) : Bool := FloatKind.f64.format.order (absC x) 9218868437227405311 == some .gt
theorem mIsInf (x : Nat) (hx : x < 2 ^ FloatKind.f64.format.width) : NRet 450 #[.float .f64 x, .int .i64 0] (.bool (isInf x)) := by
  intro w K hK
  have HK := hide hK; clear hK
  have S := Same.refl w
  go_enter Oaag.func450, Oaag.ntmps450
  go_wp2_with (first | (refine mAbs _ (by assumption) _ _ ?_; intro w1 s1; replace S := Same.trans S s1; clear s1))
  exact unhide HK _ S

theorem mCopysign (x y : Nat) (hx : x < 2 ^ FloatKind.f64.format.width) (hy : y < 2 ^ FloatKind.f64.format.width) : ∃ c, c < 2 ^ FloatKind.f64.format.width ∧ NRet 467 #[.float .f64 x, .float .f64 y] (.float .f64 c) := by
  rw [w64] at hx hy
  refine ⟨(bits .or .u64 (bits .andNot .u64 (x : Int) 9223372036854775808) (bits .and .u64 (y : Int) 9223372036854775808)).toNat, toNat_lt _, ?_⟩
  intro w K hK
  have HK := hide hK; clear hK
  have S := Same.refl w
  go_enter Oaag.func467, Oaag.ntmps467
  go_wp2_with (first | fail)
  exact unhide HK _ S

theorem mNaN : ∃ c, c < 2 ^ FloatKind.f64.format.width ∧ NRet 466 #[] (.float .f64 c) := by
  refine ⟨9221120237041090561, by decide, ?_⟩
  intro w K hK
  have HK := hide hK; clear hK
  have S := Same.refl w
  go_enter Oaag.func466, Oaag.ntmps466
  go_wp2_with (first | fail)
  exact unhide HK _ S

theorem mInf (n : Int) (hn : n = 1 ∨ n = -1) : ∃ c, c < 2 ^ FloatKind.f64.format.width ∧ NRet 470 #[.int .i64 n] (.float .f64 c) := by
  rcases hn with rfl | rfl
  · refine ⟨9218868437227405312, by decide, ?_⟩
    intro w K hK
    have HK := hide hK; clear hK
    have S := Same.refl w
    go_enter Oaag.func470, Oaag.ntmps470
    go_wp2_with (first | fail)
    exact unhide HK _ S
  · refine ⟨18442240474082181120, by decide, ?_⟩
    intro w K hK
    have HK := hide hK; clear hK
    have S := Same.refl w
    go_enter Oaag.func470, Oaag.ntmps470
    go_wp2_with (first | fail)
    exact unhide HK _ S

end Go.Proofs.YgcoaaGreat.NatW
