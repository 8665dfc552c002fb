/-
  Floats: the package of the machine's own floats: Widen, Narrow, Sqrt32, ToInt64.
-/
import Derived.Test.YgcoaaGreatFlI
set_option linter.unusedVariables false
set_option maxRecDepth 20000
namespace Go.Proofs.YgcoaaGreat.NatW
open Go.RowKit
attribute [local go_sem] Go.Instr.field Go.asAgg ext421 ext345 ext423 ext346

theorem widen_ex (a : Int) (ha : U32 a) : ∃ r : Nat, U64 r ∧ NRet 289 #[.int .u32 a] (.int .u64 r) := by
  refine ⟨put .f64 (convC .f64 (FloatKind.f32.decode a.toNat)), u64_put (convC_lt _ _), ?_⟩
  intro w K hK
  have HK := hide hK; clear hK
  have S := Same.refl w
  go_enter Oaag.func289, Oaag.ntmps289
  go_wp2_with (first | (refine from32_is _ _ _ ?_; intro w1 s1; replace S := Same.trans S s1; clear s1) | (refine upon_conv und213 und210 (by decide) (widen_fin _) ?_; intro r w1 hl s1; replace S := Same.trans S s1; clear s1; rewrite [Oper.upon_value]) | (refine put64_is _ _ (by assumption) _ _ ?_; intro w1 s1; replace S := Same.trans S s1; clear s1))
  exact unhide HK _ S

theorem narrow_ex (a : Int) (ha : U64 a) : ∃ r : Nat, U32 r ∧ NRet 290 #[.int .u64 a] (.int .u32 r) := by
  have e5 : Int.toNat 5183643170835005440 = 5183643170835005440 := by decide
  obtain ⟨b, hb⟩ : ∃ b, (FloatKind.f64.format.order a.toNat 5183643170835005440 == some .gt || FloatKind.f64.format.order a.toNat 5183643170835005440 == some .eq) = b := ⟨_, rfl⟩
  obtain ⟨d, hd⟩ : ∃ d, (FloatKind.f64.format.order a.toNat (Op.negFloat .f64 5183643170835005440) == some .lt || FloatKind.f64.format.order a.toNat (Op.negFloat .f64 5183643170835005440) == some .eq) = d := ⟨_, rfl⟩
  cases b with
  | true =>
    refine ⟨2139095040, by constructor <;> decide, ?_⟩
    intro w K hK
    have HK := hide hK; clear hK
    have S := Same.refl w
    go_enter Oaag.func290, Oaag.ntmps290
    go_wp2_with (first | (refine from64_is _ _ _ ?_; intro w1 s1; replace S := Same.trans S s1; clear s1) | (refine upon_neg ?_; rewrite [Oper.upon_value]) | (refine put32_is _ _ (by assumption) _ _ ?_; intro w1 s1; replace S := Same.trans S s1; clear s1))
    exact unhide HK _ S
  | false =>
    cases d with
    | true =>
      refine ⟨4286578688, by constructor <;> decide, ?_⟩
      intro w K hK
      have HK := hide hK; clear hK
      have S := Same.refl w
      go_enter Oaag.func290, Oaag.ntmps290
      go_wp2_with (first | (refine from64_is _ _ _ ?_; intro w1 s1; replace S := Same.trans S s1; clear s1) | (refine upon_neg ?_; rewrite [Oper.upon_value]) | (refine put32_is _ _ (by assumption) _ _ ?_; intro w1 s1; replace S := Same.trans S s1; clear s1))
      exact unhide HK _ S
    | false =>
      refine ⟨put .f32 (convC .f32 (FloatKind.f64.decode a.toNat)), u32_put (convC_lt _ _), ?_⟩
      intro w K hK
      have HK := hide hK; clear hK
      have S := Same.refl w
      go_enter Oaag.func290, Oaag.ntmps290
      go_wp2_with (first | (refine from64_is _ _ _ ?_; intro w1 s1; replace S := Same.trans S s1; clear s1) | (refine upon_neg ?_; rewrite [Oper.upon_value]) | (refine upon_conv und210 und213 (by decide) (narrow_in hb hd) ?_; intro r w1 hl s1; replace S := Same.trans S s1; clear s1; rewrite [Oper.upon_value]) | (refine put32_is _ _ (by assumption) _ _ ?_; intro w1 s1; replace S := Same.trans S s1; clear s1))
      exact unhide HK _ S

/-- A float like one whose number fits. -/
theorem fin_like {r c : Nat} (hl : Like .f64 r c) (h : ∀ s m e, FloatKind.f64.decode c = .number s m e → (FloatKind.f32.decode (FloatKind.f32.encode (.number s m e))).isInfinity = false) (s : Bool) (m : Nat) (e : Int) (hd : FloatKind.f64.decode r = .number s m e) :
    (FloatKind.f32.decode (FloatKind.f32.encode (.number s m e))).isInfinity = false := by
  obtain ⟨_, rfl | ⟨h1, h2⟩⟩ := hl
  · exact h s m e hd
  · exfalso
    unfold nanK at h1
    rw [show FloatKind.f64.format.read r = _ from hd] at h1
    cases h1
theorem convC_like {r c : Nat} (hl : Like .f64 r c) : convC .f32 (FloatKind.f64.decode r) = convC .f32 (FloatKind.f64.decode c) := by
  obtain ⟨_, rfl | ⟨h1, h2⟩⟩ := hl
  · rfl
  · have aux : ∀ y, nanK .f64 y → convC .f32 (FloatKind.f64.decode y) = theNan .f32 := fun y hy => by
      unfold nanK at hy
      unfold FloatKind.decode
      cases hd : FloatKind.f64.format.read y with
      | nan s f => rfl
      | infinity s => rw [hd] at hy; cases hy
      | number s m i => rw [hd] at hy; cases hy
    rw [aux r h1, aux c h2]

theorem sqrt32_ex (a : Int) (ha : U32 a) : ∃ r : Nat, U32 r ∧ NRet 276 #[.int .u32 a] (.int .u32 r) := by
  refine ⟨put .f32 (convC .f32 (FloatKind.f64.decode (sqrtC (convC .f64 (FloatKind.f32.decode a.toNat))))), u32_put (convC_lt _ _), ?_⟩
  intro w K hK
  have HK := hide hK; clear hK
  have S := Same.refl w
  go_enter Oaag.func276, Oaag.ntmps276
  go_wp2_with (first | (refine from32_is _ _ _ ?_; intro w1 s1; replace S := Same.trans S s1; clear s1) | (refine upon_conv und213 und210 (by decide) (widen_fin _) ?_; intro r w1 hl s1; replace S := Same.trans S s1; clear s1; rewrite [Oper.upon_value]) | (refine nSqrt _ _ _ ?_; intro r2 w1 hl2 s1; replace S := Same.trans S s1; clear s1; rewrite [sqrtC_like hl] at hl2) | (refine upon_conv und210 und213 (by decide) (fin_like hl2 (sqrt_fin _ (widen_log _))) ?_; intro r3 w1 hl3 s1; replace S := Same.trans S s1; clear s1; rewrite [Oper.upon_value]; rewrite [convC_like hl2] at hl3; clear hl hl2) | (refine put32_is _ _ (by assumption) _ _ ?_; intro w1 s1; replace S := Same.trans S s1; clear s1))
  exact unhide HK _ S

theorem toInt64_ex (a : Int) : ∃ (n : Int) (o : Bool), IntKind.min .i64 ≤ n ∧ n ≤ IntKind.max .i64 ∧ NRet 287 #[.int .u64 a] (.tuple #[.int .i64 n, .bool o]) := by
  obtain ⟨b, hb⟩ : ∃ b, (FloatKind.f64.format.order a.toNat 14114281232179134464 == some .gt || FloatKind.f64.format.order a.toNat 14114281232179134464 == some .eq) = b := ⟨_, rfl⟩
  obtain ⟨d, hd⟩ : ∃ d, (FloatKind.f64.format.order a.toNat 4890909195324358656 == some .lt) = d := ⟨_, rfl⟩
  cases b with
  | false =>
    refine ⟨0, false, by decide, by decide, ?_⟩
    intro w K hK
    have HK := hide hK; clear hK
    have S := Same.refl w
    go_enter Oaag.func287, Oaag.ntmps287
    go_wp2_with (first | (refine from64_is _ _ _ ?_; intro w1 s1; replace S := Same.trans S s1; clear s1))
    exact unhide HK _ S
  | true =>
    cases d with
    | false =>
      refine ⟨0, false, by decide, by decide, ?_⟩
      intro w K hK
      have HK := hide hK; clear hK
      have S := Same.refl w
      go_enter Oaag.func287, Oaag.ntmps287
      go_wp2_with (first | (refine from64_is _ _ _ ?_; intro w1 s1; replace S := Same.trans S s1; clear s1))
      exact unhide HK _ S
    | true =>
      obtain ⟨n, hn⟩ := toInt_in (k := .f64) (x := a.toNat) (c1 := 14114281232179134464) (c2 := 4890909195324358656) (N := 4503599627370496) (j := 11) (by decide) trivial (by decide) (by decide) hb hd
      have hw := floatToIntVal_wf hn
      simp only [Lit.wf, Bool.and_eq_true, decide_eq_true_eq] at hw
      refine ⟨n, true, hw.1, hw.2, ?_⟩
      clear hw
      intro w K hK
      have HK := hide hK; clear hK
      have S := Same.refl w
      go_enter Oaag.func287, Oaag.ntmps287
      go_wp2_with (first | (refine from64_is _ _ _ ?_; intro w1 s1; replace S := Same.trans S s1; clear s1) | (refine upon_toInt (by rw [und210]; rfl) und2 hn ?_; rewrite [Oper.upon_value]))
      exact unhide HK _ S

theorem toInt32_ex (a : Int) : ∃ (n : Int) (o : Bool), IntKind.min .i64 ≤ n ∧ n ≤ IntKind.max .i64 ∧ NRet 286 #[.int .u32 a] (.tuple #[.int .i64 n, .bool o]) := by
  obtain ⟨b, hb⟩ : ∃ b, (FloatKind.f32.format.order a.toNat 3741319168 == some .gt || FloatKind.f32.format.order a.toNat 3741319168 == some .eq) = b := ⟨_, rfl⟩
  obtain ⟨d, hd⟩ : ∃ d, (FloatKind.f32.format.order a.toNat 1593835520 == some .lt) = d := ⟨_, rfl⟩
  cases b with
  | false =>
    refine ⟨0, false, by decide, by decide, ?_⟩
    intro w K hK
    have HK := hide hK; clear hK
    have S := Same.refl w
    go_enter Oaag.func286, Oaag.ntmps286
    go_wp2_with (first | (refine from32_is _ _ _ ?_; intro w1 s1; replace S := Same.trans S s1; clear s1))
    exact unhide HK _ S
  | true =>
    cases d with
    | false =>
      refine ⟨0, false, by decide, by decide, ?_⟩
      intro w K hK
      have HK := hide hK; clear hK
      have S := Same.refl w
      go_enter Oaag.func286, Oaag.ntmps286
      go_wp2_with (first | (refine from32_is _ _ _ ?_; intro w1 s1; replace S := Same.trans S s1; clear s1))
      exact unhide HK _ S
    | true =>
      obtain ⟨n, hn⟩ := toInt_in (k := .f32) (x := a.toNat) (c1 := 3741319168) (c2 := 1593835520) (N := 8388608) (j := 40) (by decide) trivial (by decide) (by decide) hb hd
      have hw := floatToIntVal_wf hn
      simp only [Lit.wf, Bool.and_eq_true, decide_eq_true_eq] at hw
      refine ⟨n, true, hw.1, hw.2, ?_⟩
      clear hw
      intro w K hK
      have HK := hide hK; clear hK
      have S := Same.refl w
      go_enter Oaag.func286, Oaag.ntmps286
      go_wp2_with (first | (refine from32_is _ _ _ ?_; intro w1 s1; replace S := Same.trans S s1; clear s1) | (refine upon_toInt (by rw [und213]; rfl) und2 hn ?_; rewrite [Oper.upon_value]))
      exact unhide HK _ S

end Go.Proofs.YgcoaaGreat.NatW
