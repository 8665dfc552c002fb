/-
  Floats: the package of the machine's own floats: roots, signs, comparisons, the lesser and the greater, integers.
-/
import Derived.Test.YgcoaaGreatFlD
set_option linter.unusedVariables false
set_option maxRecDepth 20000
namespace Go.Proofs.YgcoaaGreat.NatW
open Go.RowKit
attribute [local go_sem] Go.Instr.field Go.asAgg ext421 ext345 ext423 ext346

theorem mSqrt (x : Nat) : FRet .f64 425 #[.float .f64 x] (sqrtC x) := by
  intro w K hK
  have HK := hide hK; clear hK
  have S := Same.refl w
  go_enter Oaag.func425, Oaag.ntmps425
  go_wp2_with (first | (refine upon_sqrt ?_; intro r w1 hl s1; replace S := Same.trans S s1; clear s1; rewrite [Oper.upon_value]))
  exact unhide HK _ _ (by assumption) S

theorem nSqrt (x : Nat) : FRet .f64 383 #[.float .f64 x] (sqrtC x) := by
  intro w K hK
  have HK := hide hK; clear hK
  have S := Same.refl w
  go_enter Oaag.func383, Oaag.ntmps383
  go_wp2_with (first | (refine mSqrt _ _ _ ?_; intro r w1 hl s1; replace S := Same.trans S s1; clear s1))
  exact unhide HK _ _ (by assumption) S

theorem sqrt64_ex (a : Int) (ha : U64 a) : ∃ r : Nat, U64 r ∧ NRet 275 #[.int .u64 a] (.int .u64 r) := by
  refine ⟨put .f64 (sqrtC a.toNat), u64_put (sqrtC_lt _), ?_⟩
  intro w K hK
  have HK := hide hK; clear hK
  have S := Same.refl w
  go_enter Oaag.func275, Oaag.ntmps275
  go_wp2_with (first | (refine from64_is _ _ _ ?_; intro w1 s1; replace S := Same.trans S s1; clear s1) | (refine nSqrt _ _ _ ?_; intro r w1 hl s1; replace S := Same.trans S s1; clear s1) | (refine put64_is _ _ (by assumption) _ _ ?_; intro w1 s1; replace S := Same.trans S s1; clear s1))
  exact unhide HK _ S

theorem nFma (x y z : Nat) : FRet .f64 426 #[.float .f64 x, .float .f64 y, .float .f64 z] (fmaC x y z) := by
  intro w K hK
  have HK := hide hK; clear hK
  have S := Same.refl w
  go_enter Oaag.func426, Oaag.ntmps426
  go_wp2_with (first | (refine upon_fma ?_; intro r w1 hl s1; replace S := Same.trans S s1; clear s1; rewrite [Oper.upon_value]))
  exact unhide HK _ _ (by assumption) S

theorem fma64_ex (a b c : Int) : ∃ r : Nat, U64 r ∧ NRet 386 #[.int .u64 a, .int .u64 b, .int .u64 c] (.int .u64 r) := by
  refine ⟨put .f64 (fmaC a.toNat b.toNat c.toNat), u64_put (fmaC_lt _ _ _), ?_⟩
  intro w K hK
  have HK := hide hK; clear hK
  have S := Same.refl w
  go_enter Oaag.func386, Oaag.ntmps386
  go_wp2_with (first | (refine from64_is _ _ _ ?_; intro w1 s1; replace S := Same.trans S s1; clear s1) | (refine nFma _ _ _ _ _ ?_; intro r w1 hl s1; replace S := Same.trans S s1; clear s1) | (refine put64_is _ _ (by assumption) _ _ ?_; intro w1 s1; replace S := Same.trans S s1; clear s1))
  exact unhide HK _ S

theorem neg64_ex (a : Int) (ha : U64 a) : ∃ r : Nat, U64 r ∧ NRet 277 #[.int .u64 a] (.int .u64 r) := by
  have hn := neg_lt (toNat64 ha)
  have hl := Like.self hn
  refine ⟨put .f64 (Op.negFloat .f64 a.toNat), u64_put hn, ?_⟩
  intro w K hK
  have HK := hide hK; clear hK
  have S := Same.refl w
  go_enter Oaag.func277, Oaag.ntmps277
  go_wp2_with (first | (refine from64_is _ _ _ ?_; intro w1 s1; replace S := Same.trans S s1; clear s1) | (refine upon_neg ?_; rewrite [Oper.upon_value]) | (refine put64_is _ _ (by assumption) _ _ ?_; intro w1 s1; replace S := Same.trans S s1; clear s1))
  exact unhide HK _ S

theorem neg32_ex (a : Int) (ha : U32 a) : ∃ r : Nat, U32 r ∧ NRet 278 #[.int .u32 a] (.int .u32 r) := by
  have hn := neg_lt (toNat32 ha)
  have hl := Like.self hn
  refine ⟨put .f32 (Op.negFloat .f32 a.toNat), u32_put hn, ?_⟩
  intro w K hK
  have HK := hide hK; clear hK
  have S := Same.refl w
  go_enter Oaag.func278, Oaag.ntmps278
  go_wp2_with (first | (refine from32_is _ _ _ ?_; intro w1 s1; replace S := Same.trans S s1; clear s1) | (refine upon_neg ?_; rewrite [Oper.upon_value]) | (refine put32_is _ _ (by assumption) _ _ ?_; intro w1 s1; replace S := Same.trans S s1; clear s1))
  exact unhide HK _ S

theorem abs64_ex (a : Int) (ha : U64 a) : ∃ r : Nat, U64 r ∧ NRet 279 #[.int .u64 a] (.int .u64 r) := by
  have hn := neg_lt (toNat64 ha)
  have hl := Like.self hn
  have hm := Like.self (toNat64 ha)
  have hz : Like .f64 0 0 := Like.self (by decide)
  obtain ⟨b, hb⟩ : ∃ b, (FloatKind.f64.format.order a.toNat 0 == some .lt) = b := ⟨_, rfl⟩
  obtain ⟨d, hd⟩ : ∃ d, (FloatKind.f64.format.order a.toNat 0 == some .eq) = d := ⟨_, rfl⟩
  cases b with
  | true =>
    refine ⟨put .f64 (Op.negFloat .f64 a.toNat), u64_put hn, ?_⟩
    intro w K hK
    have HK := hide hK; clear hK
    have S := Same.refl w
    go_enter Oaag.func279, Oaag.ntmps279
    go_wp2_with (first | (refine from64_is _ _ _ ?_; intro w1 s1; replace S := Same.trans S s1; clear s1) | (refine upon_neg ?_; rewrite [Oper.upon_value]) | (refine put64_is _ _ (by assumption) _ _ ?_; intro w1 s1; replace S := Same.trans S s1; clear s1))
    exact unhide HK _ S
  | false =>
    cases d with
    | true =>
      refine ⟨put .f64 0, u64_put (by decide), ?_⟩
      intro w K hK
      have HK := hide hK; clear hK
      have S := Same.refl w
      go_enter Oaag.func279, Oaag.ntmps279
      go_wp2_with (first | (refine from64_is _ _ _ ?_; intro w1 s1; replace S := Same.trans S s1; clear s1) | (refine upon_neg ?_; rewrite [Oper.upon_value]) | (refine put64_is _ _ (by assumption) _ _ ?_; intro w1 s1; replace S := Same.trans S s1; clear s1))
      exact unhide HK _ S
    | false =>
      refine ⟨put .f64 a.toNat, u64_put (toNat64 ha), ?_⟩
      intro w K hK
      have HK := hide hK; clear hK
      have S := Same.refl w
      go_enter Oaag.func279, Oaag.ntmps279
      go_wp2_with (first | (refine from64_is _ _ _ ?_; intro w1 s1; replace S := Same.trans S s1; clear s1) | (refine upon_neg ?_; rewrite [Oper.upon_value]) | (refine put64_is _ _ (by assumption) _ _ ?_; intro w1 s1; replace S := Same.trans S s1; clear s1))
      exact unhide HK _ S

theorem abs32_ex (a : Int) (ha : U32 a) : ∃ r : Nat, U32 r ∧ NRet 280 #[.int .u32 a] (.int .u32 r) := by
  have hn := neg_lt (toNat32 ha)
  have hl := Like.self hn
  have hm := Like.self (toNat32 ha)
  have hz : Like .f32 0 0 := Like.self (by decide)
  obtain ⟨b, hb⟩ : ∃ b, (FloatKind.f32.format.order a.toNat 0 == some .lt) = b := ⟨_, rfl⟩
  obtain ⟨d, hd⟩ : ∃ d, (FloatKind.f32.format.order a.toNat 0 == some .eq) = d := ⟨_, rfl⟩
  cases b with
  | true =>
    refine ⟨put .f32 (Op.negFloat .f32 a.toNat), u32_put hn, ?_⟩
    intro w K hK
    have HK := hide hK; clear hK
    have S := Same.refl w
    go_enter Oaag.func280, Oaag.ntmps280
    go_wp2_with (first | (refine from32_is _ _ _ ?_; intro w1 s1; replace S := Same.trans S s1; clear s1) | (refine upon_neg ?_; rewrite [Oper.upon_value]) | (refine put32_is _ _ (by assumption) _ _ ?_; intro w1 s1; replace S := Same.trans S s1; clear s1))
    exact unhide HK _ S
  | false =>
    cases d with
    | true =>
      refine ⟨put .f32 0, u32_put (by decide), ?_⟩
      intro w K hK
      have HK := hide hK; clear hK
      have S := Same.refl w
      go_enter Oaag.func280, Oaag.ntmps280
      go_wp2_with (first | (refine from32_is _ _ _ ?_; intro w1 s1; replace S := Same.trans S s1; clear s1) | (refine upon_neg ?_; rewrite [Oper.upon_value]) | (refine put32_is _ _ (by assumption) _ _ ?_; intro w1 s1; replace S := Same.trans S s1; clear s1))
      exact unhide HK _ S
    | false =>
      refine ⟨put .f32 a.toNat, u32_put (toNat32 ha), ?_⟩
      intro w K hK
      have HK := hide hK; clear hK
      have S := Same.refl w
      go_enter Oaag.func280, Oaag.ntmps280
      go_wp2_with (first | (refine from32_is _ _ _ ?_; intro w1 s1; replace S := Same.trans S s1; clear s1) | (refine upon_neg ?_; rewrite [Oper.upon_value]) | (refine put32_is _ _ (by assumption) _ _ ?_; intro w1 s1; replace S := Same.trans S s1; clear s1))
      exact unhide HK _ S

theorem test64_ex (op a b : Int) : ∃ r : Bool, NRet 384 #[.int .u8 op, .int .u64 a, .int .u64 b] (.bool r) := by
  by_cases h0 : op = 0
  · subst h0
    refine ⟨(FloatKind.f64.format.order a.toNat b.toNat == some .eq), ?_⟩
    intro w K hK
    have HK := hide hK; clear hK
    have S := Same.refl w
    go_enter Oaag.func384, Oaag.ntmps384
    go_wp2_with (first | (refine from64_is _ _ _ ?_; intro w1 s1; replace S := Same.trans S s1; clear s1))
    exact unhide HK _ S
  have e0 : (op == 0) = false := by simpa using h0
  by_cases h1 : op = 1
  · subst h1
    refine ⟨(FloatKind.f64.format.order a.toNat b.toNat != some .eq), ?_⟩
    intro w K hK
    have HK := hide hK; clear hK
    have S := Same.refl w
    go_enter Oaag.func384, Oaag.ntmps384
    go_wp2_with (first | (refine from64_is _ _ _ ?_; intro w1 s1; replace S := Same.trans S s1; clear s1))
    exact unhide HK _ S
  have e1 : (op == 1) = false := by simpa using h1
  by_cases h2 : op = 2
  · subst h2
    refine ⟨(FloatKind.f64.format.order a.toNat b.toNat == some .lt), ?_⟩
    intro w K hK
    have HK := hide hK; clear hK
    have S := Same.refl w
    go_enter Oaag.func384, Oaag.ntmps384
    go_wp2_with (first | (refine from64_is _ _ _ ?_; intro w1 s1; replace S := Same.trans S s1; clear s1))
    exact unhide HK _ S
  have e2 : (op == 2) = false := by simpa using h2
  by_cases h3 : op = 3
  · subst h3
    refine ⟨(FloatKind.f64.format.order a.toNat b.toNat == some .lt || FloatKind.f64.format.order a.toNat b.toNat == some .eq), ?_⟩
    intro w K hK
    have HK := hide hK; clear hK
    have S := Same.refl w
    go_enter Oaag.func384, Oaag.ntmps384
    go_wp2_with (first | (refine from64_is _ _ _ ?_; intro w1 s1; replace S := Same.trans S s1; clear s1))
    exact unhide HK _ S
  have e3 : (op == 3) = false := by simpa using h3
  by_cases h4 : op = 4
  · subst h4
    refine ⟨(FloatKind.f64.format.order a.toNat b.toNat == some .gt), ?_⟩
    intro w K hK
    have HK := hide hK; clear hK
    have S := Same.refl w
    go_enter Oaag.func384, Oaag.ntmps384
    go_wp2_with (first | (refine from64_is _ _ _ ?_; intro w1 s1; replace S := Same.trans S s1; clear s1))
    exact unhide HK _ S
  have e4 : (op == 4) = false := by simpa using h4
  by_cases h5 : op = 5
  · subst h5
    refine ⟨(FloatKind.f64.format.order a.toNat b.toNat == some .gt || FloatKind.f64.format.order a.toNat b.toNat == some .eq), ?_⟩
    intro w K hK
    have HK := hide hK; clear hK
    have S := Same.refl w
    go_enter Oaag.func384, Oaag.ntmps384
    go_wp2_with (first | (refine from64_is _ _ _ ?_; intro w1 s1; replace S := Same.trans S s1; clear s1))
    exact unhide HK _ S
  have e5 : (op == 5) = false := by simpa using h5
  refine ⟨false, ?_⟩
  clear h0 h1 h2 h3 h4 h5
  intro w K hK
  have HK := hide hK; clear hK
  have S := Same.refl w
  go_enter Oaag.func384, Oaag.ntmps384
  go_wp2_with (first | (refine from64_is _ _ _ ?_; intro w1 s1; replace S := Same.trans S s1; clear s1))
  exact unhide HK _ S

theorem test32_ex (op a b : Int) : ∃ r : Bool, NRet 385 #[.int .u8 op, .int .u32 a, .int .u32 b] (.bool r) := by
  by_cases h0 : op = 0
  · subst h0
    refine ⟨(FloatKind.f32.format.order a.toNat b.toNat == some .eq), ?_⟩
    intro w K hK
    have HK := hide hK; clear hK
    have S := Same.refl w
    go_enter Oaag.func385, Oaag.ntmps385
    go_wp2_with (first | (refine from32_is _ _ _ ?_; intro w1 s1; replace S := Same.trans S s1; clear s1))
    exact unhide HK _ S
  have e0 : (op == 0) = false := by simpa using h0
  by_cases h1 : op = 1
  · subst h1
    refine ⟨(FloatKind.f32.format.order a.toNat b.toNat != some .eq), ?_⟩
    intro w K hK
    have HK := hide hK; clear hK
    have S := Same.refl w
    go_enter Oaag.func385, Oaag.ntmps385
    go_wp2_with (first | (refine from32_is _ _ _ ?_; intro w1 s1; replace S := Same.trans S s1; clear s1))
    exact unhide HK _ S
  have e1 : (op == 1) = false := by simpa using h1
  by_cases h2 : op = 2
  · subst h2
    refine ⟨(FloatKind.f32.format.order a.toNat b.toNat == some .lt), ?_⟩
    intro w K hK
    have HK := hide hK; clear hK
    have S := Same.refl w
    go_enter Oaag.func385, Oaag.ntmps385
    go_wp2_with (first | (refine from32_is _ _ _ ?_; intro w1 s1; replace S := Same.trans S s1; clear s1))
    exact unhide HK _ S
  have e2 : (op == 2) = false := by simpa using h2
  by_cases h3 : op = 3
  · subst h3
    refine ⟨(FloatKind.f32.format.order a.toNat b.toNat == some .lt || FloatKind.f32.format.order a.toNat b.toNat == some .eq), ?_⟩
    intro w K hK
    have HK := hide hK; clear hK
    have S := Same.refl w
    go_enter Oaag.func385, Oaag.ntmps385
    go_wp2_with (first | (refine from32_is _ _ _ ?_; intro w1 s1; replace S := Same.trans S s1; clear s1))
    exact unhide HK _ S
  have e3 : (op == 3) = false := by simpa using h3
  by_cases h4 : op = 4
  · subst h4
    refine ⟨(FloatKind.f32.format.order a.toNat b.toNat == some .gt), ?_⟩
    intro w K hK
    have HK := hide hK; clear hK
    have S := Same.refl w
    go_enter Oaag.func385, Oaag.ntmps385
    go_wp2_with (first | (refine from32_is _ _ _ ?_; intro w1 s1; replace S := Same.trans S s1; clear s1))
    exact unhide HK _ S
  have e4 : (op == 4) = false := by simpa using h4
  by_cases h5 : op = 5
  · subst h5
    refine ⟨(FloatKind.f32.format.order a.toNat b.toNat == some .gt || FloatKind.f32.format.order a.toNat b.toNat == some .eq), ?_⟩
    intro w K hK
    have HK := hide hK; clear hK
    have S := Same.refl w
    go_enter Oaag.func385, Oaag.ntmps385
    go_wp2_with (first | (refine from32_is _ _ _ ?_; intro w1 s1; replace S := Same.trans S s1; clear s1))
    exact unhide HK _ S
  have e5 : (op == 5) = false := by simpa using h5
  refine ⟨false, ?_⟩
  clear h0 h1 h2 h3 h4 h5
  intro w K hK
  have HK := hide hK; clear hK
  have S := Same.refl w
  go_enter Oaag.func385, Oaag.ntmps385
  go_wp2_with (first | (refine from32_is _ _ _ ?_; intro w1 s1; replace S := Same.trans S s1; clear s1))
  exact unhide HK _ S

theorem max64_ex (a b : Int) (ha : U64 a) (hb : U64 b) : ∃ r : Nat, U64 r ∧ NRet 391 #[.int .u64 a, .int .u64 b] (.int .u64 r) := by
  have h1 := toNat64 ha
  have h2 := toNat64 hb
  refine ⟨put .f64 (maxC .f64 a.toNat b.toNat), u64_put (maxC_lt h1 h2), ?_⟩
  intro w K hK
  have HK := hide hK; clear hK
  have S := Same.refl w
  go_enter Oaag.func391, Oaag.ntmps391
  go_wp2_with (first | (refine from64_is _ _ _ ?_; intro w1 s1; replace S := Same.trans S s1; clear s1) | (refine upon_max (by assumption) (by assumption) ?_; intro r w1 hl s1; replace S := Same.trans S s1; clear s1; rewrite [Oper.upon_value]) | (refine put64_is _ _ (by assumption) _ _ ?_; intro w1 s1; replace S := Same.trans S s1; clear s1))
  exact unhide HK _ S

theorem min64_ex (a b : Int) (ha : U64 a) (hb : U64 b) : ∃ r : Nat, U64 r ∧ NRet 392 #[.int .u64 a, .int .u64 b] (.int .u64 r) := by
  have h1 := toNat64 ha
  have h2 := toNat64 hb
  refine ⟨put .f64 (minC .f64 a.toNat b.toNat), u64_put (minC_lt h1 h2), ?_⟩
  intro w K hK
  have HK := hide hK; clear hK
  have S := Same.refl w
  go_enter Oaag.func392, Oaag.ntmps392
  go_wp2_with (first | (refine from64_is _ _ _ ?_; intro w1 s1; replace S := Same.trans S s1; clear s1) | (refine upon_min (by assumption) (by assumption) ?_; intro r w1 hl s1; replace S := Same.trans S s1; clear s1; rewrite [Oper.upon_value]) | (refine put64_is _ _ (by assumption) _ _ ?_; intro w1 s1; replace S := Same.trans S s1; clear s1))
  exact unhide HK _ S

theorem max32_ex (a b : Int) (ha : U32 a) (hb : U32 b) : ∃ r : Nat, U32 r ∧ NRet 393 #[.int .u32 a, .int .u32 b] (.int .u32 r) := by
  have h1 := toNat32 ha
  have h2 := toNat32 hb
  refine ⟨put .f32 (maxC .f32 a.toNat b.toNat), u32_put (maxC_lt h1 h2), ?_⟩
  intro w K hK
  have HK := hide hK; clear hK
  have S := Same.refl w
  go_enter Oaag.func393, Oaag.ntmps393
  go_wp2_with (first | (refine from32_is _ _ _ ?_; intro w1 s1; replace S := Same.trans S s1; clear s1) | (refine upon_max (by assumption) (by assumption) ?_; intro r w1 hl s1; replace S := Same.trans S s1; clear s1; rewrite [Oper.upon_value]) | (refine put32_is _ _ (by assumption) _ _ ?_; intro w1 s1; replace S := Same.trans S s1; clear s1))
  exact unhide HK _ S

theorem min32_ex (a b : Int) (ha : U32 a) (hb : U32 b) : ∃ r : Nat, U32 r ∧ NRet 394 #[.int .u32 a, .int .u32 b] (.int .u32 r) := by
  have h1 := toNat32 ha
  have h2 := toNat32 hb
  refine ⟨put .f32 (minC .f32 a.toNat b.toNat), u32_put (minC_lt h1 h2), ?_⟩
  intro w K hK
  have HK := hide hK; clear hK
  have S := Same.refl w
  go_enter Oaag.func394, Oaag.ntmps394
  go_wp2_with (first | (refine from32_is _ _ _ ?_; intro w1 s1; replace S := Same.trans S s1; clear s1) | (refine upon_min (by assumption) (by assumption) ?_; intro r w1 hl s1; replace S := Same.trans S s1; clear s1; rewrite [Oper.upon_value]) | (refine put32_is _ _ (by assumption) _ _ ?_; intro w1 s1; replace S := Same.trans S s1; clear s1))
  exact unhide HK _ S

theorem fromI64_ex (a : Int) : ∃ r : Nat, U64 r ∧ NRet 282 #[.int .i64 a] (.int .u64 r) := by
  have hn : floatOfInt .f64 a < 2 ^ FloatKind.f64.format.width := Ieee.Format.write_lt FloatKind.f64.format (.number (a < 0) a.natAbs 0)
  have hl := Like.self hn
  refine ⟨put .f64 (floatOfInt .f64 a), u64_put hn, ?_⟩
  intro w K hK
  have HK := hide hK; clear hK
  have S := Same.refl w
  go_enter Oaag.func282, Oaag.ntmps282
  go_wp2_with (first | (refine put64_is _ _ (by assumption) _ _ ?_; intro w1 s1; replace S := Same.trans S s1; clear s1))
  exact unhide HK _ S

theorem fromU64_ex (a : Int) : ∃ r : Nat, U64 r ∧ NRet 283 #[.int .u64 a] (.int .u64 r) := by
  have hn : floatOfInt .f64 a < 2 ^ FloatKind.f64.format.width := Ieee.Format.write_lt FloatKind.f64.format (.number (a < 0) a.natAbs 0)
  have hl := Like.self hn
  refine ⟨put .f64 (floatOfInt .f64 a), u64_put hn, ?_⟩
  intro w K hK
  have HK := hide hK; clear hK
  have S := Same.refl w
  go_enter Oaag.func283, Oaag.ntmps283
  go_wp2_with (first | (refine put64_is _ _ (by assumption) _ _ ?_; intro w1 s1; replace S := Same.trans S s1; clear s1))
  exact unhide HK _ S

theorem fromI32_ex (a : Int) : ∃ r : Nat, U32 r ∧ NRet 284 #[.int .i64 a] (.int .u32 r) := by
  have hn : floatOfInt .f32 a < 2 ^ FloatKind.f32.format.width := Ieee.Format.write_lt FloatKind.f32.format (.number (a < 0) a.natAbs 0)
  have hl := Like.self hn
  refine ⟨put .f32 (floatOfInt .f32 a), u32_put hn, ?_⟩
  intro w K hK
  have HK := hide hK; clear hK
  have S := Same.refl w
  go_enter Oaag.func284, Oaag.ntmps284
  go_wp2_with (first | (refine put32_is _ _ (by assumption) _ _ ?_; intro w1 s1; replace S := Same.trans S s1; clear s1))
  exact unhide HK _ S

theorem fromU32_ex (a : Int) : ∃ r : Nat, U32 r ∧ NRet 285 #[.int .u64 a] (.int .u32 r) := by
  have hn : floatOfInt .f32 a < 2 ^ FloatKind.f32.format.width := Ieee.Format.write_lt FloatKind.f32.format (.number (a < 0) a.natAbs 0)
  have hl := Like.self hn
  refine ⟨put .f32 (floatOfInt .f32 a), u32_put hn, ?_⟩
  intro w K hK
  have HK := hide hK; clear hK
  have S := Same.refl w
  go_enter Oaag.func285, Oaag.ntmps285
  go_wp2_with (first | (refine put32_is _ _ (by assumption) _ _ ?_; intro w1 s1; replace S := Same.trans S s1; clear s1))
  exact unhide HK _ S

end Go.Proofs.YgcoaaGreat.NatW
