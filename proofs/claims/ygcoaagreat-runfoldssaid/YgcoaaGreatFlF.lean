/-
  Floats: the package of the machine's own floats: whole numbers.
-/
import Derived.Test.YgcoaaGreatFlE
set_option linter.unusedVariables false
set_option maxRecDepth 20000
namespace Go.Proofs.YgcoaaGreat.NatW
open Go.RowKit
attribute [local go_sem] Go.Instr.field Go.asAgg ext421 ext345 ext423 ext346
theorem toNat_lt (x : Int) : (IntKind.u64.wrap x).toNat < 2 ^ FloatKind.f64.format.width := toNat64 (wr64' _)
theorem u64_nat {e : Int} (h : U64 e) : ∃ n : Nat, e = n := ⟨e.toNat, by have := h.1; omega⟩

theorem mRound (x : Nat) (hx : x < 2 ^ FloatKind.f64.format.width) : ∃ c, c < 2 ^ FloatKind.f64.format.width ∧ FRet .f64 443 #[.float .f64 x] c := by
  have hx' := hx
  rw [w64] at hx'
  obtain ⟨e, he⟩ : ∃ e, bits .and .u64 ((x : Int) / 4503599627370496) 2047 = e := ⟨_, rfl⟩
  obtain ⟨n, hn⟩ := u64_nat (e := e) (by rw [← he]; exact wr64' _)
  subst hn
  by_cases h1 : n < 1023
  · by_cases h2 : n = 1022
    · subst h2
      refine ⟨(bits .or .u64 (bits .and .u64 (x : Int) 9223372036854775808) 4607182418800017408).toNat, toNat_lt _, ?_⟩
      intro w K hK
      have HK := hide hK; clear hK
      have S := Same.refl w
      go_enter Oaag.func443, Oaag.ntmps443
      go_wp2_with (first | fail)
      exact unhide HK _ _ (Like.self (toNat_lt _)) S
    · have h2' : ((n : Int) == 1022) = false := by simp; omega
      refine ⟨(bits .and .u64 (x : Int) 9223372036854775808).toNat, toNat_lt _, ?_⟩
      intro w K hK
      have HK := hide hK; clear hK
      have S := Same.refl w
      go_enter Oaag.func443, Oaag.ntmps443
      go_wp2_with (first | fail)
      exact unhide HK _ _ (Like.self (toNat_lt _)) S
  · by_cases h2 : n < 1075
    · refine ⟨(bits .andNot .u64 (IntKind.u64.wrap ((x : Int) + 2251799813685248 / 2 ^ (n - 1023))) (4503599627370495 / 2 ^ (n - 1023))).toNat, toNat_lt _, ?_⟩
      intro w K hK
      have HK := hide hK; clear hK
      have S := Same.refl w
      go_enter Oaag.func443, Oaag.ntmps443
      go_wp2_with (first | fail)
      exact unhide HK _ _ (Like.self (toNat_lt _)) S
    · refine ⟨x, hx, ?_⟩
      intro w K hK
      have HK := hide hK; clear hK
      have S := Same.refl w
      go_enter Oaag.func443, Oaag.ntmps443
      go_wp2_with (first | fail)
      exact unhide HK _ _ (Like.self (hx)) S

theorem mTrunc (x : Nat) (hx : x < 2 ^ FloatKind.f64.format.width) : FRet .f64 444 #[.float .f64 x] (intC .zero x) := by
  intro w K hK
  have HK := hide hK; clear hK
  have S := Same.refl w
  go_enter Oaag.func444, Oaag.ntmps444
  go_wp2_with (first | (refine upon_456 (by assumption) ?_; intro r w1 hl s1; replace S := Same.trans S s1; clear s1; rewrite [Oper.upon_value]))
  exact unhide HK _ _ (by assumption) S

theorem mCeil (x : Nat) (hx : x < 2 ^ FloatKind.f64.format.width) : FRet .f64 445 #[.float .f64 x] (intC .up x) := by
  intro w K hK
  have HK := hide hK; clear hK
  have S := Same.refl w
  go_enter Oaag.func445, Oaag.ntmps445
  go_wp2_with (first | (refine upon_458 (by assumption) ?_; intro r w1 hl s1; replace S := Same.trans S s1; clear s1; rewrite [Oper.upon_value]))
  exact unhide HK _ _ (by assumption) S

theorem mFloor (x : Nat) (hx : x < 2 ^ FloatKind.f64.format.width) : FRet .f64 446 #[.float .f64 x] (intC .down x) := by
  intro w K hK
  have HK := hide hK; clear hK
  have S := Same.refl w
  go_enter Oaag.func446, Oaag.ntmps446
  go_wp2_with (first | (refine upon_460 (by assumption) ?_; intro r w1 hl s1; replace S := Same.trans S s1; clear s1; rewrite [Oper.upon_value]))
  exact unhide HK _ _ (by assumption) S

theorem nTrunc (x : Nat) (hx : x < 2 ^ FloatKind.f64.format.width) : FRet .f64 429 #[.float .f64 x] (intC .zero x) := by
  intro w K hK
  have HK := hide hK; clear hK
  have S := Same.refl w
  go_enter Oaag.func429, Oaag.ntmps429
  go_wp2_with (first | (refine mTrunc _ (by assumption) _ _ ?_; intro r w1 hl s1; replace S := Same.trans S s1; clear s1))
  exact unhide HK _ _ (by assumption) S

theorem nCeil (x : Nat) (hx : x < 2 ^ FloatKind.f64.format.width) : FRet .f64 430 #[.float .f64 x] (intC .up x) := by
  intro w K hK
  have HK := hide hK; clear hK
  have S := Same.refl w
  go_enter Oaag.func430, Oaag.ntmps430
  go_wp2_with (first | (refine mCeil _ (by assumption) _ _ ?_; intro r w1 hl s1; replace S := Same.trans S s1; clear s1))
  exact unhide HK _ _ (by assumption) S

theorem nFloor (x : Nat) (hx : x < 2 ^ FloatKind.f64.format.width) : FRet .f64 431 #[.float .f64 x] (intC .down x) := by
  intro w K hK
  have HK := hide hK; clear hK
  have S := Same.refl w
  go_enter Oaag.func431, Oaag.ntmps431
  go_wp2_with (first | (refine mFloor _ (by assumption) _ _ ?_; intro r w1 hl s1; replace S := Same.trans S s1; clear s1))
  exact unhide HK _ _ (by assumption) S

theorem nEven (x : Nat) (hx : x < 2 ^ FloatKind.f64.format.width) : FRet .f64 432 #[.float .f64 x] (intC .even x) := by
  intro w K hK
  have HK := hide hK; clear hK
  have S := Same.refl w
  go_enter Oaag.func432, Oaag.ntmps432
  go_wp2_with (first | (refine upon_447 (by assumption) ?_; intro r w1 hl s1; replace S := Same.trans S s1; clear s1; rewrite [Oper.upon_value]))
  exact unhide HK _ _ (by assumption) S

theorem nAway (x : Nat) (hx : x < 2 ^ FloatKind.f64.format.width) : ∃ c, c < 2 ^ FloatKind.f64.format.width ∧ FRet .f64 428 #[.float .f64 x] c := by
  obtain ⟨c, hc, hr⟩ := mRound x hx
  refine ⟨c, hc, ?_⟩
  intro w K hK
  have HK := hide hK; clear hK
  have S := Same.refl w
  go_enter Oaag.func428, Oaag.ntmps428
  go_wp2_with (first | (refine hr _ _ ?_; intro r w1 hl s1; replace S := Same.trans S s1; clear s1))
  exact unhide HK _ _ (by assumption) S

theorem roundInt64_ex (op a : Int) (ha : U64 a) : ∃ r : Nat, U64 r ∧ NRet 388 #[.int .u8 op, .int .u64 a] (.int .u64 r) := by
  have hx := toNat64 ha
  obtain ⟨c, hc, hr⟩ := nAway a.toNat hx
  by_cases h1 : op = 1
  · subst h1
    refine ⟨put .f64 c, u64_put hc, ?_⟩
    intro w K hK
    have HK := hide hK; clear hK
    have S := Same.refl w
    go_enter Oaag.func388, Oaag.ntmps388
    go_wp2_with (first | (refine from64_is _ _ _ ?_; intro w1 s1; replace S := Same.trans S s1; clear s1) | (refine hr _ _ ?_; intro r w1 hl s1; replace S := Same.trans S s1; clear s1) | (refine nTrunc _ (by assumption) _ _ ?_; intro r w1 hl s1; replace S := Same.trans S s1; clear s1) | (refine nCeil _ (by assumption) _ _ ?_; intro r w1 hl s1; replace S := Same.trans S s1; clear s1) | (refine nFloor _ (by assumption) _ _ ?_; intro r w1 hl s1; replace S := Same.trans S s1; clear s1) | (refine nEven _ (by assumption) _ _ ?_; intro r w1 hl s1; replace S := Same.trans S s1; clear s1) | (refine put64_is _ _ (by assumption) _ _ ?_; intro w1 s1; replace S := Same.trans S s1; clear s1))
    exact unhide HK _ S
  have e1 : (op == 1) = false := by simpa using h1
  by_cases h2 : op = 2
  · subst h2
    refine ⟨put .f64 (intC .zero a.toNat), u64_put (intC_lt _ _), ?_⟩
    intro w K hK
    have HK := hide hK; clear hK
    have S := Same.refl w
    go_enter Oaag.func388, Oaag.ntmps388
    go_wp2_with (first | (refine from64_is _ _ _ ?_; intro w1 s1; replace S := Same.trans S s1; clear s1) | (refine hr _ _ ?_; intro r w1 hl s1; replace S := Same.trans S s1; clear s1) | (refine nTrunc _ (by assumption) _ _ ?_; intro r w1 hl s1; replace S := Same.trans S s1; clear s1) | (refine nCeil _ (by assumption) _ _ ?_; intro r w1 hl s1; replace S := Same.trans S s1; clear s1) | (refine nFloor _ (by assumption) _ _ ?_; intro r w1 hl s1; replace S := Same.trans S s1; clear s1) | (refine nEven _ (by assumption) _ _ ?_; intro r w1 hl s1; replace S := Same.trans S s1; clear s1) | (refine put64_is _ _ (by assumption) _ _ ?_; intro w1 s1; replace S := Same.trans S s1; clear s1))
    exact unhide HK _ S
  have e2 : (op == 2) = false := by simpa using h2
  by_cases h3 : op = 3
  · subst h3
    refine ⟨put .f64 (intC .up a.toNat), u64_put (intC_lt _ _), ?_⟩
    intro w K hK
    have HK := hide hK; clear hK
    have S := Same.refl w
    go_enter Oaag.func388, Oaag.ntmps388
    go_wp2_with (first | (refine from64_is _ _ _ ?_; intro w1 s1; replace S := Same.trans S s1; clear s1) | (refine hr _ _ ?_; intro r w1 hl s1; replace S := Same.trans S s1; clear s1) | (refine nTrunc _ (by assumption) _ _ ?_; intro r w1 hl s1; replace S := Same.trans S s1; clear s1) | (refine nCeil _ (by assumption) _ _ ?_; intro r w1 hl s1; replace S := Same.trans S s1; clear s1) | (refine nFloor _ (by assumption) _ _ ?_; intro r w1 hl s1; replace S := Same.trans S s1; clear s1) | (refine nEven _ (by assumption) _ _ ?_; intro r w1 hl s1; replace S := Same.trans S s1; clear s1) | (refine put64_is _ _ (by assumption) _ _ ?_; intro w1 s1; replace S := Same.trans S s1; clear s1))
    exact unhide HK _ S
  have e3 : (op == 3) = false := by simpa using h3
  by_cases h4 : op = 4
  · subst h4
    refine ⟨put .f64 (intC .down a.toNat), u64_put (intC_lt _ _), ?_⟩
    intro w K hK
    have HK := hide hK; clear hK
    have S := Same.refl w
    go_enter Oaag.func388, Oaag.ntmps388
    go_wp2_with (first | (refine from64_is _ _ _ ?_; intro w1 s1; replace S := Same.trans S s1; clear s1) | (refine hr _ _ ?_; intro r w1 hl s1; replace S := Same.trans S s1; clear s1) | (refine nTrunc _ (by assumption) _ _ ?_; intro r w1 hl s1; replace S := Same.trans S s1; clear s1) | (refine nCeil _ (by assumption) _ _ ?_; intro r w1 hl s1; replace S := Same.trans S s1; clear s1) | (refine nFloor _ (by assumption) _ _ ?_; intro r w1 hl s1; replace S := Same.trans S s1; clear s1) | (refine nEven _ (by assumption) _ _ ?_; intro r w1 hl s1; replace S := Same.trans S s1; clear s1) | (refine put64_is _ _ (by assumption) _ _ ?_; intro w1 s1; replace S := Same.trans S s1; clear s1))
    exact unhide HK _ S
  have e4 : (op == 4) = false := by simpa using h4
  refine ⟨put .f64 (intC .even a.toNat), u64_put (intC_lt _ _), ?_⟩
  clear h1 h2 h3 h4
  intro w K hK
  have HK := hide hK; clear hK
  have S := Same.refl w
  go_enter Oaag.func388, Oaag.ntmps388
  go_wp2_with (first | (refine from64_is _ _ _ ?_; intro w1 s1; replace S := Same.trans S s1; clear s1) | (refine hr _ _ ?_; intro r w1 hl s1; replace S := Same.trans S s1; clear s1) | (refine nTrunc _ (by assumption) _ _ ?_; intro r w1 hl s1; replace S := Same.trans S s1; clear s1) | (refine nCeil _ (by assumption) _ _ ?_; intro r w1 hl s1; replace S := Same.trans S s1; clear s1) | (refine nFloor _ (by assumption) _ _ ?_; intro r w1 hl s1; replace S := Same.trans S s1; clear s1) | (refine nEven _ (by assumption) _ _ ?_; intro r w1 hl s1; replace S := Same.trans S s1; clear s1) | (refine put64_is _ _ (by assumption) _ _ ?_; intro w1 s1; replace S := Same.trans S s1; clear s1))
  exact unhide HK _ S

end Go.Proofs.YgcoaaGreat.NatW
