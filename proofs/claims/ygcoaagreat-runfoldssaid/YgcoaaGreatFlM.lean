/-
  Floats: package math: Ilogb, Nextafter, Nextafter32.
-/
import Derived.Test.YgcoaaGreatFlL
set_option linter.unusedVariables false
set_option maxRecDepth 20000
namespace Go.Proofs.YgcoaaGreat.NatW
open Go.RowKit
attribute [local go_sem] Go.Instr.field Go.asAgg ext421 ext345 ext423 ext346

theorem milogb (x : Nat) (hx : x < 2 ^ FloatKind.f64.format.width) (hn : numK .f64 x) : ∃ i : Int, -5000 ≤ i ∧ i ≤ 5000 ∧ NRet 451 #[.float .f64 x] (.int .i64 i) := by
  obtain ⟨n, e, hn, he, hr⟩ := mNorm x hx hn
  have hn' := hn
  rw [w64] at hn'
  obtain ⟨q, hq, hq2⟩ := and2047u n hn'
  have he1 : -52 ≤ e := by omega
  have he2 : e ≤ 0 := by omega
  have HR := hide hr
  clear hr he
  refine ⟨(q : Int) - 1023 + e, by omega, by omega, ?_⟩
  intro w K hK
  have HK := hide hK; clear hK
  have S := Same.refl w
  go_enter Oaag.func451, Oaag.ntmps451
  go_wp2_with (first | (refine (unhide HR) _ _ ?_; intro w1 s1; replace S := Same.trans S s1; clear s1))
  exact unhide HK _ S

theorem mIlogb (x : Nat) (hx : x < 2 ^ FloatKind.f64.format.width) : ∃ i : Int, -2147483648 ≤ i ∧ i ≤ 2147483647 ∧ NRet 434 #[.float .f64 x] (.int .i64 i) := by
  obtain ⟨b1, h1⟩ : ∃ b, (FloatKind.f64.format.order x 0 == some .eq) = b := ⟨_, rfl⟩
  obtain ⟨b2, h2⟩ : ∃ b, (FloatKind.f64.format.read x).isNaN = b := ⟨_, rfl⟩
  obtain ⟨b3, h3⟩ : ∃ b, isInf x = b := ⟨_, rfl⟩
  cases b1 with
  | true =>
    refine ⟨-2147483648, by decide, by decide, ?_⟩
    intro w K hK
    have HK := hide hK; clear hK
    have S := Same.refl w
    go_enter Oaag.func434, Oaag.ntmps434
    go_wp2_with (first | (refine mIsNaN _ _ _ ?_; rewrite [h2]; intro w1 s1; replace S := Same.trans S s1; clear s1) | (refine mIsInf _ (by assumption) _ _ ?_; rewrite [h3]; intro w1 s1; replace S := Same.trans S s1; clear s1))
    exact unhide HK _ S
  | false =>
    cases b2 with
    | true =>
      refine ⟨2147483647, by decide, by decide, ?_⟩
      intro w K hK
      have HK := hide hK; clear hK
      have S := Same.refl w
      go_enter Oaag.func434, Oaag.ntmps434
      go_wp2_with (first | (refine mIsNaN _ _ _ ?_; rewrite [h2]; intro w1 s1; replace S := Same.trans S s1; clear s1) | (refine mIsInf _ (by assumption) _ _ ?_; rewrite [h3]; intro w1 s1; replace S := Same.trans S s1; clear s1))
      exact unhide HK _ S
    | false =>
      cases b3 with
      | true =>
        refine ⟨2147483647, by decide, by decide, ?_⟩
        intro w K hK
        have HK := hide hK; clear hK
        have S := Same.refl w
        go_enter Oaag.func434, Oaag.ntmps434
        go_wp2_with (first | (refine mIsNaN _ _ _ ?_; rewrite [h2]; intro w1 s1; replace S := Same.trans S s1; clear s1) | (refine mIsInf _ (by assumption) _ _ ?_; rewrite [h3]; intro w1 s1; replace S := Same.trans S s1; clear s1))
        exact unhide HK _ S
      | false =>
        obtain ⟨i, hi, hi2, hr⟩ := milogb x hx (num_of hx h2 h3)
        refine ⟨i, by omega, by omega, ?_⟩
        have HR := hide hr
        clear hr
        intro w K hK
        have HK := hide hK; clear hK
        have S := Same.refl w
        go_enter Oaag.func434, Oaag.ntmps434
        go_wp2_with (first | (refine mIsNaN _ _ _ ?_; rewrite [h2]; intro w1 s1; replace S := Same.trans S s1; clear s1) | (refine mIsInf _ (by assumption) _ _ ?_; rewrite [h3]; intro w1 s1; replace S := Same.trans S s1; clear s1) | (refine (unhide HR) _ _ ?_; intro w1 s1; replace S := Same.trans S s1; clear s1))
        exact unhide HK _ S
theorem nIlogb (x : Nat) (hx : x < 2 ^ FloatKind.f64.format.width) : ∃ i : Int, -2147483648 ≤ i ∧ i ≤ 2147483647 ∧ NRet 390 #[.float .f64 x] (.int .i64 i) := by
  obtain ⟨i, hi, hi2, hr⟩ := mIlogb x hx
  refine ⟨i, hi, hi2, ?_⟩
  have HR := hide hr
  clear hr
  intro w K hK
  have HK := hide hK; clear hK
  have S := Same.refl w
  go_enter Oaag.func390, Oaag.ntmps390
  go_wp2_with (first | (refine (unhide HR) _ _ ?_; intro w1 s1; replace S := Same.trans S s1; clear s1))
  exact unhide HK _ S
theorem logB64_ex (a : Int) (ha : U64 a) : ∃ (i : Int) (o : Bool), -5000 ≤ i ∧ i ≤ 5000 ∧ NRet 296 #[.int .u64 a] (.tuple #[.int .i64 i, .bool o]) := by
  obtain ⟨i, hi, hi2, hr⟩ := nIlogb a.toNat (toNat64 ha)
  have HR := hide hr
  clear hr
  by_cases t1 : i < -2000
  · refine ⟨0, false, by decide, by decide, ?_⟩
    intro w K hK
    have HK := hide hK; clear hK
    have S := Same.refl w
    go_enter Oaag.func296, Oaag.ntmps296
    go_wp2_with (first | (refine from64_is _ _ _ ?_; intro w1 s1; replace S := Same.trans S s1; clear s1) | (refine (unhide HR) _ _ ?_; intro w1 s1; replace S := Same.trans S s1; clear s1))
    exact unhide HK _ S
  · by_cases t2 : 2000 < i
    · refine ⟨0, false, by decide, by decide, ?_⟩
      intro w K hK
      have HK := hide hK; clear hK
      have S := Same.refl w
      go_enter Oaag.func296, Oaag.ntmps296
      go_wp2_with (first | (refine from64_is _ _ _ ?_; intro w1 s1; replace S := Same.trans S s1; clear s1) | (refine (unhide HR) _ _ ?_; intro w1 s1; replace S := Same.trans S s1; clear s1))
      exact unhide HK _ S
    · refine ⟨i, true, by omega, by omega, ?_⟩
      intro w K hK
      have HK := hide hK; clear hK
      have S := Same.refl w
      go_enter Oaag.func296, Oaag.ntmps296
      go_wp2_with (first | (refine from64_is _ _ _ ?_; intro w1 s1; replace S := Same.trans S s1; clear s1) | (refine (unhide HR) _ _ ?_; intro w1 s1; replace S := Same.trans S s1; clear s1))
      exact unhide HK _ S

theorem mNext (x y : Nat) (hx : x < 2 ^ FloatKind.f64.format.width) (hy : y < 2 ^ FloatKind.f64.format.width) : ∃ c, c < 2 ^ FloatKind.f64.format.width ∧ FRet .f64 452 #[.float .f64 x, .float .f64 y] c := by
  obtain ⟨b1, h1⟩ : ∃ b, (FloatKind.f64.format.read x).isNaN = b := ⟨_, rfl⟩
  obtain ⟨b2, h2⟩ : ∃ b, (FloatKind.f64.format.read y).isNaN = b := ⟨_, rfl⟩
  obtain ⟨b3, h3⟩ : ∃ b, (FloatKind.f64.format.order x y == some .eq) = b := ⟨_, rfl⟩
  obtain ⟨b4, h4⟩ : ∃ b, (FloatKind.f64.format.order x 0 == some .eq) = b := ⟨_, rfl⟩
  obtain ⟨b5, h5⟩ : ∃ b, (FloatKind.f64.format.order y x == some .gt) = b := ⟨_, rfl⟩
  obtain ⟨b6, h6⟩ : ∃ b, (FloatKind.f64.format.order x 0 == some .gt) = b := ⟨_, rfl⟩
  have hx' := hx
  rw [w64] at hx'
  cases b1 with
  | true =>
    obtain ⟨c, hc1, hc⟩ := mNaN
    refine ⟨c, hc1, ?_⟩
    intro w K hK
    have HK := hide hK; clear hK
    have S := Same.refl w
    go_enter Oaag.func452, Oaag.ntmps452
    go_wp2_with (first | (refine mIsNaN _ _ _ ?_; (first | rewrite [h1] | rewrite [h2]); intro w1 s1; replace S := Same.trans S s1; clear s1) | (refine hc _ _ ?_; intro w1 s1; replace S := Same.trans S s1; clear s1))
    exact unhide HK _ _ (Like.self (by assumption)) S
  | false =>
    cases b2 with
    | true =>
      obtain ⟨c, hc1, hc⟩ := mNaN
      refine ⟨c, hc1, ?_⟩
      intro w K hK
      have HK := hide hK; clear hK
      have S := Same.refl w
      go_enter Oaag.func452, Oaag.ntmps452
      go_wp2_with (first | (refine mIsNaN _ _ _ ?_; (first | rewrite [h1] | rewrite [h2]); intro w1 s1; replace S := Same.trans S s1; clear s1) | (refine hc _ _ ?_; intro w1 s1; replace S := Same.trans S s1; clear s1))
      exact unhide HK _ _ (Like.self (by assumption)) S
    | false =>
      cases b3 with
      | true =>
        refine ⟨x, hx, ?_⟩
        intro w K hK
        have HK := hide hK; clear hK
        have S := Same.refl w
        go_enter Oaag.func452, Oaag.ntmps452
        go_wp2_with (first | (refine mIsNaN _ _ _ ?_; (first | rewrite [h1] | rewrite [h2]); intro w1 s1; replace S := Same.trans S s1; clear s1) | (refine hc _ _ ?_; intro w1 s1; replace S := Same.trans S s1; clear s1))
        exact unhide HK _ _ (Like.self (by assumption)) S
      | false =>
        cases b4 with
        | true =>
          obtain ⟨c, hc1, hc⟩ := mCopysign 1 y (by decide) hy
          refine ⟨c, hc1, ?_⟩
          intro w K hK
          have HK := hide hK; clear hK
          have S := Same.refl w
          go_enter Oaag.func452, Oaag.ntmps452
          go_wp2_with (first | (refine mIsNaN _ _ _ ?_; (first | rewrite [h1] | rewrite [h2]); intro w1 s1; replace S := Same.trans S s1; clear s1) | (refine hc _ _ ?_; intro w1 s1; replace S := Same.trans S s1; clear s1))
          exact unhide HK _ _ (Like.self (by assumption)) S
        | false =>
          by_cases b56 : b5 = b6
          · subst b56
            refine ⟨(IntKind.u64.wrap ((x : Int) + 1)).toNat, toNat_lt _, ?_⟩
            intro w K hK
            have HK := hide hK; clear hK
            have S := Same.refl w
            go_enter Oaag.func452, Oaag.ntmps452
            go_wp2_with (first | (refine mIsNaN _ _ _ ?_; (first | rewrite [h1] | rewrite [h2]); intro w1 s1; replace S := Same.trans S s1; clear s1))
            exact unhide HK _ _ (Like.self (toNat_lt _)) S
          · have b57 : (b5 == b6) = false := by simpa using b56
            clear b56
            refine ⟨(IntKind.u64.wrap ((x : Int) - 1)).toNat, toNat_lt _, ?_⟩
            intro w K hK
            have HK := hide hK; clear hK
            have S := Same.refl w
            go_enter Oaag.func452, Oaag.ntmps452
            go_wp2_with (first | (refine mIsNaN _ _ _ ?_; (first | rewrite [h1] | rewrite [h2]); intro w1 s1; replace S := Same.trans S s1; clear s1))
            exact unhide HK _ _ (Like.self (toNat_lt _)) S

end Go.Proofs.YgcoaaGreat.NatW
