/-
  Floats: package math: normalize, Ldexp, Ilogb.
-/
import Derived.Test.YgcoaaGreatFlK
set_option linter.unusedVariables false
set_option maxRecDepth 20000
namespace Go.Proofs.YgcoaaGreat.NatW
open Go.RowKit
attribute [local go_sem] Go.Instr.field Go.asAgg ext421 ext345 ext423 ext346

/-- Neither a NaN nor an infinity: a number. -/
theorem num_of {x : Nat} (hx : x < 2 ^ FloatKind.f64.format.width) (h1 : (FloatKind.f64.format.read x).isNaN = false) (h2 : isInf x = false) : numK .f64 x := by
  cases hd : FloatKind.f64.format.read x with
  | number s m e => exact ⟨s, m, e, hd⟩
  | nan s f => rw [hd] at h1; cases h1
  | infinity s =>
    exfalso
    rw [w64] at hx
    unfold Ieee.Format.read at hd
    have e1 : Ieee.Format.binade FloatKind.f64.format = 4503599627370496 := by decide
    have e2 : Ieee.Format.infRung FloatKind.f64.format = 9218868437227405312 := by decide
    have e3 : Ieee.Format.signWeight FloatKind.f64.format = 9223372036854775808 := by decide
    simp only [e1, e2, e3] at hd
    split at hd
    · cases hd
    · split at hd
      · cases hd
      · split at hd
        · rename_i h
          have : x = 9218868437227405312 ∨ x = 18442240473 * 1000000000 + 1 ∨ x = 9223372036854775808 + 9218868437227405312 := by omega
          rcases this with rfl | rfl | rfl
          · exact absurd h2 (by decide)
          · omega
          · exact absurd h2 (by decide)
        · cases hd
theorem num_52 : numK .f64 4841369599423283200 := ⟨false, 4503599627370496, 0, by decide⟩

/-- A number made normal. -/
theorem mNorm (x : Nat) (hx : x < 2 ^ FloatKind.f64.format.width) (hn : numK .f64 x) : ∃ (n : Nat) (e : Int), n < 2 ^ FloatKind.f64.format.width ∧ (e = 0 ∨ e = -52) ∧ NRet 465 #[.float .f64 x] (.tuple #[.float .f64 n, .int .i64 e]) := by
  obtain ⟨b, hb⟩ : ∃ b, (FloatKind.f64.format.order (absC x) 4503599627370496 == some .lt) = b := ⟨_, rfl⟩
  have HN := hide hn
  clear hn
  cases b with
  | true =>
    refine ⟨fa .mul .f64 x 4841369599423283200, -52, fa_lt _ _ _ _, Or.inr rfl, ?_⟩

    intro w K hK
    have HK := hide hK; clear hK
    have S := Same.refl w
    go_enter Oaag.func465, Oaag.ntmps465
    go_wp2_with (first | (refine mAbs _ (by assumption) _ _ ?_; intro w1 s1; replace S := Same.trans S s1; clear s1) | (refine upon_num (by simp) (unhide HN) num_52 ?_; intro w1 s1; replace S := Same.trans S s1; clear s1; rewrite [Oper.upon_value]))
    exact unhide HK _ S

  | false =>
    refine ⟨x, 0, hx, Or.inl rfl, ?_⟩
    intro w K hK
    have HK := hide hK; clear hK
    have S := Same.refl w
    go_enter Oaag.func465, Oaag.ntmps465
    go_wp2_with (first | (refine mAbs _ (by assumption) _ _ ?_; intro w1 s1; replace S := Same.trans S s1; clear s1))
    exact unhide HK _ S

theorem and2047 (n : Nat) (hn : n < 18446744073709551616) : ∃ q : Nat, bits .and .i64 ((n : Int) / 4503599627370496) 2047 = (q : Int) ∧ q ≤ 2047 := by
  have hc : (n : Int) / 4503599627370496 = ((n / 4503599627370496 : Nat) : Int) := by omega
  have h := (bits_nat .i64 63 (by decide) (fun a h0 h1 => Sf.wrap_in (by simp [IntKind.min, IntKind.signed, IntKind.bits]; omega) (by simp [IntKind.max, IntKind.signed, IntKind.bits]; omega)) (n / 4503599627370496) 2047 (by omega) (by decide)).1
  refine ⟨(n / 4503599627370496) &&& 2047, ?_, Nat.and_le_right⟩
  rw [hc]
  exact h
theorem and2047u (n : Nat) (hn : n < 18446744073709551616) : ∃ q : Nat, bits .and .u64 ((n : Int) / 4503599627370496) 2047 = (q : Int) ∧ q ≤ 2047 := by
  have hc : (n : Int) / 4503599627370496 = ((n / 4503599627370496 : Nat) : Int) := by omega
  have h := (bits_nat .u64 64 (by decide) (fun a h0 h1 => Sf.wrap_in (by simp [IntKind.min, IntKind.signed]; omega) (by simp [IntKind.max, IntKind.signed, IntKind.bits]; omega)) (n / 4503599627370496) 2047 (by omega) (by decide)).1
  refine ⟨(n / 4503599627370496) &&& 2047, ?_, Nat.and_le_right⟩
  rw [hc]
  exact h

theorem mldexp (x : Nat) (hx : x < 2 ^ FloatKind.f64.format.width) (k : Int) (hk : -100000 ≤ k) (hk2 : k ≤ 100000) : ∃ c, c < 2 ^ FloatKind.f64.format.width ∧ FRet .f64 463 #[.float .f64 x, .int .i64 k] c := by
  obtain ⟨b1, h1⟩ : ∃ b, (FloatKind.f64.format.order x 0 == some .eq) = b := ⟨_, rfl⟩
  obtain ⟨b2, h2⟩ : ∃ b, (FloatKind.f64.format.read x).isNaN = b := ⟨_, rfl⟩
  obtain ⟨b3, h3⟩ : ∃ b, isInf x = b := ⟨_, rfl⟩
  cases b1 with
  | true =>
    refine ⟨x, hx, ?_⟩
    intro w K hK
    have HK := hide hK; clear hK
    have S := Same.refl w
    go_enter Oaag.func463, Oaag.ntmps463
    go_wp2_with (first | (refine mIsNaN _ _ _ ?_; rewrite [h2]; intro w1 s1; replace S := Same.trans S s1; clear s1) | (refine mIsInf _ (by assumption) _ _ ?_; rewrite [h3]; intro w1 s1; replace S := Same.trans S s1; clear s1))
    exact unhide HK _ _ (Like.self (by assumption)) S
  | false =>
    cases b3 with
    | true =>
      refine ⟨x, hx, ?_⟩
      intro w K hK
      have HK := hide hK; clear hK
      have S := Same.refl w
      go_enter Oaag.func463, Oaag.ntmps463
      go_wp2_with (first | (refine mIsNaN _ _ _ ?_; rewrite [h2]; intro w1 s1; replace S := Same.trans S s1; clear s1) | (refine mIsInf _ (by assumption) _ _ ?_; rewrite [h3]; intro w1 s1; replace S := Same.trans S s1; clear s1))
      exact unhide HK _ _ (Like.self (by assumption)) S
    | false =>
      cases b2 with
      | true =>
        refine ⟨x, hx, ?_⟩
        intro w K hK
        have HK := hide hK; clear hK
        have S := Same.refl w
        go_enter Oaag.func463, Oaag.ntmps463
        go_wp2_with (first | (refine mIsNaN _ _ _ ?_; rewrite [h2]; intro w1 s1; replace S := Same.trans S s1; clear s1) | (refine mIsInf _ (by assumption) _ _ ?_; rewrite [h3]; intro w1 s1; replace S := Same.trans S s1; clear s1))
        exact unhide HK _ _ (Like.self (by assumption)) S
      | false =>
        obtain ⟨n, e, hn, he, hr⟩ := mNorm x hx (num_of hx h2 h3)
        have hn' := hn
        rw [w64] at hn'
        obtain ⟨q, hq, hq2⟩ := and2047 n hn'
        have he1 : -52 ≤ e := by omega
        have he2 : e ≤ 0 := by omega
        obtain ⟨T, hT⟩ : ∃ T, k + e + ((q : Int) - 1023) = T := ⟨_, rfl⟩
        have HR := hide hr
        clear hr he
        by_cases t1 : T < -1075
        · obtain ⟨c, hc1, hc⟩ := mCopysign 0 n (by decide) hn
          refine ⟨c, hc1, ?_⟩
          intro w K hK
          have HK := hide hK; clear hK
          have S := Same.refl w
          go_enter Oaag.func463, Oaag.ntmps463
          go_wp2_with (first | (refine mIsNaN _ _ _ ?_; rewrite [h2]; intro w1 s1; replace S := Same.trans S s1; clear s1) | (refine mIsInf _ (by assumption) _ _ ?_; rewrite [h3]; intro w1 s1; replace S := Same.trans S s1; clear s1) | (refine (unhide HR) _ _ ?_; intro w1 s1; replace S := Same.trans S s1; clear s1) | (refine hc _ _ ?_; intro w1 s1; replace S := Same.trans S s1; clear s1))
          exact unhide HK _ _ (Like.self (by assumption)) S
        · by_cases t2 : 1023 < T
          · obtain ⟨b4, h4⟩ : ∃ b, (FloatKind.f64.format.order n 0 == some .lt) = b := ⟨_, rfl⟩
            cases b4 with
            | true =>
              obtain ⟨c, hc1, hc⟩ := mInf (-1) (Or.inr rfl)
              refine ⟨c, hc1, ?_⟩
              intro w K hK
              have HK := hide hK; clear hK
              have S := Same.refl w
              go_enter Oaag.func463, Oaag.ntmps463
              go_wp2_with (first | (refine mIsNaN _ _ _ ?_; rewrite [h2]; intro w1 s1; replace S := Same.trans S s1; clear s1) | (refine mIsInf _ (by assumption) _ _ ?_; rewrite [h3]; intro w1 s1; replace S := Same.trans S s1; clear s1) | (refine (unhide HR) _ _ ?_; intro w1 s1; replace S := Same.trans S s1; clear s1) | (refine hc _ _ ?_; intro w1 s1; replace S := Same.trans S s1; clear s1))
              exact unhide HK _ _ (Like.self (by assumption)) S
            | false =>
              obtain ⟨c, hc1, hc⟩ := mInf 1 (Or.inl rfl)
              refine ⟨c, hc1, ?_⟩
              intro w K hK
              have HK := hide hK; clear hK
              have S := Same.refl w
              go_enter Oaag.func463, Oaag.ntmps463
              go_wp2_with (first | (refine mIsNaN _ _ _ ?_; rewrite [h2]; intro w1 s1; replace S := Same.trans S s1; clear s1) | (refine mIsInf _ (by assumption) _ _ ?_; rewrite [h3]; intro w1 s1; replace S := Same.trans S s1; clear s1) | (refine (unhide HR) _ _ ?_; intro w1 s1; replace S := Same.trans S s1; clear s1) | (refine hc _ _ ?_; intro w1 s1; replace S := Same.trans S s1; clear s1))
              exact unhide HK _ _ (Like.self (by assumption)) S
          · by_cases t3 : T < -1022
            · refine ⟨fa .mul .f64 4368491638549381120 (bits .or .u64 (bits .andNot .u64 (n : Int) 9218868437227405312) ((T + 53 + 1023) * 4503599627370496)).toNat, fa_lt _ _ _ _, ?_⟩
              intro w K hK
              have HK := hide hK; clear hK
              have S := Same.refl w
              go_enter Oaag.func463, Oaag.ntmps463
              go_wp2_with (first | (refine mIsNaN _ _ _ ?_; rewrite [h2]; intro w1 s1; replace S := Same.trans S s1; clear s1) | (refine mIsInf _ (by assumption) _ _ ?_; rewrite [h3]; intro w1 s1; replace S := Same.trans S s1; clear s1) | (refine (unhide HR) _ _ ?_; intro w1 s1; replace S := Same.trans S s1; clear s1) | (refine upon_arith (by simp) ?_; intro r w1 hl s1; replace S := Same.trans S s1; clear s1; rewrite [Oper.upon_value]))
              exact unhide HK _ _ (by assumption) S
            · refine ⟨fa .mul .f64 4607182418800017408 (bits .or .u64 (bits .andNot .u64 (n : Int) 9218868437227405312) ((T + 1023) * 4503599627370496)).toNat, fa_lt _ _ _ _, ?_⟩
              intro w K hK
              have HK := hide hK; clear hK
              have S := Same.refl w
              go_enter Oaag.func463, Oaag.ntmps463
              go_wp2_with (first | (refine mIsNaN _ _ _ ?_; rewrite [h2]; intro w1 s1; replace S := Same.trans S s1; clear s1) | (refine mIsInf _ (by assumption) _ _ ?_; rewrite [h3]; intro w1 s1; replace S := Same.trans S s1; clear s1) | (refine (unhide HR) _ _ ?_; intro w1 s1; replace S := Same.trans S s1; clear s1) | (refine upon_arith (by simp) ?_; intro r w1 hl s1; replace S := Same.trans S s1; clear s1; rewrite [Oper.upon_value]))
              exact unhide HK _ _ (by assumption) S

theorem mLdexp (x : Nat) (hx : x < 2 ^ FloatKind.f64.format.width) (k : Int) (hk : -100000 ≤ k) (hk2 : k ≤ 100000) : ∃ c, c < 2 ^ FloatKind.f64.format.width ∧ FRet .f64 448 #[.float .f64 x, .int .i64 k] c := by
  obtain ⟨c, hc, hr⟩ := mldexp x hx k hk hk2
  refine ⟨c, hc, ?_⟩
  intro w K hK
  have HK := hide hK; clear hK
  have S := Same.refl w
  go_enter Oaag.func448, Oaag.ntmps448
  go_wp2_with (first | (refine hr _ _ ?_; intro r w1 hl s1; replace S := Same.trans S s1; clear s1))
  exact unhide HK _ _ (by assumption) S

theorem nLdexp (x : Nat) (hx : x < 2 ^ FloatKind.f64.format.width) (k : Int) (hk : -100000 ≤ k) (hk2 : k ≤ 100000) : ∃ c, c < 2 ^ FloatKind.f64.format.width ∧ FRet .f64 433 #[.float .f64 x, .int .i64 k] c := by
  obtain ⟨c, hc, hr⟩ := mLdexp x hx k hk hk2
  refine ⟨c, hc, ?_⟩
  intro w K hK
  have HK := hide hK; clear hK
  have S := Same.refl w
  go_enter Oaag.func433, Oaag.ntmps433
  go_wp2_with (first | (refine hr _ _ ?_; intro r w1 hl s1; replace S := Same.trans S s1; clear s1))
  exact unhide HK _ _ (by assumption) S

theorem scaleB64_ex (a : Int) (ha : U64 a) (k : Int) (hk : -32768 ≤ k) (hk2 : k ≤ 32767) : ∃ r : Nat, U64 r ∧ NRet 389 #[.int .u64 a, .int .i16 k] (.int .u64 r) := by
  obtain ⟨c, hc, hr⟩ := nLdexp a.toNat (toNat64 ha) k (by omega) (by omega)
  refine ⟨put .f64 c, u64_put hc, ?_⟩
  intro w K hK
  have HK := hide hK; clear hK
  have S := Same.refl w
  go_enter Oaag.func389, Oaag.ntmps389
  go_wp2_with (first | (refine from64_is _ _ _ ?_; intro w1 s1; replace S := Same.trans S s1; clear s1) | (refine hr _ _ ?_; intro r w1 hl s1; replace S := Same.trans S s1; clear s1) | (refine put64_is _ _ (by assumption) _ _ ?_; intro w1 s1; replace S := Same.trans S s1; clear s1))
  exact unhide HK _ S

end Go.Proofs.YgcoaaGreat.NatW
