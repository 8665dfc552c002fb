/-
  Floats: Nextafter32; the package of the machine's own floats: NextTo64, NextTo32.
-/
import Derived.Test.YgcoaaGreatFlM
set_option linter.unusedVariables false
set_option maxRecDepth 20000
namespace Go.Proofs.YgcoaaGreat.NatW
open Go.RowKit
attribute [local go_sem] Go.Instr.field Go.asAgg ext421 ext345 ext423 ext346

theorem conv_nan {x r : Nat} (h : Like .f64 r (convC .f64 (FloatKind.f32.decode x))) : (FloatKind.f64.format.read r).isNaN = (FloatKind.f32.format.read x).isNaN := by
  have aux : (FloatKind.f64.format.read (convC .f64 (FloatKind.f32.decode x))).isNaN = (FloatKind.f32.format.read x).isNaN := by
    unfold FloatKind.decode
    cases hd : FloatKind.f32.format.read x with
    | nan s f => exact theNan_nan .f64
    | infinity s => cases s <;> decide
    | number s m e =>
      have := enc_num .f64 s m e
      unfold nanK at this
      simp only [Bool.not_eq_true] at this
      exact this
  rw [← aux]
  obtain ⟨_, rfl | ⟨h1, h2⟩⟩ := h
  · rfl
  · unfold nanK at h1 h2
    rw [h1, h2]
theorem conv_eq {x r : Nat} (h : Like .f64 r (convC .f64 (FloatKind.f32.decode x))) (hn : (FloatKind.f32.format.read x).isNaN = false) : r = convC .f64 (FloatKind.f32.decode x) := by
  have h1 := conv_nan h
  obtain ⟨_, h | ⟨h2, _⟩⟩ := h
  · exact h
  · unfold nanK at h2; rw [h2, hn] at h1; cases h1
theorem mNaN' : NRet 466 #[] (.float .f64 9221120237041090561) := by
  intro w K hK
  have HK := hide hK; clear hK
  have S := Same.refl w
  go_enter Oaag.func466, Oaag.ntmps466
  go_wp2_with (first | fail)
  exact unhide HK _ S

theorem one_conv : convC .f64 (FloatKind.f32.decode 1) = 3936146074321813504 := by decide
theorem cs_one (y : Nat) (hy : y < 18446744073709551616) : (bits .or .u64 (bits .andNot .u64 ((3936146074321813504 : Nat) : Int) 9223372036854775808) (bits .and .u64 (y : Int) 9223372036854775808)).toNat = 3936146074321813504 ∨
    (bits .or .u64 (bits .andNot .u64 ((3936146074321813504 : Nat) : Int) 9223372036854775808) (bits .and .u64 (y : Int) 9223372036854775808)).toNat = 13159518111176589312 := by
  have h := (bits_nat .u64 64 (by decide) (fun a h0 h1 => Sf.wrap_in (by simp [IntKind.min, IntKind.signed]; omega) (by simp [IntKind.max, IntKind.signed, IntKind.bits]; omega)) y 9223372036854775808 (by omega) (by decide)).1
  have h' : bits .and .u64 (y : Int) 9223372036854775808 = ((y &&& 9223372036854775808 : Nat) : Int) := h
  rw [h']
  have e : bits .andNot .u64 ((3936146074321813504 : Nat) : Int) 9223372036854775808 = 3936146074321813504 := by decide
  rw [e]
  have : y &&& 9223372036854775808 = 0 ∨ y &&& 9223372036854775808 = 9223372036854775808 := by
    rw [show (9223372036854775808 : Nat) = 2 ^ 63 by decide]
    cases hb : y.testBit 63
    · left
      apply Nat.eq_of_testBit_eq
      intro i
      rw [Nat.testBit_and, Nat.testBit_two_pow, Nat.zero_testBit]
      by_cases h : 63 = i
      · subst h; rw [hb]; rfl
      · simp [h]
    · right
      apply Nat.eq_of_testBit_eq
      intro i
      rw [Nat.testBit_and, Nat.testBit_two_pow]
      by_cases h : 63 = i
      · subst h; rw [hb]; rfl
      · simp [h]
  rcases this with h | h
  · rw [h]; left; decide
  · rw [h]; right; decide
theorem small_fin {c : Nat} (hc : c = 3936146074321813504 ∨ c = 13159518111176589312) (s : Bool) (m : Nat) (e : Int) (h : FloatKind.f64.decode c = .number s m e) : (FloatKind.f32.decode (FloatKind.f32.encode (.number s m e))).isInfinity = false := by
  rcases hc with rfl | rfl
  · rw [show FloatKind.f64.decode 3936146074321813504 = .number false 4503599627370496 (-201) by decide] at h
    injection h with a1 a2 a3
    subst a1 a2 a3
    decide
  · rw [show FloatKind.f64.decode 13159518111176589312 = .number true 4503599627370496 (-201) by decide] at h
    injection h with a1 a2 a3
    subst a1 a2 a3
    decide
theorem nan_fin (s : Bool) (m : Nat) (e : Int) (h : FloatKind.f64.decode 9221120237041090561 = .number s m e) : (FloatKind.f32.decode (FloatKind.f32.encode (.number s m e))).isInfinity = false := by
  rw [show FloatKind.f64.decode 9221120237041090561 = .nan false 2251799813685249 by decide] at h
  cases h
theorem cs_is (x y : Nat) (hx : x < 2 ^ FloatKind.f64.format.width) (hy : y < 2 ^ FloatKind.f64.format.width) : NRet 467 #[.float .f64 x, .float .f64 y] (.float .f64 (bits .or .u64 (bits .andNot .u64 (x : Int) 9223372036854775808) (bits .and .u64 (y : Int) 9223372036854775808)).toNat) := by
  rw [w64] at hx hy
  intro w K hK
  have HK := hide hK; clear hK
  have S := Same.refl w
  go_enter Oaag.func467, Oaag.ntmps467
  go_wp2_with (first | fail)
  exact unhide HK _ S

theorem toNat_lt32 (x : Int) : (IntKind.u32.wrap x).toNat < 2 ^ FloatKind.f32.format.width := by
  rw [w32]
  have h := wrap_within .u32 x
  have h1 : IntKind.min .u32 = 0 := by decide
  have h2 : IntKind.max .u32 = 4294967295 := by decide
  rw [h1, h2] at h
  omega

set_option maxHeartbeats 2000000 in
theorem mNext32 (x y : Nat) (hx : x < 2 ^ FloatKind.f32.format.width) (hy : y < 2 ^ FloatKind.f32.format.width) : ∃ c, c < 2 ^ FloatKind.f32.format.width ∧ FRet .f32 453 #[.float .f32 x, .float .f32 y] c := by
  obtain ⟨b1, h1⟩ : ∃ b, (FloatKind.f32.format.read x).isNaN = b := ⟨_, rfl⟩
  obtain ⟨b2, h2⟩ : ∃ b, (FloatKind.f32.format.read y).isNaN = b := ⟨_, rfl⟩
  obtain ⟨b3, h3⟩ : ∃ b, (FloatKind.f32.format.order x y == some .eq) = b := ⟨_, rfl⟩
  obtain ⟨b4, h4⟩ : ∃ b, (FloatKind.f32.format.order x 0 == some .eq) = b := ⟨_, rfl⟩
  obtain ⟨b5, h5⟩ : ∃ b, (FloatKind.f32.format.order y x == some .gt) = b := ⟨_, rfl⟩
  obtain ⟨b6, h6⟩ : ∃ b, (FloatKind.f32.format.order x 0 == some .gt) = b := ⟨_, rfl⟩
  have hx' := hx
  rw [w32] at hx'
  have hcy := convC_lt .f64 (FloatKind.f32.decode y)
  have hcy' := hcy
  rw [w64] at hcy'
  cases b1 with
  | true =>
    refine ⟨_, convC_lt .f32 (FloatKind.f64.decode 9221120237041090561), ?_⟩
    intro w K hK
    have HK := hide hK; clear hK
    have S := Same.refl w
    go_enter Oaag.func453, Oaag.ntmps453
    go_wp2_with (first | (refine upon_conv und213 und210 (by decide) (widen_fin _) ?_; intro r w1 hl s1; replace S := Same.trans S s1; clear s1; rewrite [Oper.upon_value]; have hv := conv_nan hl; (first | rewrite [h1] at hv | rewrite [h2] at hv | skip)) | (refine mIsNaN _ _ _ ?_; rewrite [hv]; intro w1 s1; replace S := Same.trans S s1; clear s1) | (refine mNaN' _ _ ?_; intro w1 s1; replace S := Same.trans S s1; clear s1) | (refine upon_conv und210 und213 (by decide) nan_fin ?_; intro r w1 hl s1; replace S := Same.trans S s1; clear s1; rewrite [Oper.upon_value]))
    exact unhide HK _ _ (by assumption) S
  | false =>
    cases b2 with
    | true =>
      refine ⟨_, convC_lt .f32 (FloatKind.f64.decode 9221120237041090561), ?_⟩
      intro w K hK
      have HK := hide hK; clear hK
      have S := Same.refl w
      go_enter Oaag.func453, Oaag.ntmps453
      go_wp2_with (first | (refine upon_conv und213 und210 (by decide) (widen_fin _) ?_; intro r w1 hl s1; replace S := Same.trans S s1; clear s1; rewrite [Oper.upon_value]; have hv := conv_nan hl; (first | rewrite [h1] at hv | rewrite [h2] at hv | skip)) | (refine mIsNaN _ _ _ ?_; rewrite [hv]; intro w1 s1; replace S := Same.trans S s1; clear s1) | (refine mNaN' _ _ ?_; intro w1 s1; replace S := Same.trans S s1; clear s1) | (refine upon_conv und210 und213 (by decide) nan_fin ?_; intro r w1 hl s1; replace S := Same.trans S s1; clear s1; rewrite [Oper.upon_value]))
      exact unhide HK _ _ (by assumption) S
    | false =>
      cases b3 with
      | true =>
        refine ⟨x, hx, ?_⟩
        intro w K hK
        have HK := hide hK; clear hK
        have S := Same.refl w
        go_enter Oaag.func453, Oaag.ntmps453
        go_wp2_with (first | (refine upon_conv und213 und210 (by decide) (widen_fin _) ?_; intro r w1 hl s1; replace S := Same.trans S s1; clear s1; rewrite [Oper.upon_value]; have hv := conv_nan hl; (first | rewrite [h1] at hv | rewrite [h2] at hv | skip)) | (refine mIsNaN _ _ _ ?_; rewrite [hv]; intro w1 s1; replace S := Same.trans S s1; clear s1))
        exact unhide HK _ _ (Like.self (by assumption)) S
      | false =>
        cases b4 with
        | true =>
          refine ⟨_, convC_lt .f32 (FloatKind.f64.decode (bits .or .u64 (bits .andNot .u64 ((3936146074321813504 : Nat) : Int) 9223372036854775808) (bits .and .u64 ((convC .f64 (FloatKind.f32.decode y) : Nat) : Int) 9223372036854775808)).toNat), ?_⟩
          intro w K hK
          have HK := hide hK; clear hK
          have S := Same.refl w
          go_enter Oaag.func453, Oaag.ntmps453
          go_wp2_with (first | (refine upon_conv und213 und210 (by decide) (widen_fin _) ?_; intro r w1 hl s1; replace S := Same.trans S s1; clear s1; rewrite [Oper.upon_value]; have hv := conv_nan hl; first | (rewrite [h1] at hv; have hv1 := hv) | (rewrite [h2] at hv; (try (have hq := conv_eq hl h2; subst hq))) | (have hq := conv_eq hl (by decide); rewrite [one_conv] at hq; subst hq)) | (refine mIsNaN _ _ _ ?_; rewrite [hv]; intro w1 s1; replace S := Same.trans S s1; clear s1) | (refine cs_is _ _ (by decide) (by assumption) _ _ ?_; intro w1 s1; replace S := Same.trans S s1; clear s1) | (refine upon_conv und210 und213 (by decide) (small_fin (cs_one _ (by assumption))) ?_; intro r w1 hl s1; replace S := Same.trans S s1; clear s1; rewrite [Oper.upon_value]))
          exact unhide HK _ _ (by assumption) S
        | false =>
          by_cases b56 : b5 = b6
          · subst b56
            refine ⟨(x + 1) % 4294967296, Nat.mod_lt _ (by decide), ?_⟩
            intro w K hK
            have HK := hide hK; clear hK
            have S := Same.refl w
            go_enter Oaag.func453, Oaag.ntmps453
            go_wp2_with (first | (refine upon_conv und213 und210 (by decide) (widen_fin _) ?_; intro r w1 hl s1; replace S := Same.trans S s1; clear s1; rewrite [Oper.upon_value]; have hv := conv_nan hl; (first | rewrite [h1] at hv | rewrite [h2] at hv | skip)) | (refine mIsNaN _ _ _ ?_; rewrite [hv]; intro w1 s1; replace S := Same.trans S s1; clear s1))
            exact unhide HK _ _ (Like.self (Nat.mod_lt _ (by decide))) S
          · have b57 : (b5 == b6) = false := by simpa using b56
            clear b56
            refine ⟨(IntKind.u32.wrap ((x : Int) - 1)).toNat, toNat_lt32 _, ?_⟩
            intro w K hK
            have HK := hide hK; clear hK
            have S := Same.refl w
            go_enter Oaag.func453, Oaag.ntmps453
            go_wp2_with (first | (refine upon_conv und213 und210 (by decide) (widen_fin _) ?_; intro r w1 hl s1; replace S := Same.trans S s1; clear s1; rewrite [Oper.upon_value]; have hv := conv_nan hl; (first | rewrite [h1] at hv | rewrite [h2] at hv | skip)) | (refine mIsNaN _ _ _ ?_; rewrite [hv]; intro w1 s1; replace S := Same.trans S s1; clear s1))
            exact unhide HK _ _ (Like.self (toNat_lt32 _)) S

theorem nNext (x y : Nat) (hx : x < 2 ^ FloatKind.f64.format.width) (hy : y < 2 ^ FloatKind.f64.format.width) : ∃ c, c < 2 ^ FloatKind.f64.format.width ∧ FRet .f64 435 #[.float .f64 x, .float .f64 y] c := by
  obtain ⟨c, hc, hr⟩ := mNext x y hx hy
  refine ⟨c, hc, ?_⟩
  intro w K hK
  have HK := hide hK; clear hK
  have S := Same.refl w
  go_enter Oaag.func435, Oaag.ntmps435
  go_wp2_with (first | (refine hr _ _ ?_; intro r w1 hl s1; replace S := Same.trans S s1; clear s1))
  exact unhide HK _ _ (by assumption) S

theorem nNext32 (x y : Nat) (hx : x < 2 ^ FloatKind.f32.format.width) (hy : y < 2 ^ FloatKind.f32.format.width) : ∃ c, c < 2 ^ FloatKind.f32.format.width ∧ FRet .f32 436 #[.float .f32 x, .float .f32 y] c := by
  obtain ⟨c, hc, hr⟩ := mNext32 x y hx hy
  refine ⟨c, hc, ?_⟩
  intro w K hK
  have HK := hide hK; clear hK
  have S := Same.refl w
  go_enter Oaag.func436, Oaag.ntmps436
  go_wp2_with (first | (refine hr _ _ ?_; intro r w1 hl s1; replace S := Same.trans S s1; clear s1))
  exact unhide HK _ _ (by assumption) S

theorem nextTo64_ex (a b : Int) (ha : U64 a) (hb : U64 b) : ∃ r : Nat, U64 r ∧ NRet 395 #[.int .u64 a, .int .u64 b] (.int .u64 r) := by
  obtain ⟨c, hc, hr⟩ := nNext a.toNat b.toNat (toNat64 ha) (toNat64 hb)
  refine ⟨put .f64 c, u64_put hc, ?_⟩
  intro w K hK
  have HK := hide hK; clear hK
  have S := Same.refl w
  go_enter Oaag.func395, Oaag.ntmps395
  go_wp2_with (first | (refine from64_is _ _ _ ?_; intro w1 s1; replace S := Same.trans S s1; clear s1) | (refine hr _ _ ?_; intro r w1 hl s1; replace S := Same.trans S s1; clear s1) | (refine put64_is _ _ (by assumption) _ _ ?_; intro w1 s1; replace S := Same.trans S s1; clear s1))
  exact unhide HK _ S

theorem nextTo32_ex (a b : Int) (ha : U32 a) (hb : U32 b) : ∃ r : Nat, U32 r ∧ NRet 396 #[.int .u32 a, .int .u32 b] (.int .u32 r) := by
  obtain ⟨c, hc, hr⟩ := nNext32 a.toNat b.toNat (toNat32 ha) (toNat32 hb)
  refine ⟨put .f32 c, u32_put hc, ?_⟩
  intro w K hK
  have HK := hide hK; clear hK
  have S := Same.refl w
  go_enter Oaag.func396, Oaag.ntmps396
  go_wp2_with (first | (refine from32_is _ _ _ ?_; intro w1 s1; replace S := Same.trans S s1; clear s1) | (refine hr _ _ ?_; intro r w1 hl s1; replace S := Same.trans S s1; clear s1) | (refine put32_is _ _ (by assumption) _ _ ?_; intro w1 s1; replace S := Same.trans S s1; clear s1))
  exact unhide HK _ S

end Go.Proofs.YgcoaaGreat.NatW
