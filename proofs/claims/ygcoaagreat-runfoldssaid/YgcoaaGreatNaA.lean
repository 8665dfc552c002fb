/-
  Package na: the functions on patterns.
-/
import Derived.Test.YgcoaaGreatFlV
set_option linter.unusedVariables false
set_option maxRecDepth 20000
namespace Go.Proofs.YgcoaaGreat.NatW
open Go.RowKit
attribute [local go_sem] Go.Instr.field Go.asAgg

theorem u32_mod (a : Int) : U32 (a % 4294967296) := ⟨by omega, by omega⟩
theorem U32.u64 {a : Int} (h : U32 a) : U64 a := ⟨h.1, by have := h.2; omega⟩

theorem bin_ex (f : Bool) (op a b : Int) (ha : U64 a) (hb : U64 b) : ∃ r : Nat, U64 r ∧ NRet 149 #[.bool f, .int .u8 op, .int .u64 a, .int .u64 b] (.int .u64 r) := by
  cases f with
  | true =>
    obtain ⟨r, ur, kr⟩ := op64_ex op a b
    have H1 := hide kr
    refine ⟨r, ur, ?_⟩
    clear ur kr
    intro w K hK
    have HK := hide hK; clear hK
    have S := Same.refl w
    go_enter Oaag.func149, Oaag.ntmps149
    go_wp2_with (first | (refine unhide H1 _ _ ?_; intro w1 s1; replace S := Same.trans S s1; clear s1))
    exact unhide HK _ S
  | false =>
    obtain ⟨r, ur, kr⟩ := op32_ex op (a % 4294967296) (b % 4294967296)
    have vr := ur.2
    have H1 := hide kr
    refine ⟨r, ur.u64, ?_⟩
    clear ur kr
    intro w K hK
    have HK := hide hK; clear hK
    have S := Same.refl w
    go_enter Oaag.func149, Oaag.ntmps149
    go_wp2_with (first | (refine unhide H1 _ _ ?_; intro w1 s1; replace S := Same.trans S s1; clear s1))
    exact unhide HK _ S

theorem test_ex (f : Bool) (op a b : Int) : ∃ r : Bool, NRet 281 #[.bool f, .int .u8 op, .int .u64 a, .int .u64 b] (.bool r) := by
  cases f with
  | true =>
    obtain ⟨r, kr⟩ := test64_ex op a b
    have H1 := hide kr
    refine ⟨r, ?_⟩
    clear kr
    intro w K hK
    have HK := hide hK; clear hK
    have S := Same.refl w
    go_enter Oaag.func281, Oaag.ntmps281
    go_wp2_with (first | (refine unhide H1 _ _ ?_; intro w1 s1; replace S := Same.trans S s1; clear s1))
    exact unhide HK _ S
  | false =>
    obtain ⟨r, kr⟩ := test32_ex op (a % 4294967296) (b % 4294967296)
    have H1 := hide kr
    refine ⟨r, ?_⟩
    clear kr
    intro w K hK
    have HK := hide hK; clear hK
    have S := Same.refl w
    go_enter Oaag.func281, Oaag.ntmps281
    go_wp2_with (first | (refine unhide H1 _ _ ?_; intro w1 s1; replace S := Same.trans S s1; clear s1))
    exact unhide HK _ S

theorem unary_ex (f : Bool) (op a : Int) (ha : U64 a) : ∃ r : Nat, U64 r ∧ NRet 150 #[.bool f, .int .u8 op, .int .u64 a] (.int .u64 r) := by
  by_cases h5 : op = 5
  · subst h5
    cases f with
    | true =>
      obtain ⟨r, ur, kr⟩ := sqrt64_ex a ha
      have H1 := hide kr
      refine ⟨r, ur, ?_⟩
      clear ur kr
      intro w K hK
      have HK := hide hK; clear hK
      have S := Same.refl w
      go_enter Oaag.func150, Oaag.ntmps150
      go_wp2_with (first | (refine unhide H1 _ _ ?_; intro w1 s1; replace S := Same.trans S s1; clear s1))
      exact unhide HK _ S
    | false =>
      obtain ⟨r, ur, kr⟩ := sqrt32_ex (a % 4294967296) (u32_mod a)
      have vr := ur.2
      have H1 := hide kr
      refine ⟨r, ur.u64, ?_⟩
      clear ur kr
      intro w K hK
      have HK := hide hK; clear hK
      have S := Same.refl w
      go_enter Oaag.func150, Oaag.ntmps150
      go_wp2_with (first | (refine unhide H1 _ _ ?_; intro w1 s1; replace S := Same.trans S s1; clear s1))
      exact unhide HK _ S
  have e5 : (op == 5) = false := by simpa using h5
  by_cases h6 : op = 6
  · subst h6
    cases f with
    | true =>
      obtain ⟨r, ur, kr⟩ := neg64_ex a ha
      have H1 := hide kr
      refine ⟨r, ur, ?_⟩
      clear ur kr
      intro w K hK
      have HK := hide hK; clear hK
      have S := Same.refl w
      go_enter Oaag.func150, Oaag.ntmps150
      go_wp2_with (first | (refine unhide H1 _ _ ?_; intro w1 s1; replace S := Same.trans S s1; clear s1))
      exact unhide HK _ S
    | false =>
      obtain ⟨r, ur, kr⟩ := neg32_ex (a % 4294967296) (u32_mod a)
      have vr := ur.2
      have H1 := hide kr
      refine ⟨r, ur.u64, ?_⟩
      clear ur kr
      intro w K hK
      have HK := hide hK; clear hK
      have S := Same.refl w
      go_enter Oaag.func150, Oaag.ntmps150
      go_wp2_with (first | (refine unhide H1 _ _ ?_; intro w1 s1; replace S := Same.trans S s1; clear s1))
      exact unhide HK _ S
  have e6 : (op == 6) = false := by simpa using h6
  clear h5 h6
  cases f with
  | true =>
    obtain ⟨r, ur, kr⟩ := abs64_ex a ha
    have H1 := hide kr
    refine ⟨r, ur, ?_⟩
    clear ur kr
    intro w K hK
    have HK := hide hK; clear hK
    have S := Same.refl w
    go_enter Oaag.func150, Oaag.ntmps150
    go_wp2_with (first | (refine unhide H1 _ _ ?_; intro w1 s1; replace S := Same.trans S s1; clear s1))
    exact unhide HK _ S
  | false =>
    obtain ⟨r, ur, kr⟩ := abs32_ex (a % 4294967296) (u32_mod a)
    have vr := ur.2
    have H1 := hide kr
    refine ⟨r, ur.u64, ?_⟩
    clear ur kr
    intro w K hK
    have HK := hide hK; clear hK
    have S := Same.refl w
    go_enter Oaag.func150, Oaag.ntmps150
    go_wp2_with (first | (refine unhide H1 _ _ ?_; intro w1 s1; replace S := Same.trans S s1; clear s1))
    exact unhide HK _ S


theorem from_ex (f s : Bool) (a : Int) (ha : U64 a) : ∃ r : Nat, U64 r ∧ NRet 152 #[.bool f, .bool s, .int .u64 a] (.int .u64 r) := by
  cases f with
  | true =>
    cases s with
    | true =>
      obtain ⟨r, ur, kr⟩ := fromI64_ex (wrap64 a)
      have H1 := hide kr
      refine ⟨r, ur, ?_⟩
      clear ur kr
      intro w K hK
      have HK := hide hK; clear hK
      have S := Same.refl w
      go_enter Oaag.func152, Oaag.ntmps152
      go_wp2_with (first | (refine unhide H1 _ _ ?_; intro w1 s1; replace S := Same.trans S s1; clear s1))
      exact unhide HK _ S
    | false =>
      obtain ⟨r, ur, kr⟩ := fromU64_ex a
      have H1 := hide kr
      refine ⟨r, ur, ?_⟩
      clear ur kr
      intro w K hK
      have HK := hide hK; clear hK
      have S := Same.refl w
      go_enter Oaag.func152, Oaag.ntmps152
      go_wp2_with (first | (refine unhide H1 _ _ ?_; intro w1 s1; replace S := Same.trans S s1; clear s1))
      exact unhide HK _ S
  | false =>
    cases s with
    | true =>
      obtain ⟨r, ur, kr⟩ := fromI32_ex (wrap64 a)
      have vr := ur.2
      have H1 := hide kr
      refine ⟨r, ur.u64, ?_⟩
      clear ur kr
      intro w K hK
      have HK := hide hK; clear hK
      have S := Same.refl w
      go_enter Oaag.func152, Oaag.ntmps152
      go_wp2_with (first | (refine unhide H1 _ _ ?_; intro w1 s1; replace S := Same.trans S s1; clear s1))
      exact unhide HK _ S
    | false =>
      obtain ⟨r, ur, kr⟩ := fromU32_ex a
      have vr := ur.2
      have H1 := hide kr
      refine ⟨r, ur.u64, ?_⟩
      clear ur kr
      intro w K hK
      have HK := hide hK; clear hK
      have S := Same.refl w
      go_enter Oaag.func152, Oaag.ntmps152
      go_wp2_with (first | (refine unhide H1 _ _ ?_; intro w1 s1; replace S := Same.trans S s1; clear s1))
      exact unhide HK _ S


theorem choose_ex (f g : Bool) (a b : Int) (ha : U64 a) (hb : U64 b) : ∃ r : Nat, U64 r ∧ NRet 297 #[.bool f, .bool g, .int .u64 a, .int .u64 b] (.int .u64 r) := by
  cases f with
  | true =>
    cases g with
    | true =>
      obtain ⟨r, ur, kr⟩ := max64_ex a b ha hb
      have H1 := hide kr
      refine ⟨r, ur, ?_⟩
      clear ur kr
      intro w K hK
      have HK := hide hK; clear hK
      have S := Same.refl w
      go_enter Oaag.func297, Oaag.ntmps297
      go_wp2_with (first | (refine unhide H1 _ _ ?_; intro w1 s1; replace S := Same.trans S s1; clear s1))
      exact unhide HK _ S
    | false =>
      obtain ⟨r, ur, kr⟩ := min64_ex a b ha hb
      have H1 := hide kr
      refine ⟨r, ur, ?_⟩
      clear ur kr
      intro w K hK
      have HK := hide hK; clear hK
      have S := Same.refl w
      go_enter Oaag.func297, Oaag.ntmps297
      go_wp2_with (first | (refine unhide H1 _ _ ?_; intro w1 s1; replace S := Same.trans S s1; clear s1))
      exact unhide HK _ S
  | false =>
    cases g with
    | true =>
      obtain ⟨r, ur, kr⟩ := max32_ex (a % 4294967296) (b % 4294967296) (u32_mod a) (u32_mod b)
      have vr := ur.2
      have H1 := hide kr
      refine ⟨r, ur.u64, ?_⟩
      clear ur kr
      intro w K hK
      have HK := hide hK; clear hK
      have S := Same.refl w
      go_enter Oaag.func297, Oaag.ntmps297
      go_wp2_with (first | (refine unhide H1 _ _ ?_; intro w1 s1; replace S := Same.trans S s1; clear s1))
      exact unhide HK _ S
    | false =>
      obtain ⟨r, ur, kr⟩ := min32_ex (a % 4294967296) (b % 4294967296) (u32_mod a) (u32_mod b)
      have vr := ur.2
      have H1 := hide kr
      refine ⟨r, ur.u64, ?_⟩
      clear ur kr
      intro w K hK
      have HK := hide hK; clear hK
      have S := Same.refl w
      go_enter Oaag.func297, Oaag.ntmps297
      go_wp2_with (first | (refine unhide H1 _ _ ?_; intro w1 s1; replace S := Same.trans S s1; clear s1))
      exact unhide HK _ S

theorem beside_ex (f : Bool) (a b : Int) (ha : U64 a) (hb : U64 b) : ∃ r : Nat, U64 r ∧ NRet 298 #[.bool f, .int .u64 a, .int .u64 b] (.int .u64 r) := by
  cases f with
  | true =>
    obtain ⟨r, ur, kr⟩ := nextTo64_ex a b ha hb
    have H1 := hide kr
    refine ⟨r, ur, ?_⟩
    clear ur kr
    intro w K hK
    have HK := hide hK; clear hK
    have S := Same.refl w
    go_enter Oaag.func298, Oaag.ntmps298
    go_wp2_with (first | (refine unhide H1 _ _ ?_; intro w1 s1; replace S := Same.trans S s1; clear s1))
    exact unhide HK _ S
  | false =>
    obtain ⟨r, ur, kr⟩ := nextTo32_ex (a % 4294967296) (b % 4294967296) (u32_mod a) (u32_mod b)
    have vr := ur.2
    have H1 := hide kr
    refine ⟨r, ur.u64, ?_⟩
    clear ur kr
    intro w K hK
    have HK := hide hK; clear hK
    have S := Same.refl w
    go_enter Oaag.func298, Oaag.ntmps298
    go_wp2_with (first | (refine unhide H1 _ _ ?_; intro w1 s1; replace S := Same.trans S s1; clear s1))
    exact unhide HK _ S


end Go.Proofs.YgcoaaGreat.NatW
