/-
  Package na: fma, scaled, order.
-/
import Derived.Test.YgcoaaGreatNaA
set_option linter.unusedVariables false
set_option maxRecDepth 20000
namespace Go.Proofs.YgcoaaGreat.NatW
open Go.RowKit
attribute [local go_sem] Go.Instr.field Go.asAgg

theorem NRet.run {g : FuncId} {args : Array Value} {v : Value} (h : NRet g args v) {w : World} {K : Ending → World → Prop} (hK : ∀ w', Same w w' → K (.returned v) w') : Calls Oaag.prog g args w K := h w K hK

set_option maxHeartbeats 2000000 in
theorem fma_ex (f : Bool) (a b c : Int) (ha : U64 a) (hb : U64 b) (hc : U64 c) : ∃ r : Nat, U64 r ∧ NRet 293 #[.bool f, .int .u64 a, .int .u64 b, .int .u64 c] (.int .u64 r) := by
  cases f with
  | true =>
    obtain ⟨r, ur, kr⟩ := fma64_ex a b c
    have H1 := hide kr
    refine ⟨r, ur, ?_⟩
    clear ur kr
    intro w K hK
    have HK := hide hK; clear hK
    have S := Same.refl w
    go_enter Oaag.func293, Oaag.ntmps293
    go_wp2_with (first | (with_reducible refine NRet.run (unhide H1) ?_; intro w1 s1; replace S := Same.trans S s1; clear s1))
    exact unhide HK _ S
  | false =>
    obtain ⟨wa, uwa, kwa⟩ := widen_ex (a % 4294967296) (u32_mod a)
    obtain ⟨wb, uwb, kwb⟩ := widen_ex (b % 4294967296) (u32_mod b)
    obtain ⟨z, uz, kz⟩ := widen_ex (c % 4294967296) (u32_mod c)
    obtain ⟨p, up, kp⟩ := op64_ex 2 wa wb
    obtain ⟨s, us, ks⟩ := op64_ex 0 p z
    obtain ⟨v, uv, kv⟩ := op64_ex 1 s p
    obtain ⟨t1, ut1, kt1⟩ := op64_ex 1 s v
    obtain ⟨t2, ut2, kt2⟩ := op64_ex 1 p t1
    obtain ⟨t3, ut3, kt3⟩ := op64_ex 1 z v
    obtain ⟨l, ul, kl⟩ := op64_ex 0 t2 t3
    obtain ⟨b2, kb2⟩ := test64_ex 2 l 0
    obtain ⟨b4, kb4⟩ := test64_ex 4 l 0
    have Hwa := hide kwa
    have Hwb := hide kwb
    have Hz := hide kz
    have Hp := hide kp
    have Hs := hide ks
    have Hv := hide kv
    have Ht1 := hide kt1
    have Ht2 := hide kt2
    have Ht3 := hide kt3
    have Hl := hide kl
    have Hb2 := hide kb2
    have Hb4 := hide kb4
    clear kwa kwb kz kp ks kv kt1 kt2 kt3 kl kb2 kb4
    have us1 := us.1
    have us2 := us.2
    obtain ⟨e0, h0⟩ : ∃ e, (bits .and .u64 (s : Int) 1 == 0) = e := ⟨_, rfl⟩
    obtain ⟨e1, h1⟩ : ∃ e, ((s : Int) / 9223372036854775808 == 1) = e := ⟨_, rfl⟩
    cases e0 with
    | false =>
      obtain ⟨r, ur, kr⟩ := narrow_ex s us
      have vr := ur.2
      have HR := hide kr
      refine ⟨r, ur.u64, ?_⟩
      clear kr ur
      clear uwa uwb uz up us uv ut1 ut2 ut3 ul
      intro w K hK
      have HK := hide hK; clear hK
      have S := Same.refl w
      go_enter Oaag.func293, Oaag.ntmps293
      go_wp2_with (first | (with_reducible refine NRet.run (unhide Hwa) ?_; intro w1 s1; replace S := Same.trans S s1; clear s1) | (with_reducible refine NRet.run (unhide Hwb) ?_; intro w1 s1; replace S := Same.trans S s1; clear s1) | (with_reducible refine NRet.run (unhide Hz) ?_; intro w1 s1; replace S := Same.trans S s1; clear s1) | (with_reducible refine NRet.run (unhide Hp) ?_; intro w1 s1; replace S := Same.trans S s1; clear s1) | (with_reducible refine NRet.run (unhide Hs) ?_; intro w1 s1; replace S := Same.trans S s1; clear s1) | (with_reducible refine NRet.run (unhide Hv) ?_; intro w1 s1; replace S := Same.trans S s1; clear s1) | (with_reducible refine NRet.run (unhide Ht1) ?_; intro w1 s1; replace S := Same.trans S s1; clear s1) | (with_reducible refine NRet.run (unhide Ht2) ?_; intro w1 s1; replace S := Same.trans S s1; clear s1) | (with_reducible refine NRet.run (unhide Ht3) ?_; intro w1 s1; replace S := Same.trans S s1; clear s1) | (with_reducible refine NRet.run (unhide Hl) ?_; intro w1 s1; replace S := Same.trans S s1; clear s1) | (with_reducible refine NRet.run (unhide Hb2) ?_; intro w1 s1; replace S := Same.trans S s1; clear s1) | (with_reducible refine NRet.run (unhide Hb4) ?_; intro w1 s1; replace S := Same.trans S s1; clear s1) | (with_reducible refine NRet.run (unhide HR) ?_; intro w1 s1; replace S := Same.trans S s1; clear s1))
      exact unhide HK _ S
    | true =>
      cases b2 with
      | true =>
        cases e1 with
        | true =>
          obtain ⟨r, ur, kr⟩ := narrow_ex (IntKind.u64.wrap ((s : Int) + 1)) (wr64' _)
          have vr := ur.2
          have HR := hide kr
          refine ⟨r, ur.u64, ?_⟩
          clear kr ur
          clear uwa uwb uz up us uv ut1 ut2 ut3 ul
          intro w K hK
          have HK := hide hK; clear hK
          have S := Same.refl w
          go_enter Oaag.func293, Oaag.ntmps293
          go_wp2_with (first | (with_reducible refine NRet.run (unhide Hwa) ?_; intro w1 s1; replace S := Same.trans S s1; clear s1) | (with_reducible refine NRet.run (unhide Hwb) ?_; intro w1 s1; replace S := Same.trans S s1; clear s1) | (with_reducible refine NRet.run (unhide Hz) ?_; intro w1 s1; replace S := Same.trans S s1; clear s1) | (with_reducible refine NRet.run (unhide Hp) ?_; intro w1 s1; replace S := Same.trans S s1; clear s1) | (with_reducible refine NRet.run (unhide Hs) ?_; intro w1 s1; replace S := Same.trans S s1; clear s1) | (with_reducible refine NRet.run (unhide Hv) ?_; intro w1 s1; replace S := Same.trans S s1; clear s1) | (with_reducible refine NRet.run (unhide Ht1) ?_; intro w1 s1; replace S := Same.trans S s1; clear s1) | (with_reducible refine NRet.run (unhide Ht2) ?_; intro w1 s1; replace S := Same.trans S s1; clear s1) | (with_reducible refine NRet.run (unhide Ht3) ?_; intro w1 s1; replace S := Same.trans S s1; clear s1) | (with_reducible refine NRet.run (unhide Hl) ?_; intro w1 s1; replace S := Same.trans S s1; clear s1) | (with_reducible refine NRet.run (unhide Hb2) ?_; intro w1 s1; replace S := Same.trans S s1; clear s1) | (with_reducible refine NRet.run (unhide Hb4) ?_; intro w1 s1; replace S := Same.trans S s1; clear s1) | (with_reducible refine NRet.run (unhide HR) ?_; intro w1 s1; replace S := Same.trans S s1; clear s1))
          exact unhide HK _ S
        | false =>
          obtain ⟨r, ur, kr⟩ := narrow_ex (IntKind.u64.wrap ((s : Int) - 1)) (wr64' _)
          have vr := ur.2
          have HR := hide kr
          refine ⟨r, ur.u64, ?_⟩
          clear kr ur
          clear uwa uwb uz up us uv ut1 ut2 ut3 ul
          intro w K hK
          have HK := hide hK; clear hK
          have S := Same.refl w
          go_enter Oaag.func293, Oaag.ntmps293
          go_wp2_with (first | (with_reducible refine NRet.run (unhide Hwa) ?_; intro w1 s1; replace S := Same.trans S s1; clear s1) | (with_reducible refine NRet.run (unhide Hwb) ?_; intro w1 s1; replace S := Same.trans S s1; clear s1) | (with_reducible refine NRet.run (unhide Hz) ?_; intro w1 s1; replace S := Same.trans S s1; clear s1) | (with_reducible refine NRet.run (unhide Hp) ?_; intro w1 s1; replace S := Same.trans S s1; clear s1) | (with_reducible refine NRet.run (unhide Hs) ?_; intro w1 s1; replace S := Same.trans S s1; clear s1) | (with_reducible refine NRet.run (unhide Hv) ?_; intro w1 s1; replace S := Same.trans S s1; clear s1) | (with_reducible refine NRet.run (unhide Ht1) ?_; intro w1 s1; replace S := Same.trans S s1; clear s1) | (with_reducible refine NRet.run (unhide Ht2) ?_; intro w1 s1; replace S := Same.trans S s1; clear s1) | (with_reducible refine NRet.run (unhide Ht3) ?_; intro w1 s1; replace S := Same.trans S s1; clear s1) | (with_reducible refine NRet.run (unhide Hl) ?_; intro w1 s1; replace S := Same.trans S s1; clear s1) | (with_reducible refine NRet.run (unhide Hb2) ?_; intro w1 s1; replace S := Same.trans S s1; clear s1) | (with_reducible refine NRet.run (unhide Hb4) ?_; intro w1 s1; replace S := Same.trans S s1; clear s1) | (with_reducible refine NRet.run (unhide HR) ?_; intro w1 s1; replace S := Same.trans S s1; clear s1))
          exact unhide HK _ S
      | false =>
        cases b4 with
        | false =>
          obtain ⟨r, ur, kr⟩ := narrow_ex s us
          have vr := ur.2
          have HR := hide kr
          refine ⟨r, ur.u64, ?_⟩
          clear kr ur
          clear uwa uwb uz up us uv ut1 ut2 ut3 ul
          intro w K hK
          have HK := hide hK; clear hK
          have S := Same.refl w
          go_enter Oaag.func293, Oaag.ntmps293
          go_wp2_with (first | (with_reducible refine NRet.run (unhide Hwa) ?_; intro w1 s1; replace S := Same.trans S s1; clear s1) | (with_reducible refine NRet.run (unhide Hwb) ?_; intro w1 s1; replace S := Same.trans S s1; clear s1) | (with_reducible refine NRet.run (unhide Hz) ?_; intro w1 s1; replace S := Same.trans S s1; clear s1) | (with_reducible refine NRet.run (unhide Hp) ?_; intro w1 s1; replace S := Same.trans S s1; clear s1) | (with_reducible refine NRet.run (unhide Hs) ?_; intro w1 s1; replace S := Same.trans S s1; clear s1) | (with_reducible refine NRet.run (unhide Hv) ?_; intro w1 s1; replace S := Same.trans S s1; clear s1) | (with_reducible refine NRet.run (unhide Ht1) ?_; intro w1 s1; replace S := Same.trans S s1; clear s1) | (with_reducible refine NRet.run (unhide Ht2) ?_; intro w1 s1; replace S := Same.trans S s1; clear s1) | (with_reducible refine NRet.run (unhide Ht3) ?_; intro w1 s1; replace S := Same.trans S s1; clear s1) | (with_reducible refine NRet.run (unhide Hl) ?_; intro w1 s1; replace S := Same.trans S s1; clear s1) | (with_reducible refine NRet.run (unhide Hb2) ?_; intro w1 s1; replace S := Same.trans S s1; clear s1) | (with_reducible refine NRet.run (unhide Hb4) ?_; intro w1 s1; replace S := Same.trans S s1; clear s1) | (with_reducible refine NRet.run (unhide HR) ?_; intro w1 s1; replace S := Same.trans S s1; clear s1))
          exact unhide HK _ S
        | true =>
          cases e1 with
          | true =>
            obtain ⟨r, ur, kr⟩ := narrow_ex (IntKind.u64.wrap ((s : Int) - 1)) (wr64' _)
            have vr := ur.2
            have HR := hide kr
            refine ⟨r, ur.u64, ?_⟩
            clear kr ur
            clear uwa uwb uz up us uv ut1 ut2 ut3 ul
            intro w K hK
            have HK := hide hK; clear hK
            have S := Same.refl w
            go_enter Oaag.func293, Oaag.ntmps293
            go_wp2_with (first | (with_reducible refine NRet.run (unhide Hwa) ?_; intro w1 s1; replace S := Same.trans S s1; clear s1) | (with_reducible refine NRet.run (unhide Hwb) ?_; intro w1 s1; replace S := Same.trans S s1; clear s1) | (with_reducible refine NRet.run (unhide Hz) ?_; intro w1 s1; replace S := Same.trans S s1; clear s1) | (with_reducible refine NRet.run (unhide Hp) ?_; intro w1 s1; replace S := Same.trans S s1; clear s1) | (with_reducible refine NRet.run (unhide Hs) ?_; intro w1 s1; replace S := Same.trans S s1; clear s1) | (with_reducible refine NRet.run (unhide Hv) ?_; intro w1 s1; replace S := Same.trans S s1; clear s1) | (with_reducible refine NRet.run (unhide Ht1) ?_; intro w1 s1; replace S := Same.trans S s1; clear s1) | (with_reducible refine NRet.run (unhide Ht2) ?_; intro w1 s1; replace S := Same.trans S s1; clear s1) | (with_reducible refine NRet.run (unhide Ht3) ?_; intro w1 s1; replace S := Same.trans S s1; clear s1) | (with_reducible refine NRet.run (unhide Hl) ?_; intro w1 s1; replace S := Same.trans S s1; clear s1) | (with_reducible refine NRet.run (unhide Hb2) ?_; intro w1 s1; replace S := Same.trans S s1; clear s1) | (with_reducible refine NRet.run (unhide Hb4) ?_; intro w1 s1; replace S := Same.trans S s1; clear s1) | (with_reducible refine NRet.run (unhide HR) ?_; intro w1 s1; replace S := Same.trans S s1; clear s1))
            exact unhide HK _ S
          | false =>
            obtain ⟨r, ur, kr⟩ := narrow_ex (IntKind.u64.wrap ((s : Int) + 1)) (wr64' _)
            have vr := ur.2
            have HR := hide kr
            refine ⟨r, ur.u64, ?_⟩
            clear kr ur
            clear uwa uwb uz up us uv ut1 ut2 ut3 ul
            intro w K hK
            have HK := hide hK; clear hK
            have S := Same.refl w
            go_enter Oaag.func293, Oaag.ntmps293
            go_wp2_with (first | (with_reducible refine NRet.run (unhide Hwa) ?_; intro w1 s1; replace S := Same.trans S s1; clear s1) | (with_reducible refine NRet.run (unhide Hwb) ?_; intro w1 s1; replace S := Same.trans S s1; clear s1) | (with_reducible refine NRet.run (unhide Hz) ?_; intro w1 s1; replace S := Same.trans S s1; clear s1) | (with_reducible refine NRet.run (unhide Hp) ?_; intro w1 s1; replace S := Same.trans S s1; clear s1) | (with_reducible refine NRet.run (unhide Hs) ?_; intro w1 s1; replace S := Same.trans S s1; clear s1) | (with_reducible refine NRet.run (unhide Hv) ?_; intro w1 s1; replace S := Same.trans S s1; clear s1) | (with_reducible refine NRet.run (unhide Ht1) ?_; intro w1 s1; replace S := Same.trans S s1; clear s1) | (with_reducible refine NRet.run (unhide Ht2) ?_; intro w1 s1; replace S := Same.trans S s1; clear s1) | (with_reducible refine NRet.run (unhide Ht3) ?_; intro w1 s1; replace S := Same.trans S s1; clear s1) | (with_reducible refine NRet.run (unhide Hl) ?_; intro w1 s1; replace S := Same.trans S s1; clear s1) | (with_reducible refine NRet.run (unhide Hb2) ?_; intro w1 s1; replace S := Same.trans S s1; clear s1) | (with_reducible refine NRet.run (unhide Hb4) ?_; intro w1 s1; replace S := Same.trans S s1; clear s1) | (with_reducible refine NRet.run (unhide HR) ?_; intro w1 s1; replace S := Same.trans S s1; clear s1))
            exact unhide HK _ S


theorem scaled_ex (f : Bool) (a n : Int) (ha : U64 a) (h1 : -9223372036854775808 ≤ n) (h2 : n ≤ 9223372036854775807) : ∃ r : Nat, U64 r ∧ NRet 295 #[.bool f, .int .u64 a, .int .i64 n] (.int .u64 r) := by
  by_cases hl : n < -5000
  · have k1 := hl
    cases f with
    | true =>
      obtain ⟨r, ur, kr⟩ := scaleB64_ex a ha (-5000) (by omega) (by omega)
      have H1 := hide kr
      refine ⟨r, ur, ?_⟩
      clear ur kr
      intro w K hK
      have HK := hide hK; clear hK
      have S := Same.refl w
      go_enter Oaag.func295, Oaag.ntmps295
      go_wp2_with (first | (with_reducible refine NRet.run (unhide H1) ?_; intro w1 s1; replace S := Same.trans S s1; clear s1))
      exact unhide HK _ S
    | false =>
      obtain ⟨x, ux, kx⟩ := widen_ex (a % 4294967296) (u32_mod a)
      obtain ⟨y, uy, ky⟩ := scaleB64_ex x ux (-5000) (by omega) (by omega)
      obtain ⟨r, ur, kr⟩ := narrow_ex y uy
      have vr := ur.2
      have HX := hide kx
      have HY := hide ky
      have HR := hide kr
      refine ⟨r, ur.u64, ?_⟩
      clear kr ur ux kx uy ky
      intro w K hK
      have HK := hide hK; clear hK
      have S := Same.refl w
      go_enter Oaag.func295, Oaag.ntmps295
      go_wp2_with (first | (with_reducible refine NRet.run (unhide HX) ?_; intro w1 s1; replace S := Same.trans S s1; clear s1) | (with_reducible refine NRet.run (unhide HY) ?_; intro w1 s1; replace S := Same.trans S s1; clear s1) | (with_reducible refine NRet.run (unhide HR) ?_; intro w1 s1; replace S := Same.trans S s1; clear s1))
      exact unhide HK _ S
  by_cases hg : 5000 < n
  · have k1 := hg
    cases f with
    | true =>
      obtain ⟨r, ur, kr⟩ := scaleB64_ex a ha 5000 (by omega) (by omega)
      have H1 := hide kr
      refine ⟨r, ur, ?_⟩
      clear ur kr
      intro w K hK
      have HK := hide hK; clear hK
      have S := Same.refl w
      go_enter Oaag.func295, Oaag.ntmps295
      go_wp2_with (first | (with_reducible refine NRet.run (unhide H1) ?_; intro w1 s1; replace S := Same.trans S s1; clear s1))
      exact unhide HK _ S
    | false =>
      obtain ⟨x, ux, kx⟩ := widen_ex (a % 4294967296) (u32_mod a)
      obtain ⟨y, uy, ky⟩ := scaleB64_ex x ux 5000 (by omega) (by omega)
      obtain ⟨r, ur, kr⟩ := narrow_ex y uy
      have vr := ur.2
      have HX := hide kx
      have HY := hide ky
      have HR := hide kr
      refine ⟨r, ur.u64, ?_⟩
      clear kr ur ux kx uy ky
      intro w K hK
      have HK := hide hK; clear hK
      have S := Same.refl w
      go_enter Oaag.func295, Oaag.ntmps295
      go_wp2_with (first | (with_reducible refine NRet.run (unhide HX) ?_; intro w1 s1; replace S := Same.trans S s1; clear s1) | (with_reducible refine NRet.run (unhide HY) ?_; intro w1 s1; replace S := Same.trans S s1; clear s1) | (with_reducible refine NRet.run (unhide HR) ?_; intro w1 s1; replace S := Same.trans S s1; clear s1))
      exact unhide HK _ S
  have k1 : -5000 ≤ n := by omega
  have k2 : n ≤ 5000 := by omega
  cases f with
  | true =>
    obtain ⟨r, ur, kr⟩ := scaleB64_ex a ha n (by omega) (by omega)
    have H1 := hide kr
    refine ⟨r, ur, ?_⟩
    clear ur kr
    intro w K hK
    have HK := hide hK; clear hK
    have S := Same.refl w
    go_enter Oaag.func295, Oaag.ntmps295
    go_wp2_with (first | (with_reducible refine NRet.run (unhide H1) ?_; intro w1 s1; replace S := Same.trans S s1; clear s1))
    exact unhide HK _ S
  | false =>
    obtain ⟨x, ux, kx⟩ := widen_ex (a % 4294967296) (u32_mod a)
    obtain ⟨y, uy, ky⟩ := scaleB64_ex x ux n (by omega) (by omega)
    obtain ⟨r, ur, kr⟩ := narrow_ex y uy
    have vr := ur.2
    have HX := hide kx
    have HY := hide ky
    have HR := hide kr
    refine ⟨r, ur.u64, ?_⟩
    clear kr ur ux kx uy ky
    intro w K hK
    have HK := hide hK; clear hK
    have S := Same.refl w
    go_enter Oaag.func295, Oaag.ntmps295
    go_wp2_with (first | (with_reducible refine NRet.run (unhide HX) ?_; intro w1 s1; replace S := Same.trans S s1; clear s1) | (with_reducible refine NRet.run (unhide HY) ?_; intro w1 s1; replace S := Same.trans S s1; clear s1) | (with_reducible refine NRet.run (unhide HR) ?_; intro w1 s1; replace S := Same.trans S s1; clear s1))
    exact unhide HK _ S


def ordS (eq ne lt le gt ge : Bool) : ByteArray :=
  bif lt && le && ne && !eq && !gt && !ge then ⟨#[60]⟩ else bif eq && le && ge && !ne && !lt && !gt then ⟨#[61]⟩ else bif gt && ge && ne && !eq && !lt && !le then ⟨#[62]⟩ else ⟨#[63]⟩
set_option maxHeartbeats 8000000 in
theorem order_ex (f : Bool) (a b : Int) : ∃ r : ByteArray, r.size ≤ 1 ∧ NRet 151 #[.bool f, .int .u64 a, .int .u64 b] (.string r) := by
  obtain ⟨eq, k0⟩ := test_ex f 0 a b
  obtain ⟨ne, k1⟩ := test_ex f 1 a b
  obtain ⟨lt, k2⟩ := test_ex f 2 a b
  obtain ⟨le, k3⟩ := test_ex f 3 a b
  obtain ⟨gt, k4⟩ := test_ex f 4 a b
  obtain ⟨ge, k5⟩ := test_ex f 5 a b
  have H0 := hide k0
  have H1 := hide k1
  have H2 := hide k2
  have H3 := hide k3
  have H4 := hide k4
  have H5 := hide k5
  clear k0 k1 k2 k3 k4 k5
  refine ⟨ordS eq ne lt le gt ge, by unfold ordS; cases eq <;> cases ne <;> cases lt <;> cases le <;> cases gt <;> cases ge <;> decide, ?_⟩
  cases eq <;> cases ne <;> cases lt <;> cases le <;> cases gt <;> cases ge
  all_goals
    intro w K hK
    have HK := hide hK
    clear hK
    have S := Same.refl w
    go_enter Oaag.func151, Oaag.ntmps151
    go_wp2_with (first | (with_reducible refine NRet.run (unhide H0) ?_; intro w1 s1; replace S := Same.trans S s1; clear s1) | (with_reducible refine NRet.run (unhide H1) ?_; intro w1 s1; replace S := Same.trans S s1; clear s1) | (with_reducible refine NRet.run (unhide H2) ?_; intro w1 s1; replace S := Same.trans S s1; clear s1) | (with_reducible refine NRet.run (unhide H3) ?_; intro w1 s1; replace S := Same.trans S s1; clear s1) | (with_reducible refine NRet.run (unhide H4) ?_; intro w1 s1; replace S := Same.trans S s1; clear s1) | (with_reducible refine NRet.run (unhide H5) ?_; intro w1 s1; replace S := Same.trans S s1; clear s1))
    exact unhide HK _ S

end Go.Proofs.YgcoaaGreat.NatW
