/-
  Floats: package math: Mod of two numbers, the walk.
-/
import Derived.Test.YgcoaaGreatFlS
set_option linter.unusedVariables false
set_option maxRecDepth 20000
namespace Go.Proofs.YgcoaaGreat.NatW
open Go.RowKit
attribute [local go_sem] Go.Instr.field Go.asAgg ext421 ext345 ext423 ext346

theorem k_bounds {er ez : Int} {Er Ez : Nat} (her : er = 0 ∨ er = -52) (hez : ez = 0 ∨ ez = -52) (k1 : 1 ≤ Er) (k2 : Er ≤ 2046) (k3 : 1 ≤ Ez) (k4 : Ez ≤ 2046) (k : Nat) (d : Int) (hd : d = 0 ∨ d = 1)
    (hk : (k : Int) = ((Er : Int) - ((-er).toNat : Nat)) - d - ((Ez : Int) - ((-ez).toNat : Nat))) :
    (k : Int) = (er + (Er : Int) - 1022) - d - (ez + (Ez : Int) - 1022) ∧ k ≤ 5000 ∧ -1074 ≤ (k : Int) + ez + ((Ez : Int) - 1023) ∧ (k : Int) + ez + ((Ez : Int) - 1023) ≤ 1023 := by
  omega

/-- One round of Mod's loop. -/
theorem mod_step {r z nz Ez fz : Nat} {ez : Int} (hr : Fin64 r) (hz : Fin64 z) (hz0 : 0 < z) (hNz : Nrm z nz Ez fz ez) (hrz : NRet 465 #[.float .f64 z] (.tuple #[.float .f64 nz, .int .i64 ez])) (hge : val z ≤ val r) :
    ∃ (rf : Nat) (rx : Int) (b : Bool) (t : Int) (l : Nat), NRet 473 #[.float .f64 r] (.tuple #[.float .f64 rf, .int .i64 rx]) ∧ (FloatKind.f64.format.order rf (4602678819172646912 + fz) == some .lt) = b ∧ (-3000 ≤ rx ∧ rx ≤ 3000) ∧
      (if b then rx - 1 else rx) - (ez + (Ez : Int) - 1022) = t ∧ NRet 448 #[.float .f64 z, .int .i64 t] (.float .f64 l) ∧ Fin64 l ∧ Fin64 (fa .sub .f64 r l) ∧ val (fa .sub .f64 r l) % val z = val r % val z ∧ val (fa .sub .f64 r l) < val r := by
  have hvz := zero_fin hz hz0
  have hr0 : 0 < r := by
    rcases Nat.eq_zero_or_pos r with h | h
    · exfalso; subst h; rw [val_zero] at hge; omega
    · exact h
  obtain ⟨nr, Er, fr, er, hNr, hrr⟩ := norm_fin hr hr0
  have hFr := Frexp_fin hr hr0 hNr hrr
  have hfl := frac_lt hNr.hf hNz.hf
  obtain ⟨sA, sB⟩ := step_k hNr.hval hNz.hval (by omega) (by have := hNr.hf; omega) (by omega) (by have := hNz.hf; omega) hNr.E1 hNz.E1 hge
  have hrx : -3000 ≤ er + (Er : Int) - 1022 ∧ er + (Er : Int) - 1022 ≤ 3000 := by
    clear sA sB
    have := hNr.he; have := hNr.E2; have := hNr.E1
    omega
  have fin : ∀ k : Nat, k ≤ 5000 → -1074 ≤ (k : Int) + ez + ((Ez : Int) - 1023) → (k : Int) + ez + ((Ez : Int) - 1023) ≤ 1023 → val z * 2 ^ k ≤ val r → val r ≤ 2 * (val z * 2 ^ k) →
      ∃ l, NRet 448 #[.float .f64 z, .int .i64 k] (.float .f64 l) ∧ Fin64 l ∧ Fin64 (fa .sub .f64 r l) ∧ val (fa .sub .f64 r l) % val z = val r % val z ∧ val (fa .sub .f64 r l) < val r := by
    intro k hk t1 t2 l1 l2
    clear sA sB
    obtain ⟨l, hl1, hl2, hl3⟩ := ldexp_fin hz hz0 hNz hrz k hk _ rfl t1 t2 (Nat.lt_of_le_of_lt l1 (val_lt hr))
    obtain ⟨d1, d2⟩ := sub_val hr hl1 (by rw [hl2]; exact l1) (by rw [hl2]; exact l2)
    refine ⟨l, Ldexp_fin hl1 hl3, hl1, d1, ?_, ?_⟩
    · rw [d2, hl2]
      exact Nat.sub_mul_mod l1
    · rw [d2, hl2]
      have : 0 < val z * 2 ^ k := Nat.mul_pos hvz (Nat.two_pow_pos _)
      exact Nat.sub_lt (by omega) this
  by_cases hlt : fr < fz
  · obtain ⟨k, hk, l1, l2⟩ := sB (by omega)
    obtain ⟨e1, e2, e3, e4⟩ := k_bounds hNr.he hNz.he hNr.E1 hNr.E2 hNz.E1 hNz.E2 k 1 (Or.inr rfl) hk
    obtain ⟨l, g1, g2, g3, g4, g5⟩ := fin k e2 e3 e4 l1 l2
    refine ⟨_, _, true, k, l, hFr, by rw [hfl]; simp [hlt], hrx, ?_, g1, g2, g3, g4, g5⟩
    rw [if_pos rfl]
    exact e1.symm
  · obtain ⟨k, hk, l1, l2⟩ := sA (by omega)
    obtain ⟨e1, e2, e3, e4⟩ := k_bounds hNr.he hNz.he hNr.E1 hNr.E2 hNz.E1 hNz.E2 k 0 (Or.inl rfl) (by rw [hk]; simp)
    obtain ⟨l, g1, g2, g3, g4, g5⟩ := fin k e2 e3 e4 l1 l2
    refine ⟨_, _, false, k, l, hFr, by rw [hfl]; simp [hlt], hrx, ?_, g1, g2, g3, g4, g5⟩
    rw [if_neg (by decide), e1]
    simp
theorem mod_ex {z nz Ez fz : Nat} {ez : Int} (hz : Fin64 z) (hz0 : 0 < z) (hNz : Nrm z nz Ez fz ez) (hrz : NRet 465 #[.float .f64 z] (.tuple #[.float .f64 nz, .int .i64 ez])) : ∀ N r, val r ≤ N → Fin64 r → ∃ c, Fin64 c ∧ val c = val r % val z
  | 0, r, h, hr => by
    have hvz := zero_fin hz hz0
    exact ⟨r, hr, by rw [Nat.mod_eq_of_lt (by omega)]⟩
  | N + 1, r, h, hr => by
    by_cases hge : val z ≤ val r
    · obtain ⟨_, _, _, _, l, _, _, _, _, _, _, g3, g4, g5⟩ := mod_step hr hz hz0 hNz hrz hge
      obtain ⟨c, h1, h2⟩ := mod_ex hz hz0 hNz hrz N _ (by omega) g3
      exact ⟨c, h1, by rw [h2, g4]⟩
    · exact ⟨r, hr, by rw [Nat.mod_eq_of_lt (by omega)]⟩

def fltOf : Value → Nat
  | .float _ b => b
  | _ => 0
def ModR (x z : Nat) (w : World) (t7 : Value) (wr : World) : Prop := ∃ r, t7 = .float .f64 r ∧ Fin64 r ∧ val r % val z = val x % val z ∧ Same w wr

set_option maxHeartbeats 4000000 in
theorem mod_fin {x z : Nat} (hx : Fin64 x) (hz : Fin64 z) (hz0 : 0 < z) : ∃ c, Fin64 c ∧ NRet 472 #[.float .f64 x, .float .f64 z] (.float .f64 c) := by
  obtain ⟨nz, Ez, fz, ez, hNz, hrz⟩ := norm_fin hz hz0
  obtain ⟨c, hc, hcv⟩ := mod_ex hz hz0 hNz hrz _ x (Nat.le_refl _) hx
  refine ⟨c, hc, ?_⟩
  have hFz := Frexp_fin hz hz0 hNz hrz
  have h1 := eq0_fin hz hz0
  have h2 := hx.nan
  have h3 := isInf_fin hx
  have h4 := hz.nan
  have h5 := abs_fin (x := z) (by unfold Fin64 at hz; omega)
  have hxl := hx.lt
  have hzl := hz.lt
  have h6 : (FloatKind.f64.format.order x 0 == some .lt) = false := by
    cases hq : (FloatKind.f64.format.order x 0 == some .lt) with
    | false => rfl
    | true =>
      have := (order_val hx (y := 0) (by unfold Fin64; omega)).1.1 hq
      rw [val_zero] at this; omega
  have hyb : -3000 ≤ ez + (Ez : Int) - 1022 ∧ ez + (Ez : Int) - 1022 ≤ 3000 := by
    have := hNz.he; have := hNz.E2; have := hNz.E1
    omega
  obtain ⟨yf, hyf⟩ : ∃ yf, 4602678819172646912 + fz = yf := ⟨_, rfl⟩
  obtain ⟨yx, hyx⟩ : ∃ yx, ez + (Ez : Int) - 1022 = yx := ⟨_, rfl⟩
  have hstep := fun (r : Nat) (hr : Fin64 r) (hge : val z ≤ val r) => mod_step hr hz hz0 hNz hrz hge
  rw [hyf, hyx] at hFz
  rw [hyx] at hyb
  rw [hyf, hyx] at hstep
  obtain ⟨y1, y2⟩ := hyb
  have HFz := hide hFz
  have HX := hide hx
  have HZ := hide hz
  have HC := hide (show val c = val x % val z from hcv)
  have HS := hide hstep
  clear hFz hNz hrz hx hz hc hcv hyf hyx hz0 hstep
  intro w K hK
  have HK := hide hK; clear hK
  have S := Same.refl w
  go_enter Oaag.func472, Oaag.ntmps472
  go_wp2_with (first
    | (refine mIsInf _ hxl _ _ ?_; rewrite [h3]; intro w1 s1; replace S := Same.trans S s1; clear s1)
    | (refine mIsNaN x _ _ ?_; rewrite [h2]; intro w1 s1; replace S := Same.trans S s1; clear s1)
    | (refine mIsNaN z _ _ ?_; rewrite [h4]; intro w1 s1; replace S := Same.trans S s1; clear s1)
    | (refine mAbs _ hzl _ _ ?_; rewrite [h5]; intro w1 s1; replace S := Same.trans S s1; clear s1)
    | (refine unhide HFz _ _ ?_; intro w1 s1; replace S := Same.trans S s1; clear s1))
  go_loopw [7] (ModR x z w) (fun t7 _ => val (fltOf t7))
  case atStart => exact ⟨x, rfl, unhide HX, rfl, S⟩
  case round =>
    obtain ⟨r, rfl, hr, hm, hs⟩ := hrel
    clear S
    have S := hs
    clear hs
    have ho := order_val hr (unhide HZ)
    by_cases hge : val z ≤ val r
    · have hg : (FloatKind.f64.format.order r z == some .gt || FloatKind.f64.format.order r z == some .eq) = true := by
        rcases Nat.eq_or_lt_of_le hge with h | h
        · rw [ho.2.1.2 h.symm]; simp
        · rw [ho.2.2.2 h]; simp
      obtain ⟨rf, rx, b, t, l, f1, hfl, ⟨r1, r2⟩, ht, f2, g1, g3, g4, g5⟩ := unhide HS r hr hge
      have G := hide (show Fin64 (fa .sub .f64 r l) ∧ val (fa .sub .f64 r l) % val z = val x % val z ∧ val (fa .sub .f64 r l) < val r from ⟨g3, g4.trans hm, g5⟩)
      have F1 := hide f1
      have F2 := hide f2
      have NL := hide g1.num
      have NR := hide hr.num
      clear f1 f2 g1 g3 g4 g5 ho hge hr hm
      cases b with
      | true =>
        have ht' : rx - 1 - yx = t := ht
        clear ht
        go_wp2_with (first
          | (refine unhide F1 _ _ ?_; intro w1 s1; replace S := Same.trans S s1; clear s1)
          | (refine unhide F2 _ _ ?_; intro w1 s1; replace S := Same.trans S s1; clear s1)
          | (refine upon_num (by simp) (unhide NR) (unhide NL) ?_; intro w1 s1; replace S := Same.trans S s1; clear s1; rewrite [Oper.upon_value]))
        exact ⟨⟨_, rfl, (unhide G).1, (unhide G).2.1, S⟩, (unhide G).2.2⟩
      | false =>
        have ht' : rx - yx = t := ht
        clear ht
        go_wp2_with (first
          | (refine unhide F1 _ _ ?_; intro w1 s1; replace S := Same.trans S s1; clear s1)
          | (refine unhide F2 _ _ ?_; intro w1 s1; replace S := Same.trans S s1; clear s1)
          | (refine upon_num (by simp) (unhide NR) (unhide NL) ?_; intro w1 s1; replace S := Same.trans S s1; clear s1; rewrite [Oper.upon_value]))
        exact ⟨⟨_, rfl, (unhide G).1, (unhide G).2.1, S⟩, (unhide G).2.2⟩
    · have hg : (FloatKind.f64.format.order r z == some .gt || FloatKind.f64.format.order r z == some .eq) = false := by
        cases hq1 : (FloatKind.f64.format.order r z == some .gt) with
        | true => have := ho.2.2.1 hq1; omega
        | false =>
          cases hq2 : (FloatKind.f64.format.order r z == some .eq) with
          | true => have := ho.2.1.1 hq2; omega
          | false => rfl
      have hrc : r = c := val_inj (by rw [unhide HC, ← hm, Nat.mod_eq_of_lt (by omega)])
      subst hrc
      clear ho hge hr hm
      go_wp2_with fail
      exact unhide HK _ S
end Go.Proofs.YgcoaaGreat.NatW
