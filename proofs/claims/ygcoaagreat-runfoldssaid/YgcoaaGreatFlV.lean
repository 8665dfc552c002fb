/-
  Floats: package math: Remainder; the package of the machine's own floats: Rem64.
-/
import Derived.Test.YgcoaaGreatFlU
set_option linter.unusedVariables false
set_option maxRecDepth 20000
namespace Go.Proofs.YgcoaaGreat.NatW
open Go.RowKit
attribute [local go_sem] Go.Instr.field Go.asAgg ext421 ext345 ext423 ext346

theorem num_half : numK .f64 4602678819172646912 := ⟨false, 4503599627370496, -53, by decide⟩
theorem half_le {y : Nat} (hy : Fin64 y) (h : (FloatKind.f64.format.order y 9214364837600034815 == some .lt || FloatKind.f64.format.order y 9214364837600034815 == some .eq) = true) : y ≤ 9214364837600034815 := by
  have hf : Fin64 9214364837600034815 := by unfold Fin64; omega
  have ho := order_val hy hf
  rcases Nat.lt_or_ge 9214364837600034815 y with hlt | hge
  · exfalso
    have hv := val_mono hlt
    rcases Bool.or_eq_true_iff.1 h with h | h
    · have := ho.1.1 h; omega
    · have := ho.2.1.1 h; omega
  · exact hge

set_option maxHeartbeats 4000000 in
theorem remPP (x y : Nat) (hx : x < 2 ^ FloatKind.f64.format.width) (hy : y < 2 ^ FloatKind.f64.format.width) (h1 : (FloatKind.f64.format.read x).isNaN = false) (h2 : (FloatKind.f64.format.read y).isNaN = false) (h3 : isInf x = false) (h4 : (FloatKind.f64.format.order y 0 == some .eq) = false) (h5 : isInf y = false)
    (hsx : (FloatKind.f64.format.order x 0 == some .lt) = false) (hsy : (FloatKind.f64.format.order y 0 == some .lt) = false) (lX : x < 2 ^ FloatKind.f64.format.width) (nX : numK .f64 x) (pX : (FloatKind.f64.format.order x 0 == some .lt) = false) (fY : Fin64 y) (yp : 0 < y) (nY : numK .f64 y) :
    ∃ c, c < 2 ^ FloatKind.f64.format.width ∧ NRet 455 #[.float .f64 x, .float .f64 y] (.float .f64 c) := by
  obtain ⟨c6b, c6⟩ : ∃ b, (FloatKind.f64.format.order x y == some .eq) = b := ⟨_, rfl⟩
  cases c6b with
  | true =>
    refine ⟨?c1, ?hlt1, ?walk1⟩
    case walk1 =>
      intro w K hK
      have HK := hide hK; clear hK
      have S := Same.refl w
      go_enter Oaag.func455, Oaag.ntmps455
      go_wp2_with (first | (refine mIsNaN _ _ _ ?_; (first | rewrite [h1] | rewrite [h2]); intro w1 s1; replace S := Same.trans S s1; clear s1) | (refine mIsInf _ (by assumption) _ _ ?_; (first | rewrite [h3] | rewrite [h5]); intro w1 s1; replace S := Same.trans S s1; clear s1) | (refine mNaN' _ _ ?_; intro w1 s1; replace S := Same.trans S s1; clear s1) | (refine upon_neg ?_; rewrite [Oper.upon_value]))
      exact unhide HK _ S
    case hlt1 => exact by decide
  | false =>
    obtain ⟨c7b, c7⟩ : ∃ b, (FloatKind.f64.format.order y 9214364837600034815 == some .lt || FloatKind.f64.format.order y 9214364837600034815 == some .eq) = b := ⟨_, rfl⟩
    cases c7b with
    | true =>
      obtain ⟨zf, z0⟩ := add_self fY (by assumption) (half_max fY (half_le fY c7))
      obtain ⟨X1, lX1, nX1, hM⟩ := mMod lX nX pX zf z0
      have HM := hide hM
      have H0 := hide (fa_num (op := .add) (by simp) nY nY)
      clear hM zf z0 nX pX lX fY
      obtain ⟨c8b, c8⟩ : ∃ b, (FloatKind.f64.format.order y 9007199254740992 == some .lt) = b := ⟨_, rfl⟩
      cases c8b with
      | true =>
        have H1 := hide (add_nn nX1.notNan)
        have H2 := hide (sub_nn nX1.notNan nY)
        have H3 := hide (add_nn (sub_nn nX1.notNan nY))
        have H4 := hide (sub_nn (sub_nn nX1.notNan nY) nY)
        clear nX1 nY
        obtain ⟨c9b, c9⟩ : ∃ b, (FloatKind.f64.format.order (fa .add .f64 X1 X1) y == some .gt) = b := ⟨_, rfl⟩
        cases c9b with
        | true =>
          obtain ⟨c10b, c10⟩ : ∃ b, (FloatKind.f64.format.order (fa .add .f64 (fa .sub .f64 X1 y) (fa .sub .f64 X1 y)) y == some .gt || FloatKind.f64.format.order (fa .add .f64 (fa .sub .f64 X1 y) (fa .sub .f64 X1 y)) y == some .eq) = b := ⟨_, rfl⟩
          cases c10b with
          | true =>
            refine ⟨?c2, ?hlt2, ?walk2⟩
            case walk2 =>
              intro w K hK
              have HK := hide hK; clear hK
              have S := Same.refl w
              go_enter Oaag.func455, Oaag.ntmps455
              go_wp2_with (first | (refine mIsNaN _ _ _ ?_; (first | rewrite [h1] | rewrite [h2]); intro w1 s1; replace S := Same.trans S s1; clear s1) | (refine mIsInf _ (by assumption) _ _ ?_; (first | rewrite [h3] | rewrite [h5]); intro w1 s1; replace S := Same.trans S s1; clear s1) | (refine mNaN' _ _ ?_; intro w1 s1; replace S := Same.trans S s1; clear s1) | (refine upon_neg ?_; rewrite [Oper.upon_value]) | (refine unhide HM _ _ ?_; intro w1 s1; replace S := Same.trans S s1; clear s1) | (with_reducible refine upon_ex (Or.inl rfl) (unhide H0) ?_; intro w1 s1; replace S := Same.trans S s1; clear s1; rewrite [Oper.upon_value]) | (with_reducible refine upon_ex (Or.inl rfl) (unhide H1) ?_; intro w1 s1; replace S := Same.trans S s1; clear s1; rewrite [Oper.upon_value]) | (with_reducible refine upon_ex (Or.inr (Or.inl rfl)) (unhide H2) ?_; intro w1 s1; replace S := Same.trans S s1; clear s1; rewrite [Oper.upon_value]) | (with_reducible refine upon_ex (Or.inl rfl) (unhide H3) ?_; intro w1 s1; replace S := Same.trans S s1; clear s1; rewrite [Oper.upon_value]) | (with_reducible refine upon_ex (Or.inr (Or.inl rfl)) (unhide H4) ?_; intro w1 s1; replace S := Same.trans S s1; clear s1; rewrite [Oper.upon_value]))
              exact unhide HK _ S
            case hlt2 => exact fa_lt _ _ _ _
          | false =>
            refine ⟨?c3, ?hlt3, ?walk3⟩
            case walk3 =>
              intro w K hK
              have HK := hide hK; clear hK
              have S := Same.refl w
              go_enter Oaag.func455, Oaag.ntmps455
              go_wp2_with (first | (refine mIsNaN _ _ _ ?_; (first | rewrite [h1] | rewrite [h2]); intro w1 s1; replace S := Same.trans S s1; clear s1) | (refine mIsInf _ (by assumption) _ _ ?_; (first | rewrite [h3] | rewrite [h5]); intro w1 s1; replace S := Same.trans S s1; clear s1) | (refine mNaN' _ _ ?_; intro w1 s1; replace S := Same.trans S s1; clear s1) | (refine upon_neg ?_; rewrite [Oper.upon_value]) | (refine unhide HM _ _ ?_; intro w1 s1; replace S := Same.trans S s1; clear s1) | (with_reducible refine upon_ex (Or.inl rfl) (unhide H0) ?_; intro w1 s1; replace S := Same.trans S s1; clear s1; rewrite [Oper.upon_value]) | (with_reducible refine upon_ex (Or.inl rfl) (unhide H1) ?_; intro w1 s1; replace S := Same.trans S s1; clear s1; rewrite [Oper.upon_value]) | (with_reducible refine upon_ex (Or.inr (Or.inl rfl)) (unhide H2) ?_; intro w1 s1; replace S := Same.trans S s1; clear s1; rewrite [Oper.upon_value]) | (with_reducible refine upon_ex (Or.inl rfl) (unhide H3) ?_; intro w1 s1; replace S := Same.trans S s1; clear s1; rewrite [Oper.upon_value]) | (with_reducible refine upon_ex (Or.inr (Or.inl rfl)) (unhide H4) ?_; intro w1 s1; replace S := Same.trans S s1; clear s1; rewrite [Oper.upon_value]))
              exact unhide HK _ S
            case hlt3 => exact fa_lt _ _ _ _
        | false =>
          refine ⟨?c4, ?hlt4, ?walk4⟩
          case walk4 =>
            intro w K hK
            have HK := hide hK; clear hK
            have S := Same.refl w
            go_enter Oaag.func455, Oaag.ntmps455
            go_wp2_with (first | (refine mIsNaN _ _ _ ?_; (first | rewrite [h1] | rewrite [h2]); intro w1 s1; replace S := Same.trans S s1; clear s1) | (refine mIsInf _ (by assumption) _ _ ?_; (first | rewrite [h3] | rewrite [h5]); intro w1 s1; replace S := Same.trans S s1; clear s1) | (refine mNaN' _ _ ?_; intro w1 s1; replace S := Same.trans S s1; clear s1) | (refine upon_neg ?_; rewrite [Oper.upon_value]) | (refine unhide HM _ _ ?_; intro w1 s1; replace S := Same.trans S s1; clear s1) | (with_reducible refine upon_ex (Or.inl rfl) (unhide H0) ?_; intro w1 s1; replace S := Same.trans S s1; clear s1; rewrite [Oper.upon_value]) | (with_reducible refine upon_ex (Or.inl rfl) (unhide H1) ?_; intro w1 s1; replace S := Same.trans S s1; clear s1; rewrite [Oper.upon_value]) | (with_reducible refine upon_ex (Or.inr (Or.inl rfl)) (unhide H2) ?_; intro w1 s1; replace S := Same.trans S s1; clear s1; rewrite [Oper.upon_value]) | (with_reducible refine upon_ex (Or.inl rfl) (unhide H3) ?_; intro w1 s1; replace S := Same.trans S s1; clear s1; rewrite [Oper.upon_value]) | (with_reducible refine upon_ex (Or.inr (Or.inl rfl)) (unhide H4) ?_; intro w1 s1; replace S := Same.trans S s1; clear s1; rewrite [Oper.upon_value]))
            exact unhide HK _ S
          case hlt4 => exact lX1
      | false =>
        have H1 := hide (fa_num (op := .mul) (by simp) num_half nY)
        have H2 := hide (sub_nn nX1.notNan nY)
        have H4 := hide (sub_nn (sub_nn nX1.notNan nY) nY)
        clear nX1 nY
        obtain ⟨c9b, c9⟩ : ∃ b, (FloatKind.f64.format.order X1 (fa .mul .f64 4602678819172646912 y) == some .gt) = b := ⟨_, rfl⟩
        cases c9b with
        | true =>
          obtain ⟨c10b, c10⟩ : ∃ b, (FloatKind.f64.format.order (fa .sub .f64 X1 y) (fa .mul .f64 4602678819172646912 y) == some .gt || FloatKind.f64.format.order (fa .sub .f64 X1 y) (fa .mul .f64 4602678819172646912 y) == some .eq) = b := ⟨_, rfl⟩
          cases c10b with
          | true =>
            refine ⟨?c5, ?hlt5, ?walk5⟩
            case walk5 =>
              intro w K hK
              have HK := hide hK; clear hK
              have S := Same.refl w
              go_enter Oaag.func455, Oaag.ntmps455
              go_wp2_with (first | (refine mIsNaN _ _ _ ?_; (first | rewrite [h1] | rewrite [h2]); intro w1 s1; replace S := Same.trans S s1; clear s1) | (refine mIsInf _ (by assumption) _ _ ?_; (first | rewrite [h3] | rewrite [h5]); intro w1 s1; replace S := Same.trans S s1; clear s1) | (refine mNaN' _ _ ?_; intro w1 s1; replace S := Same.trans S s1; clear s1) | (refine upon_neg ?_; rewrite [Oper.upon_value]) | (refine unhide HM _ _ ?_; intro w1 s1; replace S := Same.trans S s1; clear s1) | (with_reducible refine upon_ex (Or.inl rfl) (unhide H0) ?_; intro w1 s1; replace S := Same.trans S s1; clear s1; rewrite [Oper.upon_value]) | (with_reducible refine upon_ex (Or.inr (Or.inr (Or.inl rfl))) (unhide H1) ?_; intro w1 s1; replace S := Same.trans S s1; clear s1; rewrite [Oper.upon_value]) | (with_reducible refine upon_ex (Or.inr (Or.inl rfl)) (unhide H2) ?_; intro w1 s1; replace S := Same.trans S s1; clear s1; rewrite [Oper.upon_value]) | (with_reducible refine upon_ex (Or.inr (Or.inl rfl)) (unhide H4) ?_; intro w1 s1; replace S := Same.trans S s1; clear s1; rewrite [Oper.upon_value]))
              exact unhide HK _ S
            case hlt5 => exact fa_lt _ _ _ _
          | false =>
            refine ⟨?c6, ?hlt6, ?walk6⟩
            case walk6 =>
              intro w K hK
              have HK := hide hK; clear hK
              have S := Same.refl w
              go_enter Oaag.func455, Oaag.ntmps455
              go_wp2_with (first | (refine mIsNaN _ _ _ ?_; (first | rewrite [h1] | rewrite [h2]); intro w1 s1; replace S := Same.trans S s1; clear s1) | (refine mIsInf _ (by assumption) _ _ ?_; (first | rewrite [h3] | rewrite [h5]); intro w1 s1; replace S := Same.trans S s1; clear s1) | (refine mNaN' _ _ ?_; intro w1 s1; replace S := Same.trans S s1; clear s1) | (refine upon_neg ?_; rewrite [Oper.upon_value]) | (refine unhide HM _ _ ?_; intro w1 s1; replace S := Same.trans S s1; clear s1) | (with_reducible refine upon_ex (Or.inl rfl) (unhide H0) ?_; intro w1 s1; replace S := Same.trans S s1; clear s1; rewrite [Oper.upon_value]) | (with_reducible refine upon_ex (Or.inr (Or.inr (Or.inl rfl))) (unhide H1) ?_; intro w1 s1; replace S := Same.trans S s1; clear s1; rewrite [Oper.upon_value]) | (with_reducible refine upon_ex (Or.inr (Or.inl rfl)) (unhide H2) ?_; intro w1 s1; replace S := Same.trans S s1; clear s1; rewrite [Oper.upon_value]) | (with_reducible refine upon_ex (Or.inr (Or.inl rfl)) (unhide H4) ?_; intro w1 s1; replace S := Same.trans S s1; clear s1; rewrite [Oper.upon_value]))
              exact unhide HK _ S
            case hlt6 => exact fa_lt _ _ _ _
        | false =>
          refine ⟨?c7, ?hlt7, ?walk7⟩
          case walk7 =>
            intro w K hK
            have HK := hide hK; clear hK
            have S := Same.refl w
            go_enter Oaag.func455, Oaag.ntmps455
            go_wp2_with (first | (refine mIsNaN _ _ _ ?_; (first | rewrite [h1] | rewrite [h2]); intro w1 s1; replace S := Same.trans S s1; clear s1) | (refine mIsInf _ (by assumption) _ _ ?_; (first | rewrite [h3] | rewrite [h5]); intro w1 s1; replace S := Same.trans S s1; clear s1) | (refine mNaN' _ _ ?_; intro w1 s1; replace S := Same.trans S s1; clear s1) | (refine upon_neg ?_; rewrite [Oper.upon_value]) | (refine unhide HM _ _ ?_; intro w1 s1; replace S := Same.trans S s1; clear s1) | (with_reducible refine upon_ex (Or.inl rfl) (unhide H0) ?_; intro w1 s1; replace S := Same.trans S s1; clear s1; rewrite [Oper.upon_value]) | (with_reducible refine upon_ex (Or.inr (Or.inr (Or.inl rfl))) (unhide H1) ?_; intro w1 s1; replace S := Same.trans S s1; clear s1; rewrite [Oper.upon_value]) | (with_reducible refine upon_ex (Or.inr (Or.inl rfl)) (unhide H2) ?_; intro w1 s1; replace S := Same.trans S s1; clear s1; rewrite [Oper.upon_value]) | (with_reducible refine upon_ex (Or.inr (Or.inl rfl)) (unhide H4) ?_; intro w1 s1; replace S := Same.trans S s1; clear s1; rewrite [Oper.upon_value]))
            exact unhide HK _ S
          case hlt7 => exact lX1
    | false =>
      have nX1 := nX
      have lX1 := lX
      clear nX pX fY
      obtain ⟨c8b, c8⟩ : ∃ b, (FloatKind.f64.format.order y 9007199254740992 == some .lt) = b := ⟨_, rfl⟩
      cases c8b with
      | true =>
        have H1 := hide (add_nn nX1.notNan)
        have H2 := hide (sub_nn nX1.notNan nY)
        have H3 := hide (add_nn (sub_nn nX1.notNan nY))
        have H4 := hide (sub_nn (sub_nn nX1.notNan nY) nY)
        clear nX1 nY
        obtain ⟨c9b, c9⟩ : ∃ b, (FloatKind.f64.format.order (fa .add .f64 x x) y == some .gt) = b := ⟨_, rfl⟩
        cases c9b with
        | true =>
          obtain ⟨c10b, c10⟩ : ∃ b, (FloatKind.f64.format.order (fa .add .f64 (fa .sub .f64 x y) (fa .sub .f64 x y)) y == some .gt || FloatKind.f64.format.order (fa .add .f64 (fa .sub .f64 x y) (fa .sub .f64 x y)) y == some .eq) = b := ⟨_, rfl⟩
          cases c10b with
          | true =>
            refine ⟨?c8, ?hlt8, ?walk8⟩
            case walk8 =>
              intro w K hK
              have HK := hide hK; clear hK
              have S := Same.refl w
              go_enter Oaag.func455, Oaag.ntmps455
              go_wp2_with (first | (refine mIsNaN _ _ _ ?_; (first | rewrite [h1] | rewrite [h2]); intro w1 s1; replace S := Same.trans S s1; clear s1) | (refine mIsInf _ (by assumption) _ _ ?_; (first | rewrite [h3] | rewrite [h5]); intro w1 s1; replace S := Same.trans S s1; clear s1) | (refine mNaN' _ _ ?_; intro w1 s1; replace S := Same.trans S s1; clear s1) | (refine upon_neg ?_; rewrite [Oper.upon_value]) | (with_reducible refine upon_ex (Or.inl rfl) (unhide H1) ?_; intro w1 s1; replace S := Same.trans S s1; clear s1; rewrite [Oper.upon_value]) | (with_reducible refine upon_ex (Or.inr (Or.inl rfl)) (unhide H2) ?_; intro w1 s1; replace S := Same.trans S s1; clear s1; rewrite [Oper.upon_value]) | (with_reducible refine upon_ex (Or.inl rfl) (unhide H3) ?_; intro w1 s1; replace S := Same.trans S s1; clear s1; rewrite [Oper.upon_value]) | (with_reducible refine upon_ex (Or.inr (Or.inl rfl)) (unhide H4) ?_; intro w1 s1; replace S := Same.trans S s1; clear s1; rewrite [Oper.upon_value]))
              exact unhide HK _ S
            case hlt8 => exact fa_lt _ _ _ _
          | false =>
            refine ⟨?c9, ?hlt9, ?walk9⟩
            case walk9 =>
              intro w K hK
              have HK := hide hK; clear hK
              have S := Same.refl w
              go_enter Oaag.func455, Oaag.ntmps455
              go_wp2_with (first | (refine mIsNaN _ _ _ ?_; (first | rewrite [h1] | rewrite [h2]); intro w1 s1; replace S := Same.trans S s1; clear s1) | (refine mIsInf _ (by assumption) _ _ ?_; (first | rewrite [h3] | rewrite [h5]); intro w1 s1; replace S := Same.trans S s1; clear s1) | (refine mNaN' _ _ ?_; intro w1 s1; replace S := Same.trans S s1; clear s1) | (refine upon_neg ?_; rewrite [Oper.upon_value]) | (with_reducible refine upon_ex (Or.inl rfl) (unhide H1) ?_; intro w1 s1; replace S := Same.trans S s1; clear s1; rewrite [Oper.upon_value]) | (with_reducible refine upon_ex (Or.inr (Or.inl rfl)) (unhide H2) ?_; intro w1 s1; replace S := Same.trans S s1; clear s1; rewrite [Oper.upon_value]) | (with_reducible refine upon_ex (Or.inl rfl) (unhide H3) ?_; intro w1 s1; replace S := Same.trans S s1; clear s1; rewrite [Oper.upon_value]) | (with_reducible refine upon_ex (Or.inr (Or.inl rfl)) (unhide H4) ?_; intro w1 s1; replace S := Same.trans S s1; clear s1; rewrite [Oper.upon_value]))
              exact unhide HK _ S
            case hlt9 => exact fa_lt _ _ _ _
        | false =>
          refine ⟨?c10, ?hlt10, ?walk10⟩
          case walk10 =>
            intro w K hK
            have HK := hide hK; clear hK
            have S := Same.refl w
            go_enter Oaag.func455, Oaag.ntmps455
            go_wp2_with (first | (refine mIsNaN _ _ _ ?_; (first | rewrite [h1] | rewrite [h2]); intro w1 s1; replace S := Same.trans S s1; clear s1) | (refine mIsInf _ (by assumption) _ _ ?_; (first | rewrite [h3] | rewrite [h5]); intro w1 s1; replace S := Same.trans S s1; clear s1) | (refine mNaN' _ _ ?_; intro w1 s1; replace S := Same.trans S s1; clear s1) | (refine upon_neg ?_; rewrite [Oper.upon_value]) | (with_reducible refine upon_ex (Or.inl rfl) (unhide H1) ?_; intro w1 s1; replace S := Same.trans S s1; clear s1; rewrite [Oper.upon_value]) | (with_reducible refine upon_ex (Or.inr (Or.inl rfl)) (unhide H2) ?_; intro w1 s1; replace S := Same.trans S s1; clear s1; rewrite [Oper.upon_value]) | (with_reducible refine upon_ex (Or.inl rfl) (unhide H3) ?_; intro w1 s1; replace S := Same.trans S s1; clear s1; rewrite [Oper.upon_value]) | (with_reducible refine upon_ex (Or.inr (Or.inl rfl)) (unhide H4) ?_; intro w1 s1; replace S := Same.trans S s1; clear s1; rewrite [Oper.upon_value]))
            exact unhide HK _ S
          case hlt10 => exact lX1
      | false =>
        have H1 := hide (fa_num (op := .mul) (by simp) num_half nY)
        have H2 := hide (sub_nn nX1.notNan nY)
        have H4 := hide (sub_nn (sub_nn nX1.notNan nY) nY)
        clear nX1 nY
        obtain ⟨c9b, c9⟩ : ∃ b, (FloatKind.f64.format.order x (fa .mul .f64 4602678819172646912 y) == some .gt) = b := ⟨_, rfl⟩
        cases c9b with
        | true =>
          obtain ⟨c10b, c10⟩ : ∃ b, (FloatKind.f64.format.order (fa .sub .f64 x y) (fa .mul .f64 4602678819172646912 y) == some .gt || FloatKind.f64.format.order (fa .sub .f64 x y) (fa .mul .f64 4602678819172646912 y) == some .eq) = b := ⟨_, rfl⟩
          cases c10b with
          | true =>
            refine ⟨?c11, ?hlt11, ?walk11⟩
            case walk11 =>
              intro w K hK
              have HK := hide hK; clear hK
              have S := Same.refl w
              go_enter Oaag.func455, Oaag.ntmps455
              go_wp2_with (first | (refine mIsNaN _ _ _ ?_; (first | rewrite [h1] | rewrite [h2]); intro w1 s1; replace S := Same.trans S s1; clear s1) | (refine mIsInf _ (by assumption) _ _ ?_; (first | rewrite [h3] | rewrite [h5]); intro w1 s1; replace S := Same.trans S s1; clear s1) | (refine mNaN' _ _ ?_; intro w1 s1; replace S := Same.trans S s1; clear s1) | (refine upon_neg ?_; rewrite [Oper.upon_value]) | (with_reducible refine upon_ex (Or.inr (Or.inr (Or.inl rfl))) (unhide H1) ?_; intro w1 s1; replace S := Same.trans S s1; clear s1; rewrite [Oper.upon_value]) | (with_reducible refine upon_ex (Or.inr (Or.inl rfl)) (unhide H2) ?_; intro w1 s1; replace S := Same.trans S s1; clear s1; rewrite [Oper.upon_value]) | (with_reducible refine upon_ex (Or.inr (Or.inl rfl)) (unhide H4) ?_; intro w1 s1; replace S := Same.trans S s1; clear s1; rewrite [Oper.upon_value]))
              exact unhide HK _ S
            case hlt11 => exact fa_lt _ _ _ _
          | false =>
            refine ⟨?c12, ?hlt12, ?walk12⟩
            case walk12 =>
              intro w K hK
              have HK := hide hK; clear hK
              have S := Same.refl w
              go_enter Oaag.func455, Oaag.ntmps455
              go_wp2_with (first | (refine mIsNaN _ _ _ ?_; (first | rewrite [h1] | rewrite [h2]); intro w1 s1; replace S := Same.trans S s1; clear s1) | (refine mIsInf _ (by assumption) _ _ ?_; (first | rewrite [h3] | rewrite [h5]); intro w1 s1; replace S := Same.trans S s1; clear s1) | (refine mNaN' _ _ ?_; intro w1 s1; replace S := Same.trans S s1; clear s1) | (refine upon_neg ?_; rewrite [Oper.upon_value]) | (with_reducible refine upon_ex (Or.inr (Or.inr (Or.inl rfl))) (unhide H1) ?_; intro w1 s1; replace S := Same.trans S s1; clear s1; rewrite [Oper.upon_value]) | (with_reducible refine upon_ex (Or.inr (Or.inl rfl)) (unhide H2) ?_; intro w1 s1; replace S := Same.trans S s1; clear s1; rewrite [Oper.upon_value]) | (with_reducible refine upon_ex (Or.inr (Or.inl rfl)) (unhide H4) ?_; intro w1 s1; replace S := Same.trans S s1; clear s1; rewrite [Oper.upon_value]))
              exact unhide HK _ S
            case hlt12 => exact fa_lt _ _ _ _
        | false =>
          refine ⟨?c13, ?hlt13, ?walk13⟩
          case walk13 =>
            intro w K hK
            have HK := hide hK; clear hK
            have S := Same.refl w
            go_enter Oaag.func455, Oaag.ntmps455
            go_wp2_with (first | (refine mIsNaN _ _ _ ?_; (first | rewrite [h1] | rewrite [h2]); intro w1 s1; replace S := Same.trans S s1; clear s1) | (refine mIsInf _ (by assumption) _ _ ?_; (first | rewrite [h3] | rewrite [h5]); intro w1 s1; replace S := Same.trans S s1; clear s1) | (refine mNaN' _ _ ?_; intro w1 s1; replace S := Same.trans S s1; clear s1) | (refine upon_neg ?_; rewrite [Oper.upon_value]) | (with_reducible refine upon_ex (Or.inr (Or.inr (Or.inl rfl))) (unhide H1) ?_; intro w1 s1; replace S := Same.trans S s1; clear s1; rewrite [Oper.upon_value]) | (with_reducible refine upon_ex (Or.inr (Or.inl rfl)) (unhide H2) ?_; intro w1 s1; replace S := Same.trans S s1; clear s1; rewrite [Oper.upon_value]) | (with_reducible refine upon_ex (Or.inr (Or.inl rfl)) (unhide H4) ?_; intro w1 s1; replace S := Same.trans S s1; clear s1; rewrite [Oper.upon_value]))
            exact unhide HK _ S
          case hlt13 => exact lX1

set_option maxHeartbeats 4000000 in
theorem remPN (x y : Nat) (hx : x < 2 ^ FloatKind.f64.format.width) (hy : y < 2 ^ FloatKind.f64.format.width) (h1 : (FloatKind.f64.format.read x).isNaN = false) (h2 : (FloatKind.f64.format.read y).isNaN = false) (h3 : isInf x = false) (h4 : (FloatKind.f64.format.order y 0 == some .eq) = false) (h5 : isInf y = false)
    (hsx : (FloatKind.f64.format.order x 0 == some .lt) = false) (hsy : (FloatKind.f64.format.order y 0 == some .lt) = true) (lX : x < 2 ^ FloatKind.f64.format.width) (nX : numK .f64 x) (pX : (FloatKind.f64.format.order x 0 == some .lt) = false) (fY : Fin64 (Op.negFloat .f64 y)) (yp : 0 < (Op.negFloat .f64 y)) (nY : numK .f64 (Op.negFloat .f64 y)) :
    ∃ c, c < 2 ^ FloatKind.f64.format.width ∧ NRet 455 #[.float .f64 x, .float .f64 y] (.float .f64 c) := by
  obtain ⟨c6b, c6⟩ : ∃ b, (FloatKind.f64.format.order x (Op.negFloat .f64 y) == some .eq) = b := ⟨_, rfl⟩
  cases c6b with
  | true =>
    refine ⟨?c14, ?hlt14, ?walk14⟩
    case walk14 =>
      intro w K hK
      have HK := hide hK; clear hK
      have S := Same.refl w
      go_enter Oaag.func455, Oaag.ntmps455
      go_wp2_with (first | (refine mIsNaN _ _ _ ?_; (first | rewrite [h1] | rewrite [h2]); intro w1 s1; replace S := Same.trans S s1; clear s1) | (refine mIsInf _ (by assumption) _ _ ?_; (first | rewrite [h3] | rewrite [h5]); intro w1 s1; replace S := Same.trans S s1; clear s1) | (refine mNaN' _ _ ?_; intro w1 s1; replace S := Same.trans S s1; clear s1) | (refine upon_neg ?_; rewrite [Oper.upon_value]))
      exact unhide HK _ S
    case hlt14 => exact by decide
  | false =>
    obtain ⟨c7b, c7⟩ : ∃ b, (FloatKind.f64.format.order (Op.negFloat .f64 y) 9214364837600034815 == some .lt || FloatKind.f64.format.order (Op.negFloat .f64 y) 9214364837600034815 == some .eq) = b := ⟨_, rfl⟩
    cases c7b with
    | true =>
      obtain ⟨zf, z0⟩ := add_self fY (by assumption) (half_max fY (half_le fY c7))
      obtain ⟨X1, lX1, nX1, hM⟩ := mMod lX nX pX zf z0
      have HM := hide hM
      have H0 := hide (fa_num (op := .add) (by simp) nY nY)
      clear hM zf z0 nX pX lX fY
      obtain ⟨c8b, c8⟩ : ∃ b, (FloatKind.f64.format.order (Op.negFloat .f64 y) 9007199254740992 == some .lt) = b := ⟨_, rfl⟩
      cases c8b with
      | true =>
        have H1 := hide (add_nn nX1.notNan)
        have H2 := hide (sub_nn nX1.notNan nY)
        have H3 := hide (add_nn (sub_nn nX1.notNan nY))
        have H4 := hide (sub_nn (sub_nn nX1.notNan nY) nY)
        clear nX1 nY
        obtain ⟨c9b, c9⟩ : ∃ b, (FloatKind.f64.format.order (fa .add .f64 X1 X1) (Op.negFloat .f64 y) == some .gt) = b := ⟨_, rfl⟩
        cases c9b with
        | true =>
          obtain ⟨c10b, c10⟩ : ∃ b, (FloatKind.f64.format.order (fa .add .f64 (fa .sub .f64 X1 (Op.negFloat .f64 y)) (fa .sub .f64 X1 (Op.negFloat .f64 y))) (Op.negFloat .f64 y) == some .gt || FloatKind.f64.format.order (fa .add .f64 (fa .sub .f64 X1 (Op.negFloat .f64 y)) (fa .sub .f64 X1 (Op.negFloat .f64 y))) (Op.negFloat .f64 y) == some .eq) = b := ⟨_, rfl⟩
          cases c10b with
          | true =>
            refine ⟨?c15, ?hlt15, ?walk15⟩
            case walk15 =>
              intro w K hK
              have HK := hide hK; clear hK
              have S := Same.refl w
              go_enter Oaag.func455, Oaag.ntmps455
              go_wp2_with (first | (refine mIsNaN _ _ _ ?_; (first | rewrite [h1] | rewrite [h2]); intro w1 s1; replace S := Same.trans S s1; clear s1) | (refine mIsInf _ (by assumption) _ _ ?_; (first | rewrite [h3] | rewrite [h5]); intro w1 s1; replace S := Same.trans S s1; clear s1) | (refine mNaN' _ _ ?_; intro w1 s1; replace S := Same.trans S s1; clear s1) | (refine upon_neg ?_; rewrite [Oper.upon_value]) | (refine unhide HM _ _ ?_; intro w1 s1; replace S := Same.trans S s1; clear s1) | (with_reducible refine upon_ex (Or.inl rfl) (unhide H0) ?_; intro w1 s1; replace S := Same.trans S s1; clear s1; rewrite [Oper.upon_value]) | (with_reducible refine upon_ex (Or.inl rfl) (unhide H1) ?_; intro w1 s1; replace S := Same.trans S s1; clear s1; rewrite [Oper.upon_value]) | (with_reducible refine upon_ex (Or.inr (Or.inl rfl)) (unhide H2) ?_; intro w1 s1; replace S := Same.trans S s1; clear s1; rewrite [Oper.upon_value]) | (with_reducible refine upon_ex (Or.inl rfl) (unhide H3) ?_; intro w1 s1; replace S := Same.trans S s1; clear s1; rewrite [Oper.upon_value]) | (with_reducible refine upon_ex (Or.inr (Or.inl rfl)) (unhide H4) ?_; intro w1 s1; replace S := Same.trans S s1; clear s1; rewrite [Oper.upon_value]))
              exact unhide HK _ S
            case hlt15 => exact fa_lt _ _ _ _
          | false =>
            refine ⟨?c16, ?hlt16, ?walk16⟩
            case walk16 =>
              intro w K hK
              have HK := hide hK; clear hK
              have S := Same.refl w
              go_enter Oaag.func455, Oaag.ntmps455
              go_wp2_with (first | (refine mIsNaN _ _ _ ?_; (first | rewrite [h1] | rewrite [h2]); intro w1 s1; replace S := Same.trans S s1; clear s1) | (refine mIsInf _ (by assumption) _ _ ?_; (first | rewrite [h3] | rewrite [h5]); intro w1 s1; replace S := Same.trans S s1; clear s1) | (refine mNaN' _ _ ?_; intro w1 s1; replace S := Same.trans S s1; clear s1) | (refine upon_neg ?_; rewrite [Oper.upon_value]) | (refine unhide HM _ _ ?_; intro w1 s1; replace S := Same.trans S s1; clear s1) | (with_reducible refine upon_ex (Or.inl rfl) (unhide H0) ?_; intro w1 s1; replace S := Same.trans S s1; clear s1; rewrite [Oper.upon_value]) | (with_reducible refine upon_ex (Or.inl rfl) (unhide H1) ?_; intro w1 s1; replace S := Same.trans S s1; clear s1; rewrite [Oper.upon_value]) | (with_reducible refine upon_ex (Or.inr (Or.inl rfl)) (unhide H2) ?_; intro w1 s1; replace S := Same.trans S s1; clear s1; rewrite [Oper.upon_value]) | (with_reducible refine upon_ex (Or.inl rfl) (unhide H3) ?_; intro w1 s1; replace S := Same.trans S s1; clear s1; rewrite [Oper.upon_value]) | (with_reducible refine upon_ex (Or.inr (Or.inl rfl)) (unhide H4) ?_; intro w1 s1; replace S := Same.trans S s1; clear s1; rewrite [Oper.upon_value]))
              exact unhide HK _ S
            case hlt16 => exact fa_lt _ _ _ _
        | false =>
          refine ⟨?c17, ?hlt17, ?walk17⟩
          case walk17 =>
            intro w K hK
            have HK := hide hK; clear hK
            have S := Same.refl w
            go_enter Oaag.func455, Oaag.ntmps455
            go_wp2_with (first | (refine mIsNaN _ _ _ ?_; (first | rewrite [h1] | rewrite [h2]); intro w1 s1; replace S := Same.trans S s1; clear s1) | (refine mIsInf _ (by assumption) _ _ ?_; (first | rewrite [h3] | rewrite [h5]); intro w1 s1; replace S := Same.trans S s1; clear s1) | (refine mNaN' _ _ ?_; intro w1 s1; replace S := Same.trans S s1; clear s1) | (refine upon_neg ?_; rewrite [Oper.upon_value]) | (refine unhide HM _ _ ?_; intro w1 s1; replace S := Same.trans S s1; clear s1) | (with_reducible refine upon_ex (Or.inl rfl) (unhide H0) ?_; intro w1 s1; replace S := Same.trans S s1; clear s1; rewrite [Oper.upon_value]) | (with_reducible refine upon_ex (Or.inl rfl) (unhide H1) ?_; intro w1 s1; replace S := Same.trans S s1; clear s1; rewrite [Oper.upon_value]) | (with_reducible refine upon_ex (Or.inr (Or.inl rfl)) (unhide H2) ?_; intro w1 s1; replace S := Same.trans S s1; clear s1; rewrite [Oper.upon_value]) | (with_reducible refine upon_ex (Or.inl rfl) (unhide H3) ?_; intro w1 s1; replace S := Same.trans S s1; clear s1; rewrite [Oper.upon_value]) | (with_reducible refine upon_ex (Or.inr (Or.inl rfl)) (unhide H4) ?_; intro w1 s1; replace S := Same.trans S s1; clear s1; rewrite [Oper.upon_value]))
            exact unhide HK _ S
          case hlt17 => exact lX1
      | false =>
        have H1 := hide (fa_num (op := .mul) (by simp) num_half nY)
        have H2 := hide (sub_nn nX1.notNan nY)
        have H4 := hide (sub_nn (sub_nn nX1.notNan nY) nY)
        clear nX1 nY
        obtain ⟨c9b, c9⟩ : ∃ b, (FloatKind.f64.format.order X1 (fa .mul .f64 4602678819172646912 (Op.negFloat .f64 y)) == some .gt) = b := ⟨_, rfl⟩
        cases c9b with
        | true =>
          obtain ⟨c10b, c10⟩ : ∃ b, (FloatKind.f64.format.order (fa .sub .f64 X1 (Op.negFloat .f64 y)) (fa .mul .f64 4602678819172646912 (Op.negFloat .f64 y)) == some .gt || FloatKind.f64.format.order (fa .sub .f64 X1 (Op.negFloat .f64 y)) (fa .mul .f64 4602678819172646912 (Op.negFloat .f64 y)) == some .eq) = b := ⟨_, rfl⟩
          cases c10b with
          | true =>
            refine ⟨?c18, ?hlt18, ?walk18⟩
            case walk18 =>
              intro w K hK
              have HK := hide hK; clear hK
              have S := Same.refl w
              go_enter Oaag.func455, Oaag.ntmps455
              go_wp2_with (first | (refine mIsNaN _ _ _ ?_; (first | rewrite [h1] | rewrite [h2]); intro w1 s1; replace S := Same.trans S s1; clear s1) | (refine mIsInf _ (by assumption) _ _ ?_; (first | rewrite [h3] | rewrite [h5]); intro w1 s1; replace S := Same.trans S s1; clear s1) | (refine mNaN' _ _ ?_; intro w1 s1; replace S := Same.trans S s1; clear s1) | (refine upon_neg ?_; rewrite [Oper.upon_value]) | (refine unhide HM _ _ ?_; intro w1 s1; replace S := Same.trans S s1; clear s1) | (with_reducible refine upon_ex (Or.inl rfl) (unhide H0) ?_; intro w1 s1; replace S := Same.trans S s1; clear s1; rewrite [Oper.upon_value]) | (with_reducible refine upon_ex (Or.inr (Or.inr (Or.inl rfl))) (unhide H1) ?_; intro w1 s1; replace S := Same.trans S s1; clear s1; rewrite [Oper.upon_value]) | (with_reducible refine upon_ex (Or.inr (Or.inl rfl)) (unhide H2) ?_; intro w1 s1; replace S := Same.trans S s1; clear s1; rewrite [Oper.upon_value]) | (with_reducible refine upon_ex (Or.inr (Or.inl rfl)) (unhide H4) ?_; intro w1 s1; replace S := Same.trans S s1; clear s1; rewrite [Oper.upon_value]))
              exact unhide HK _ S
            case hlt18 => exact fa_lt _ _ _ _
          | false =>
            refine ⟨?c19, ?hlt19, ?walk19⟩
            case walk19 =>
              intro w K hK
              have HK := hide hK; clear hK
              have S := Same.refl w
              go_enter Oaag.func455, Oaag.ntmps455
              go_wp2_with (first | (refine mIsNaN _ _ _ ?_; (first | rewrite [h1] | rewrite [h2]); intro w1 s1; replace S := Same.trans S s1; clear s1) | (refine mIsInf _ (by assumption) _ _ ?_; (first | rewrite [h3] | rewrite [h5]); intro w1 s1; replace S := Same.trans S s1; clear s1) | (refine mNaN' _ _ ?_; intro w1 s1; replace S := Same.trans S s1; clear s1) | (refine upon_neg ?_; rewrite [Oper.upon_value]) | (refine unhide HM _ _ ?_; intro w1 s1; replace S := Same.trans S s1; clear s1) | (with_reducible refine upon_ex (Or.inl rfl) (unhide H0) ?_; intro w1 s1; replace S := Same.trans S s1; clear s1; rewrite [Oper.upon_value]) | (with_reducible refine upon_ex (Or.inr (Or.inr (Or.inl rfl))) (unhide H1) ?_; intro w1 s1; replace S := Same.trans S s1; clear s1; rewrite [Oper.upon_value]) | (with_reducible refine upon_ex (Or.inr (Or.inl rfl)) (unhide H2) ?_; intro w1 s1; replace S := Same.trans S s1; clear s1; rewrite [Oper.upon_value]) | (with_reducible refine upon_ex (Or.inr (Or.inl rfl)) (unhide H4) ?_; intro w1 s1; replace S := Same.trans S s1; clear s1; rewrite [Oper.upon_value]))
              exact unhide HK _ S
            case hlt19 => exact fa_lt _ _ _ _
        | false =>
          refine ⟨?c20, ?hlt20, ?walk20⟩
          case walk20 =>
            intro w K hK
            have HK := hide hK; clear hK
            have S := Same.refl w
            go_enter Oaag.func455, Oaag.ntmps455
            go_wp2_with (first | (refine mIsNaN _ _ _ ?_; (first | rewrite [h1] | rewrite [h2]); intro w1 s1; replace S := Same.trans S s1; clear s1) | (refine mIsInf _ (by assumption) _ _ ?_; (first | rewrite [h3] | rewrite [h5]); intro w1 s1; replace S := Same.trans S s1; clear s1) | (refine mNaN' _ _ ?_; intro w1 s1; replace S := Same.trans S s1; clear s1) | (refine upon_neg ?_; rewrite [Oper.upon_value]) | (refine unhide HM _ _ ?_; intro w1 s1; replace S := Same.trans S s1; clear s1) | (with_reducible refine upon_ex (Or.inl rfl) (unhide H0) ?_; intro w1 s1; replace S := Same.trans S s1; clear s1; rewrite [Oper.upon_value]) | (with_reducible refine upon_ex (Or.inr (Or.inr (Or.inl rfl))) (unhide H1) ?_; intro w1 s1; replace S := Same.trans S s1; clear s1; rewrite [Oper.upon_value]) | (with_reducible refine upon_ex (Or.inr (Or.inl rfl)) (unhide H2) ?_; intro w1 s1; replace S := Same.trans S s1; clear s1; rewrite [Oper.upon_value]) | (with_reducible refine upon_ex (Or.inr (Or.inl rfl)) (unhide H4) ?_; intro w1 s1; replace S := Same.trans S s1; clear s1; rewrite [Oper.upon_value]))
            exact unhide HK _ S
          case hlt20 => exact lX1
    | false =>
      have nX1 := nX
      have lX1 := lX
      clear nX pX fY
      obtain ⟨c8b, c8⟩ : ∃ b, (FloatKind.f64.format.order (Op.negFloat .f64 y) 9007199254740992 == some .lt) = b := ⟨_, rfl⟩
      cases c8b with
      | true =>
        have H1 := hide (add_nn nX1.notNan)
        have H2 := hide (sub_nn nX1.notNan nY)
        have H3 := hide (add_nn (sub_nn nX1.notNan nY))
        have H4 := hide (sub_nn (sub_nn nX1.notNan nY) nY)
        clear nX1 nY
        obtain ⟨c9b, c9⟩ : ∃ b, (FloatKind.f64.format.order (fa .add .f64 x x) (Op.negFloat .f64 y) == some .gt) = b := ⟨_, rfl⟩
        cases c9b with
        | true =>
          obtain ⟨c10b, c10⟩ : ∃ b, (FloatKind.f64.format.order (fa .add .f64 (fa .sub .f64 x (Op.negFloat .f64 y)) (fa .sub .f64 x (Op.negFloat .f64 y))) (Op.negFloat .f64 y) == some .gt || FloatKind.f64.format.order (fa .add .f64 (fa .sub .f64 x (Op.negFloat .f64 y)) (fa .sub .f64 x (Op.negFloat .f64 y))) (Op.negFloat .f64 y) == some .eq) = b := ⟨_, rfl⟩
          cases c10b with
          | true =>
            refine ⟨?c21, ?hlt21, ?walk21⟩
            case walk21 =>
              intro w K hK
              have HK := hide hK; clear hK
              have S := Same.refl w
              go_enter Oaag.func455, Oaag.ntmps455
              go_wp2_with (first | (refine mIsNaN _ _ _ ?_; (first | rewrite [h1] | rewrite [h2]); intro w1 s1; replace S := Same.trans S s1; clear s1) | (refine mIsInf _ (by assumption) _ _ ?_; (first | rewrite [h3] | rewrite [h5]); intro w1 s1; replace S := Same.trans S s1; clear s1) | (refine mNaN' _ _ ?_; intro w1 s1; replace S := Same.trans S s1; clear s1) | (refine upon_neg ?_; rewrite [Oper.upon_value]) | (with_reducible refine upon_ex (Or.inl rfl) (unhide H1) ?_; intro w1 s1; replace S := Same.trans S s1; clear s1; rewrite [Oper.upon_value]) | (with_reducible refine upon_ex (Or.inr (Or.inl rfl)) (unhide H2) ?_; intro w1 s1; replace S := Same.trans S s1; clear s1; rewrite [Oper.upon_value]) | (with_reducible refine upon_ex (Or.inl rfl) (unhide H3) ?_; intro w1 s1; replace S := Same.trans S s1; clear s1; rewrite [Oper.upon_value]) | (with_reducible refine upon_ex (Or.inr (Or.inl rfl)) (unhide H4) ?_; intro w1 s1; replace S := Same.trans S s1; clear s1; rewrite [Oper.upon_value]))
              exact unhide HK _ S
            case hlt21 => exact fa_lt _ _ _ _
          | false =>
            refine ⟨?c22, ?hlt22, ?walk22⟩
            case walk22 =>
              intro w K hK
              have HK := hide hK; clear hK
              have S := Same.refl w
              go_enter Oaag.func455, Oaag.ntmps455
              go_wp2_with (first | (refine mIsNaN _ _ _ ?_; (first | rewrite [h1] | rewrite [h2]); intro w1 s1; replace S := Same.trans S s1; clear s1) | (refine mIsInf _ (by assumption) _ _ ?_; (first | rewrite [h3] | rewrite [h5]); intro w1 s1; replace S := Same.trans S s1; clear s1) | (refine mNaN' _ _ ?_; intro w1 s1; replace S := Same.trans S s1; clear s1) | (refine upon_neg ?_; rewrite [Oper.upon_value]) | (with_reducible refine upon_ex (Or.inl rfl) (unhide H1) ?_; intro w1 s1; replace S := Same.trans S s1; clear s1; rewrite [Oper.upon_value]) | (with_reducible refine upon_ex (Or.inr (Or.inl rfl)) (unhide H2) ?_; intro w1 s1; replace S := Same.trans S s1; clear s1; rewrite [Oper.upon_value]) | (with_reducible refine upon_ex (Or.inl rfl) (unhide H3) ?_; intro w1 s1; replace S := Same.trans S s1; clear s1; rewrite [Oper.upon_value]) | (with_reducible refine upon_ex (Or.inr (Or.inl rfl)) (unhide H4) ?_; intro w1 s1; replace S := Same.trans S s1; clear s1; rewrite [Oper.upon_value]))
              exact unhide HK _ S
            case hlt22 => exact fa_lt _ _ _ _
        | false =>
          refine ⟨?c23, ?hlt23, ?walk23⟩
          case walk23 =>
            intro w K hK
            have HK := hide hK; clear hK
            have S := Same.refl w
            go_enter Oaag.func455, Oaag.ntmps455
            go_wp2_with (first | (refine mIsNaN _ _ _ ?_; (first | rewrite [h1] | rewrite [h2]); intro w1 s1; replace S := Same.trans S s1; clear s1) | (refine mIsInf _ (by assumption) _ _ ?_; (first | rewrite [h3] | rewrite [h5]); intro w1 s1; replace S := Same.trans S s1; clear s1) | (refine mNaN' _ _ ?_; intro w1 s1; replace S := Same.trans S s1; clear s1) | (refine upon_neg ?_; rewrite [Oper.upon_value]) | (with_reducible refine upon_ex (Or.inl rfl) (unhide H1) ?_; intro w1 s1; replace S := Same.trans S s1; clear s1; rewrite [Oper.upon_value]) | (with_reducible refine upon_ex (Or.inr (Or.inl rfl)) (unhide H2) ?_; intro w1 s1; replace S := Same.trans S s1; clear s1; rewrite [Oper.upon_value]) | (with_reducible refine upon_ex (Or.inl rfl) (unhide H3) ?_; intro w1 s1; replace S := Same.trans S s1; clear s1; rewrite [Oper.upon_value]) | (with_reducible refine upon_ex (Or.inr (Or.inl rfl)) (unhide H4) ?_; intro w1 s1; replace S := Same.trans S s1; clear s1; rewrite [Oper.upon_value]))
            exact unhide HK _ S
          case hlt23 => exact lX1
      | false =>
        have H1 := hide (fa_num (op := .mul) (by simp) num_half nY)
        have H2 := hide (sub_nn nX1.notNan nY)
        have H4 := hide (sub_nn (sub_nn nX1.notNan nY) nY)
        clear nX1 nY
        obtain ⟨c9b, c9⟩ : ∃ b, (FloatKind.f64.format.order x (fa .mul .f64 4602678819172646912 (Op.negFloat .f64 y)) == some .gt) = b := ⟨_, rfl⟩
        cases c9b with
        | true =>
          obtain ⟨c10b, c10⟩ : ∃ b, (FloatKind.f64.format.order (fa .sub .f64 x (Op.negFloat .f64 y)) (fa .mul .f64 4602678819172646912 (Op.negFloat .f64 y)) == some .gt || FloatKind.f64.format.order (fa .sub .f64 x (Op.negFloat .f64 y)) (fa .mul .f64 4602678819172646912 (Op.negFloat .f64 y)) == some .eq) = b := ⟨_, rfl⟩
          cases c10b with
          | true =>
            refine ⟨?c24, ?hlt24, ?walk24⟩
            case walk24 =>
              intro w K hK
              have HK := hide hK; clear hK
              have S := Same.refl w
              go_enter Oaag.func455, Oaag.ntmps455
              go_wp2_with (first | (refine mIsNaN _ _ _ ?_; (first | rewrite [h1] | rewrite [h2]); intro w1 s1; replace S := Same.trans S s1; clear s1) | (refine mIsInf _ (by assumption) _ _ ?_; (first | rewrite [h3] | rewrite [h5]); intro w1 s1; replace S := Same.trans S s1; clear s1) | (refine mNaN' _ _ ?_; intro w1 s1; replace S := Same.trans S s1; clear s1) | (refine upon_neg ?_; rewrite [Oper.upon_value]) | (with_reducible refine upon_ex (Or.inr (Or.inr (Or.inl rfl))) (unhide H1) ?_; intro w1 s1; replace S := Same.trans S s1; clear s1; rewrite [Oper.upon_value]) | (with_reducible refine upon_ex (Or.inr (Or.inl rfl)) (unhide H2) ?_; intro w1 s1; replace S := Same.trans S s1; clear s1; rewrite [Oper.upon_value]) | (with_reducible refine upon_ex (Or.inr (Or.inl rfl)) (unhide H4) ?_; intro w1 s1; replace S := Same.trans S s1; clear s1; rewrite [Oper.upon_value]))
              exact unhide HK _ S
            case hlt24 => exact fa_lt _ _ _ _
          | false =>
            refine ⟨?c25, ?hlt25, ?walk25⟩
            case walk25 =>
              intro w K hK
              have HK := hide hK; clear hK
              have S := Same.refl w
              go_enter Oaag.func455, Oaag.ntmps455
              go_wp2_with (first | (refine mIsNaN _ _ _ ?_; (first | rewrite [h1] | rewrite [h2]); intro w1 s1; replace S := Same.trans S s1; clear s1) | (refine mIsInf _ (by assumption) _ _ ?_; (first | rewrite [h3] | rewrite [h5]); intro w1 s1; replace S := Same.trans S s1; clear s1) | (refine mNaN' _ _ ?_; intro w1 s1; replace S := Same.trans S s1; clear s1) | (refine upon_neg ?_; rewrite [Oper.upon_value]) | (with_reducible refine upon_ex (Or.inr (Or.inr (Or.inl rfl))) (unhide H1) ?_; intro w1 s1; replace S := Same.trans S s1; clear s1; rewrite [Oper.upon_value]) | (with_reducible refine upon_ex (Or.inr (Or.inl rfl)) (unhide H2) ?_; intro w1 s1; replace S := Same.trans S s1; clear s1; rewrite [Oper.upon_value]) | (with_reducible refine upon_ex (Or.inr (Or.inl rfl)) (unhide H4) ?_; intro w1 s1; replace S := Same.trans S s1; clear s1; rewrite [Oper.upon_value]))
              exact unhide HK _ S
            case hlt25 => exact fa_lt _ _ _ _
        | false =>
          refine ⟨?c26, ?hlt26, ?walk26⟩
          case walk26 =>
            intro w K hK
            have HK := hide hK; clear hK
            have S := Same.refl w
            go_enter Oaag.func455, Oaag.ntmps455
            go_wp2_with (first | (refine mIsNaN _ _ _ ?_; (first | rewrite [h1] | rewrite [h2]); intro w1 s1; replace S := Same.trans S s1; clear s1) | (refine mIsInf _ (by assumption) _ _ ?_; (first | rewrite [h3] | rewrite [h5]); intro w1 s1; replace S := Same.trans S s1; clear s1) | (refine mNaN' _ _ ?_; intro w1 s1; replace S := Same.trans S s1; clear s1) | (refine upon_neg ?_; rewrite [Oper.upon_value]) | (with_reducible refine upon_ex (Or.inr (Or.inr (Or.inl rfl))) (unhide H1) ?_; intro w1 s1; replace S := Same.trans S s1; clear s1; rewrite [Oper.upon_value]) | (with_reducible refine upon_ex (Or.inr (Or.inl rfl)) (unhide H2) ?_; intro w1 s1; replace S := Same.trans S s1; clear s1; rewrite [Oper.upon_value]) | (with_reducible refine upon_ex (Or.inr (Or.inl rfl)) (unhide H4) ?_; intro w1 s1; replace S := Same.trans S s1; clear s1; rewrite [Oper.upon_value]))
            exact unhide HK _ S
          case hlt26 => exact lX1

set_option maxHeartbeats 4000000 in
theorem remNP (x y : Nat) (hx : x < 2 ^ FloatKind.f64.format.width) (hy : y < 2 ^ FloatKind.f64.format.width) (h1 : (FloatKind.f64.format.read x).isNaN = false) (h2 : (FloatKind.f64.format.read y).isNaN = false) (h3 : isInf x = false) (h4 : (FloatKind.f64.format.order y 0 == some .eq) = false) (h5 : isInf y = false)
    (hsx : (FloatKind.f64.format.order x 0 == some .lt) = true) (hsy : (FloatKind.f64.format.order y 0 == some .lt) = false) (lX : (Op.negFloat .f64 x) < 2 ^ FloatKind.f64.format.width) (nX : numK .f64 (Op.negFloat .f64 x)) (pX : (FloatKind.f64.format.order (Op.negFloat .f64 x) 0 == some .lt) = false) (fY : Fin64 y) (yp : 0 < y) (nY : numK .f64 y) :
    ∃ c, c < 2 ^ FloatKind.f64.format.width ∧ NRet 455 #[.float .f64 x, .float .f64 y] (.float .f64 c) := by
  obtain ⟨c6b, c6⟩ : ∃ b, (FloatKind.f64.format.order (Op.negFloat .f64 x) y == some .eq) = b := ⟨_, rfl⟩
  cases c6b with
  | true =>
    refine ⟨?c27, ?hlt27, ?walk27⟩
    case walk27 =>
      intro w K hK
      have HK := hide hK; clear hK
      have S := Same.refl w
      go_enter Oaag.func455, Oaag.ntmps455
      go_wp2_with (first | (refine mIsNaN _ _ _ ?_; (first | rewrite [h1] | rewrite [h2]); intro w1 s1; replace S := Same.trans S s1; clear s1) | (refine mIsInf _ (by assumption) _ _ ?_; (first | rewrite [h3] | rewrite [h5]); intro w1 s1; replace S := Same.trans S s1; clear s1) | (refine mNaN' _ _ ?_; intro w1 s1; replace S := Same.trans S s1; clear s1) | (refine upon_neg ?_; rewrite [Oper.upon_value]))
      exact unhide HK _ S
    case hlt27 => exact neg_lt (by decide)
  | false =>
    obtain ⟨c7b, c7⟩ : ∃ b, (FloatKind.f64.format.order y 9214364837600034815 == some .lt || FloatKind.f64.format.order y 9214364837600034815 == some .eq) = b := ⟨_, rfl⟩
    cases c7b with
    | true =>
      obtain ⟨zf, z0⟩ := add_self fY (by assumption) (half_max fY (half_le fY c7))
      obtain ⟨X1, lX1, nX1, hM⟩ := mMod lX nX pX zf z0
      have HM := hide hM
      have H0 := hide (fa_num (op := .add) (by simp) nY nY)
      clear hM zf z0 nX pX lX fY
      obtain ⟨c8b, c8⟩ : ∃ b, (FloatKind.f64.format.order y 9007199254740992 == some .lt) = b := ⟨_, rfl⟩
      cases c8b with
      | true =>
        have H1 := hide (add_nn nX1.notNan)
        have H2 := hide (sub_nn nX1.notNan nY)
        have H3 := hide (add_nn (sub_nn nX1.notNan nY))
        have H4 := hide (sub_nn (sub_nn nX1.notNan nY) nY)
        clear nX1 nY
        obtain ⟨c9b, c9⟩ : ∃ b, (FloatKind.f64.format.order (fa .add .f64 X1 X1) y == some .gt) = b := ⟨_, rfl⟩
        cases c9b with
        | true =>
          obtain ⟨c10b, c10⟩ : ∃ b, (FloatKind.f64.format.order (fa .add .f64 (fa .sub .f64 X1 y) (fa .sub .f64 X1 y)) y == some .gt || FloatKind.f64.format.order (fa .add .f64 (fa .sub .f64 X1 y) (fa .sub .f64 X1 y)) y == some .eq) = b := ⟨_, rfl⟩
          cases c10b with
          | true =>
            refine ⟨?c28, ?hlt28, ?walk28⟩
            case walk28 =>
              intro w K hK
              have HK := hide hK; clear hK
              have S := Same.refl w
              go_enter Oaag.func455, Oaag.ntmps455
              go_wp2_with (first | (refine mIsNaN _ _ _ ?_; (first | rewrite [h1] | rewrite [h2]); intro w1 s1; replace S := Same.trans S s1; clear s1) | (refine mIsInf _ (by assumption) _ _ ?_; (first | rewrite [h3] | rewrite [h5]); intro w1 s1; replace S := Same.trans S s1; clear s1) | (refine mNaN' _ _ ?_; intro w1 s1; replace S := Same.trans S s1; clear s1) | (refine upon_neg ?_; rewrite [Oper.upon_value]) | (refine unhide HM _ _ ?_; intro w1 s1; replace S := Same.trans S s1; clear s1) | (with_reducible refine upon_ex (Or.inl rfl) (unhide H0) ?_; intro w1 s1; replace S := Same.trans S s1; clear s1; rewrite [Oper.upon_value]) | (with_reducible refine upon_ex (Or.inl rfl) (unhide H1) ?_; intro w1 s1; replace S := Same.trans S s1; clear s1; rewrite [Oper.upon_value]) | (with_reducible refine upon_ex (Or.inr (Or.inl rfl)) (unhide H2) ?_; intro w1 s1; replace S := Same.trans S s1; clear s1; rewrite [Oper.upon_value]) | (with_reducible refine upon_ex (Or.inl rfl) (unhide H3) ?_; intro w1 s1; replace S := Same.trans S s1; clear s1; rewrite [Oper.upon_value]) | (with_reducible refine upon_ex (Or.inr (Or.inl rfl)) (unhide H4) ?_; intro w1 s1; replace S := Same.trans S s1; clear s1; rewrite [Oper.upon_value]))
              exact unhide HK _ S
            case hlt28 => exact neg_lt (fa_lt _ _ _ _)
          | false =>
            refine ⟨?c29, ?hlt29, ?walk29⟩
            case walk29 =>
              intro w K hK
              have HK := hide hK; clear hK
              have S := Same.refl w
              go_enter Oaag.func455, Oaag.ntmps455
              go_wp2_with (first | (refine mIsNaN _ _ _ ?_; (first | rewrite [h1] | rewrite [h2]); intro w1 s1; replace S := Same.trans S s1; clear s1) | (refine mIsInf _ (by assumption) _ _ ?_; (first | rewrite [h3] | rewrite [h5]); intro w1 s1; replace S := Same.trans S s1; clear s1) | (refine mNaN' _ _ ?_; intro w1 s1; replace S := Same.trans S s1; clear s1) | (refine upon_neg ?_; rewrite [Oper.upon_value]) | (refine unhide HM _ _ ?_; intro w1 s1; replace S := Same.trans S s1; clear s1) | (with_reducible refine upon_ex (Or.inl rfl) (unhide H0) ?_; intro w1 s1; replace S := Same.trans S s1; clear s1; rewrite [Oper.upon_value]) | (with_reducible refine upon_ex (Or.inl rfl) (unhide H1) ?_; intro w1 s1; replace S := Same.trans S s1; clear s1; rewrite [Oper.upon_value]) | (with_reducible refine upon_ex (Or.inr (Or.inl rfl)) (unhide H2) ?_; intro w1 s1; replace S := Same.trans S s1; clear s1; rewrite [Oper.upon_value]) | (with_reducible refine upon_ex (Or.inl rfl) (unhide H3) ?_; intro w1 s1; replace S := Same.trans S s1; clear s1; rewrite [Oper.upon_value]) | (with_reducible refine upon_ex (Or.inr (Or.inl rfl)) (unhide H4) ?_; intro w1 s1; replace S := Same.trans S s1; clear s1; rewrite [Oper.upon_value]))
              exact unhide HK _ S
            case hlt29 => exact neg_lt (fa_lt _ _ _ _)
        | false =>
          refine ⟨?c30, ?hlt30, ?walk30⟩
          case walk30 =>
            intro w K hK
            have HK := hide hK; clear hK
            have S := Same.refl w
            go_enter Oaag.func455, Oaag.ntmps455
            go_wp2_with (first | (refine mIsNaN _ _ _ ?_; (first | rewrite [h1] | rewrite [h2]); intro w1 s1; replace S := Same.trans S s1; clear s1) | (refine mIsInf _ (by assumption) _ _ ?_; (first | rewrite [h3] | rewrite [h5]); intro w1 s1; replace S := Same.trans S s1; clear s1) | (refine mNaN' _ _ ?_; intro w1 s1; replace S := Same.trans S s1; clear s1) | (refine upon_neg ?_; rewrite [Oper.upon_value]) | (refine unhide HM _ _ ?_; intro w1 s1; replace S := Same.trans S s1; clear s1) | (with_reducible refine upon_ex (Or.inl rfl) (unhide H0) ?_; intro w1 s1; replace S := Same.trans S s1; clear s1; rewrite [Oper.upon_value]) | (with_reducible refine upon_ex (Or.inl rfl) (unhide H1) ?_; intro w1 s1; replace S := Same.trans S s1; clear s1; rewrite [Oper.upon_value]) | (with_reducible refine upon_ex (Or.inr (Or.inl rfl)) (unhide H2) ?_; intro w1 s1; replace S := Same.trans S s1; clear s1; rewrite [Oper.upon_value]) | (with_reducible refine upon_ex (Or.inl rfl) (unhide H3) ?_; intro w1 s1; replace S := Same.trans S s1; clear s1; rewrite [Oper.upon_value]) | (with_reducible refine upon_ex (Or.inr (Or.inl rfl)) (unhide H4) ?_; intro w1 s1; replace S := Same.trans S s1; clear s1; rewrite [Oper.upon_value]))
            exact unhide HK _ S
          case hlt30 => exact neg_lt (lX1)
      | false =>
        have H1 := hide (fa_num (op := .mul) (by simp) num_half nY)
        have H2 := hide (sub_nn nX1.notNan nY)
        have H4 := hide (sub_nn (sub_nn nX1.notNan nY) nY)
        clear nX1 nY
        obtain ⟨c9b, c9⟩ : ∃ b, (FloatKind.f64.format.order X1 (fa .mul .f64 4602678819172646912 y) == some .gt) = b := ⟨_, rfl⟩
        cases c9b with
        | true =>
          obtain ⟨c10b, c10⟩ : ∃ b, (FloatKind.f64.format.order (fa .sub .f64 X1 y) (fa .mul .f64 4602678819172646912 y) == some .gt || FloatKind.f64.format.order (fa .sub .f64 X1 y) (fa .mul .f64 4602678819172646912 y) == some .eq) = b := ⟨_, rfl⟩
          cases c10b with
          | true =>
            refine ⟨?c31, ?hlt31, ?walk31⟩
            case walk31 =>
              intro w K hK
              have HK := hide hK; clear hK
              have S := Same.refl w
              go_enter Oaag.func455, Oaag.ntmps455
              go_wp2_with (first | (refine mIsNaN _ _ _ ?_; (first | rewrite [h1] | rewrite [h2]); intro w1 s1; replace S := Same.trans S s1; clear s1) | (refine mIsInf _ (by assumption) _ _ ?_; (first | rewrite [h3] | rewrite [h5]); intro w1 s1; replace S := Same.trans S s1; clear s1) | (refine mNaN' _ _ ?_; intro w1 s1; replace S := Same.trans S s1; clear s1) | (refine upon_neg ?_; rewrite [Oper.upon_value]) | (refine unhide HM _ _ ?_; intro w1 s1; replace S := Same.trans S s1; clear s1) | (with_reducible refine upon_ex (Or.inl rfl) (unhide H0) ?_; intro w1 s1; replace S := Same.trans S s1; clear s1; rewrite [Oper.upon_value]) | (with_reducible refine upon_ex (Or.inr (Or.inr (Or.inl rfl))) (unhide H1) ?_; intro w1 s1; replace S := Same.trans S s1; clear s1; rewrite [Oper.upon_value]) | (with_reducible refine upon_ex (Or.inr (Or.inl rfl)) (unhide H2) ?_; intro w1 s1; replace S := Same.trans S s1; clear s1; rewrite [Oper.upon_value]) | (with_reducible refine upon_ex (Or.inr (Or.inl rfl)) (unhide H4) ?_; intro w1 s1; replace S := Same.trans S s1; clear s1; rewrite [Oper.upon_value]))
              exact unhide HK _ S
            case hlt31 => exact neg_lt (fa_lt _ _ _ _)
          | false =>
            refine ⟨?c32, ?hlt32, ?walk32⟩
            case walk32 =>
              intro w K hK
              have HK := hide hK; clear hK
              have S := Same.refl w
              go_enter Oaag.func455, Oaag.ntmps455
              go_wp2_with (first | (refine mIsNaN _ _ _ ?_; (first | rewrite [h1] | rewrite [h2]); intro w1 s1; replace S := Same.trans S s1; clear s1) | (refine mIsInf _ (by assumption) _ _ ?_; (first | rewrite [h3] | rewrite [h5]); intro w1 s1; replace S := Same.trans S s1; clear s1) | (refine mNaN' _ _ ?_; intro w1 s1; replace S := Same.trans S s1; clear s1) | (refine upon_neg ?_; rewrite [Oper.upon_value]) | (refine unhide HM _ _ ?_; intro w1 s1; replace S := Same.trans S s1; clear s1) | (with_reducible refine upon_ex (Or.inl rfl) (unhide H0) ?_; intro w1 s1; replace S := Same.trans S s1; clear s1; rewrite [Oper.upon_value]) | (with_reducible refine upon_ex (Or.inr (Or.inr (Or.inl rfl))) (unhide H1) ?_; intro w1 s1; replace S := Same.trans S s1; clear s1; rewrite [Oper.upon_value]) | (with_reducible refine upon_ex (Or.inr (Or.inl rfl)) (unhide H2) ?_; intro w1 s1; replace S := Same.trans S s1; clear s1; rewrite [Oper.upon_value]) | (with_reducible refine upon_ex (Or.inr (Or.inl rfl)) (unhide H4) ?_; intro w1 s1; replace S := Same.trans S s1; clear s1; rewrite [Oper.upon_value]))
              exact unhide HK _ S
            case hlt32 => exact neg_lt (fa_lt _ _ _ _)
        | false =>
          refine ⟨?c33, ?hlt33, ?walk33⟩
          case walk33 =>
            intro w K hK
            have HK := hide hK; clear hK
            have S := Same.refl w
            go_enter Oaag.func455, Oaag.ntmps455
            go_wp2_with (first | (refine mIsNaN _ _ _ ?_; (first | rewrite [h1] | rewrite [h2]); intro w1 s1; replace S := Same.trans S s1; clear s1) | (refine mIsInf _ (by assumption) _ _ ?_; (first | rewrite [h3] | rewrite [h5]); intro w1 s1; replace S := Same.trans S s1; clear s1) | (refine mNaN' _ _ ?_; intro w1 s1; replace S := Same.trans S s1; clear s1) | (refine upon_neg ?_; rewrite [Oper.upon_value]) | (refine unhide HM _ _ ?_; intro w1 s1; replace S := Same.trans S s1; clear s1) | (with_reducible refine upon_ex (Or.inl rfl) (unhide H0) ?_; intro w1 s1; replace S := Same.trans S s1; clear s1; rewrite [Oper.upon_value]) | (with_reducible refine upon_ex (Or.inr (Or.inr (Or.inl rfl))) (unhide H1) ?_; intro w1 s1; replace S := Same.trans S s1; clear s1; rewrite [Oper.upon_value]) | (with_reducible refine upon_ex (Or.inr (Or.inl rfl)) (unhide H2) ?_; intro w1 s1; replace S := Same.trans S s1; clear s1; rewrite [Oper.upon_value]) | (with_reducible refine upon_ex (Or.inr (Or.inl rfl)) (unhide H4) ?_; intro w1 s1; replace S := Same.trans S s1; clear s1; rewrite [Oper.upon_value]))
            exact unhide HK _ S
          case hlt33 => exact neg_lt (lX1)
    | false =>
      have nX1 := nX
      have lX1 := lX
      clear nX pX fY
      obtain ⟨c8b, c8⟩ : ∃ b, (FloatKind.f64.format.order y 9007199254740992 == some .lt) = b := ⟨_, rfl⟩
      cases c8b with
      | true =>
        have H1 := hide (add_nn nX1.notNan)
        have H2 := hide (sub_nn nX1.notNan nY)
        have H3 := hide (add_nn (sub_nn nX1.notNan nY))
        have H4 := hide (sub_nn (sub_nn nX1.notNan nY) nY)
        clear nX1 nY
        obtain ⟨c9b, c9⟩ : ∃ b, (FloatKind.f64.format.order (fa .add .f64 (Op.negFloat .f64 x) (Op.negFloat .f64 x)) y == some .gt) = b := ⟨_, rfl⟩
        cases c9b with
        | true =>
          obtain ⟨c10b, c10⟩ : ∃ b, (FloatKind.f64.format.order (fa .add .f64 (fa .sub .f64 (Op.negFloat .f64 x) y) (fa .sub .f64 (Op.negFloat .f64 x) y)) y == some .gt || FloatKind.f64.format.order (fa .add .f64 (fa .sub .f64 (Op.negFloat .f64 x) y) (fa .sub .f64 (Op.negFloat .f64 x) y)) y == some .eq) = b := ⟨_, rfl⟩
          cases c10b with
          | true =>
            refine ⟨?c34, ?hlt34, ?walk34⟩
            case walk34 =>
              intro w K hK
              have HK := hide hK; clear hK
              have S := Same.refl w
              go_enter Oaag.func455, Oaag.ntmps455
              go_wp2_with (first | (refine mIsNaN _ _ _ ?_; (first | rewrite [h1] | rewrite [h2]); intro w1 s1; replace S := Same.trans S s1; clear s1) | (refine mIsInf _ (by assumption) _ _ ?_; (first | rewrite [h3] | rewrite [h5]); intro w1 s1; replace S := Same.trans S s1; clear s1) | (refine mNaN' _ _ ?_; intro w1 s1; replace S := Same.trans S s1; clear s1) | (refine upon_neg ?_; rewrite [Oper.upon_value]) | (with_reducible refine upon_ex (Or.inl rfl) (unhide H1) ?_; intro w1 s1; replace S := Same.trans S s1; clear s1; rewrite [Oper.upon_value]) | (with_reducible refine upon_ex (Or.inr (Or.inl rfl)) (unhide H2) ?_; intro w1 s1; replace S := Same.trans S s1; clear s1; rewrite [Oper.upon_value]) | (with_reducible refine upon_ex (Or.inl rfl) (unhide H3) ?_; intro w1 s1; replace S := Same.trans S s1; clear s1; rewrite [Oper.upon_value]) | (with_reducible refine upon_ex (Or.inr (Or.inl rfl)) (unhide H4) ?_; intro w1 s1; replace S := Same.trans S s1; clear s1; rewrite [Oper.upon_value]))
              exact unhide HK _ S
            case hlt34 => exact neg_lt (fa_lt _ _ _ _)
          | false =>
            refine ⟨?c35, ?hlt35, ?walk35⟩
            case walk35 =>
              intro w K hK
              have HK := hide hK; clear hK
              have S := Same.refl w
              go_enter Oaag.func455, Oaag.ntmps455
              go_wp2_with (first | (refine mIsNaN _ _ _ ?_; (first | rewrite [h1] | rewrite [h2]); intro w1 s1; replace S := Same.trans S s1; clear s1) | (refine mIsInf _ (by assumption) _ _ ?_; (first | rewrite [h3] | rewrite [h5]); intro w1 s1; replace S := Same.trans S s1; clear s1) | (refine mNaN' _ _ ?_; intro w1 s1; replace S := Same.trans S s1; clear s1) | (refine upon_neg ?_; rewrite [Oper.upon_value]) | (with_reducible refine upon_ex (Or.inl rfl) (unhide H1) ?_; intro w1 s1; replace S := Same.trans S s1; clear s1; rewrite [Oper.upon_value]) | (with_reducible refine upon_ex (Or.inr (Or.inl rfl)) (unhide H2) ?_; intro w1 s1; replace S := Same.trans S s1; clear s1; rewrite [Oper.upon_value]) | (with_reducible refine upon_ex (Or.inl rfl) (unhide H3) ?_; intro w1 s1; replace S := Same.trans S s1; clear s1; rewrite [Oper.upon_value]) | (with_reducible refine upon_ex (Or.inr (Or.inl rfl)) (unhide H4) ?_; intro w1 s1; replace S := Same.trans S s1; clear s1; rewrite [Oper.upon_value]))
              exact unhide HK _ S
            case hlt35 => exact neg_lt (fa_lt _ _ _ _)
        | false =>
          refine ⟨?c36, ?hlt36, ?walk36⟩
          case walk36 =>
            intro w K hK
            have HK := hide hK; clear hK
            have S := Same.refl w
            go_enter Oaag.func455, Oaag.ntmps455
            go_wp2_with (first | (refine mIsNaN _ _ _ ?_; (first | rewrite [h1] | rewrite [h2]); intro w1 s1; replace S := Same.trans S s1; clear s1) | (refine mIsInf _ (by assumption) _ _ ?_; (first | rewrite [h3] | rewrite [h5]); intro w1 s1; replace S := Same.trans S s1; clear s1) | (refine mNaN' _ _ ?_; intro w1 s1; replace S := Same.trans S s1; clear s1) | (refine upon_neg ?_; rewrite [Oper.upon_value]) | (with_reducible refine upon_ex (Or.inl rfl) (unhide H1) ?_; intro w1 s1; replace S := Same.trans S s1; clear s1; rewrite [Oper.upon_value]) | (with_reducible refine upon_ex (Or.inr (Or.inl rfl)) (unhide H2) ?_; intro w1 s1; replace S := Same.trans S s1; clear s1; rewrite [Oper.upon_value]) | (with_reducible refine upon_ex (Or.inl rfl) (unhide H3) ?_; intro w1 s1; replace S := Same.trans S s1; clear s1; rewrite [Oper.upon_value]) | (with_reducible refine upon_ex (Or.inr (Or.inl rfl)) (unhide H4) ?_; intro w1 s1; replace S := Same.trans S s1; clear s1; rewrite [Oper.upon_value]))
            exact unhide HK _ S
          case hlt36 => exact neg_lt (lX1)
      | false =>
        have H1 := hide (fa_num (op := .mul) (by simp) num_half nY)
        have H2 := hide (sub_nn nX1.notNan nY)
        have H4 := hide (sub_nn (sub_nn nX1.notNan nY) nY)
        clear nX1 nY
        obtain ⟨c9b, c9⟩ : ∃ b, (FloatKind.f64.format.order (Op.negFloat .f64 x) (fa .mul .f64 4602678819172646912 y) == some .gt) = b := ⟨_, rfl⟩
        cases c9b with
        | true =>
          obtain ⟨c10b, c10⟩ : ∃ b, (FloatKind.f64.format.order (fa .sub .f64 (Op.negFloat .f64 x) y) (fa .mul .f64 4602678819172646912 y) == some .gt || FloatKind.f64.format.order (fa .sub .f64 (Op.negFloat .f64 x) y) (fa .mul .f64 4602678819172646912 y) == some .eq) = b := ⟨_, rfl⟩
          cases c10b with
          | true =>
            refine ⟨?c37, ?hlt37, ?walk37⟩
            case walk37 =>
              intro w K hK
              have HK := hide hK; clear hK
              have S := Same.refl w
              go_enter Oaag.func455, Oaag.ntmps455
              go_wp2_with (first | (refine mIsNaN _ _ _ ?_; (first | rewrite [h1] | rewrite [h2]); intro w1 s1; replace S := Same.trans S s1; clear s1) | (refine mIsInf _ (by assumption) _ _ ?_; (first | rewrite [h3] | rewrite [h5]); intro w1 s1; replace S := Same.trans S s1; clear s1) | (refine mNaN' _ _ ?_; intro w1 s1; replace S := Same.trans S s1; clear s1) | (refine upon_neg ?_; rewrite [Oper.upon_value]) | (with_reducible refine upon_ex (Or.inr (Or.inr (Or.inl rfl))) (unhide H1) ?_; intro w1 s1; replace S := Same.trans S s1; clear s1; rewrite [Oper.upon_value]) | (with_reducible refine upon_ex (Or.inr (Or.inl rfl)) (unhide H2) ?_; intro w1 s1; replace S := Same.trans S s1; clear s1; rewrite [Oper.upon_value]) | (with_reducible refine upon_ex (Or.inr (Or.inl rfl)) (unhide H4) ?_; intro w1 s1; replace S := Same.trans S s1; clear s1; rewrite [Oper.upon_value]))
              exact unhide HK _ S
            case hlt37 => exact neg_lt (fa_lt _ _ _ _)
          | false =>
            refine ⟨?c38, ?hlt38, ?walk38⟩
            case walk38 =>
              intro w K hK
              have HK := hide hK; clear hK
              have S := Same.refl w
              go_enter Oaag.func455, Oaag.ntmps455
              go_wp2_with (first | (refine mIsNaN _ _ _ ?_; (first | rewrite [h1] | rewrite [h2]); intro w1 s1; replace S := Same.trans S s1; clear s1) | (refine mIsInf _ (by assumption) _ _ ?_; (first | rewrite [h3] | rewrite [h5]); intro w1 s1; replace S := Same.trans S s1; clear s1) | (refine mNaN' _ _ ?_; intro w1 s1; replace S := Same.trans S s1; clear s1) | (refine upon_neg ?_; rewrite [Oper.upon_value]) | (with_reducible refine upon_ex (Or.inr (Or.inr (Or.inl rfl))) (unhide H1) ?_; intro w1 s1; replace S := Same.trans S s1; clear s1; rewrite [Oper.upon_value]) | (with_reducible refine upon_ex (Or.inr (Or.inl rfl)) (unhide H2) ?_; intro w1 s1; replace S := Same.trans S s1; clear s1; rewrite [Oper.upon_value]) | (with_reducible refine upon_ex (Or.inr (Or.inl rfl)) (unhide H4) ?_; intro w1 s1; replace S := Same.trans S s1; clear s1; rewrite [Oper.upon_value]))
              exact unhide HK _ S
            case hlt38 => exact neg_lt (fa_lt _ _ _ _)
        | false =>
          refine ⟨?c39, ?hlt39, ?walk39⟩
          case walk39 =>
            intro w K hK
            have HK := hide hK; clear hK
            have S := Same.refl w
            go_enter Oaag.func455, Oaag.ntmps455
            go_wp2_with (first | (refine mIsNaN _ _ _ ?_; (first | rewrite [h1] | rewrite [h2]); intro w1 s1; replace S := Same.trans S s1; clear s1) | (refine mIsInf _ (by assumption) _ _ ?_; (first | rewrite [h3] | rewrite [h5]); intro w1 s1; replace S := Same.trans S s1; clear s1) | (refine mNaN' _ _ ?_; intro w1 s1; replace S := Same.trans S s1; clear s1) | (refine upon_neg ?_; rewrite [Oper.upon_value]) | (with_reducible refine upon_ex (Or.inr (Or.inr (Or.inl rfl))) (unhide H1) ?_; intro w1 s1; replace S := Same.trans S s1; clear s1; rewrite [Oper.upon_value]) | (with_reducible refine upon_ex (Or.inr (Or.inl rfl)) (unhide H2) ?_; intro w1 s1; replace S := Same.trans S s1; clear s1; rewrite [Oper.upon_value]) | (with_reducible refine upon_ex (Or.inr (Or.inl rfl)) (unhide H4) ?_; intro w1 s1; replace S := Same.trans S s1; clear s1; rewrite [Oper.upon_value]))
            exact unhide HK _ S
          case hlt39 => exact neg_lt (lX1)

set_option maxHeartbeats 4000000 in
theorem remNN (x y : Nat) (hx : x < 2 ^ FloatKind.f64.format.width) (hy : y < 2 ^ FloatKind.f64.format.width) (h1 : (FloatKind.f64.format.read x).isNaN = false) (h2 : (FloatKind.f64.format.read y).isNaN = false) (h3 : isInf x = false) (h4 : (FloatKind.f64.format.order y 0 == some .eq) = false) (h5 : isInf y = false)
    (hsx : (FloatKind.f64.format.order x 0 == some .lt) = true) (hsy : (FloatKind.f64.format.order y 0 == some .lt) = true) (lX : (Op.negFloat .f64 x) < 2 ^ FloatKind.f64.format.width) (nX : numK .f64 (Op.negFloat .f64 x)) (pX : (FloatKind.f64.format.order (Op.negFloat .f64 x) 0 == some .lt) = false) (fY : Fin64 (Op.negFloat .f64 y)) (yp : 0 < (Op.negFloat .f64 y)) (nY : numK .f64 (Op.negFloat .f64 y)) :
    ∃ c, c < 2 ^ FloatKind.f64.format.width ∧ NRet 455 #[.float .f64 x, .float .f64 y] (.float .f64 c) := by
  obtain ⟨c6b, c6⟩ : ∃ b, (FloatKind.f64.format.order (Op.negFloat .f64 x) (Op.negFloat .f64 y) == some .eq) = b := ⟨_, rfl⟩
  cases c6b with
  | true =>
    refine ⟨?c40, ?hlt40, ?walk40⟩
    case walk40 =>
      intro w K hK
      have HK := hide hK; clear hK
      have S := Same.refl w
      go_enter Oaag.func455, Oaag.ntmps455
      go_wp2_with (first | (refine mIsNaN _ _ _ ?_; (first | rewrite [h1] | rewrite [h2]); intro w1 s1; replace S := Same.trans S s1; clear s1) | (refine mIsInf _ (by assumption) _ _ ?_; (first | rewrite [h3] | rewrite [h5]); intro w1 s1; replace S := Same.trans S s1; clear s1) | (refine mNaN' _ _ ?_; intro w1 s1; replace S := Same.trans S s1; clear s1) | (refine upon_neg ?_; rewrite [Oper.upon_value]))
      exact unhide HK _ S
    case hlt40 => exact neg_lt (by decide)
  | false =>
    obtain ⟨c7b, c7⟩ : ∃ b, (FloatKind.f64.format.order (Op.negFloat .f64 y) 9214364837600034815 == some .lt || FloatKind.f64.format.order (Op.negFloat .f64 y) 9214364837600034815 == some .eq) = b := ⟨_, rfl⟩
    cases c7b with
    | true =>
      obtain ⟨zf, z0⟩ := add_self fY (by assumption) (half_max fY (half_le fY c7))
      obtain ⟨X1, lX1, nX1, hM⟩ := mMod lX nX pX zf z0
      have HM := hide hM
      have H0 := hide (fa_num (op := .add) (by simp) nY nY)
      clear hM zf z0 nX pX lX fY
      obtain ⟨c8b, c8⟩ : ∃ b, (FloatKind.f64.format.order (Op.negFloat .f64 y) 9007199254740992 == some .lt) = b := ⟨_, rfl⟩
      cases c8b with
      | true =>
        have H1 := hide (add_nn nX1.notNan)
        have H2 := hide (sub_nn nX1.notNan nY)
        have H3 := hide (add_nn (sub_nn nX1.notNan nY))
        have H4 := hide (sub_nn (sub_nn nX1.notNan nY) nY)
        clear nX1 nY
        obtain ⟨c9b, c9⟩ : ∃ b, (FloatKind.f64.format.order (fa .add .f64 X1 X1) (Op.negFloat .f64 y) == some .gt) = b := ⟨_, rfl⟩
        cases c9b with
        | true =>
          obtain ⟨c10b, c10⟩ : ∃ b, (FloatKind.f64.format.order (fa .add .f64 (fa .sub .f64 X1 (Op.negFloat .f64 y)) (fa .sub .f64 X1 (Op.negFloat .f64 y))) (Op.negFloat .f64 y) == some .gt || FloatKind.f64.format.order (fa .add .f64 (fa .sub .f64 X1 (Op.negFloat .f64 y)) (fa .sub .f64 X1 (Op.negFloat .f64 y))) (Op.negFloat .f64 y) == some .eq) = b := ⟨_, rfl⟩
          cases c10b with
          | true =>
            refine ⟨?c41, ?hlt41, ?walk41⟩
            case walk41 =>
              intro w K hK
              have HK := hide hK; clear hK
              have S := Same.refl w
              go_enter Oaag.func455, Oaag.ntmps455
              go_wp2_with (first | (refine mIsNaN _ _ _ ?_; (first | rewrite [h1] | rewrite [h2]); intro w1 s1; replace S := Same.trans S s1; clear s1) | (refine mIsInf _ (by assumption) _ _ ?_; (first | rewrite [h3] | rewrite [h5]); intro w1 s1; replace S := Same.trans S s1; clear s1) | (refine mNaN' _ _ ?_; intro w1 s1; replace S := Same.trans S s1; clear s1) | (refine upon_neg ?_; rewrite [Oper.upon_value]) | (refine unhide HM _ _ ?_; intro w1 s1; replace S := Same.trans S s1; clear s1) | (with_reducible refine upon_ex (Or.inl rfl) (unhide H0) ?_; intro w1 s1; replace S := Same.trans S s1; clear s1; rewrite [Oper.upon_value]) | (with_reducible refine upon_ex (Or.inl rfl) (unhide H1) ?_; intro w1 s1; replace S := Same.trans S s1; clear s1; rewrite [Oper.upon_value]) | (with_reducible refine upon_ex (Or.inr (Or.inl rfl)) (unhide H2) ?_; intro w1 s1; replace S := Same.trans S s1; clear s1; rewrite [Oper.upon_value]) | (with_reducible refine upon_ex (Or.inl rfl) (unhide H3) ?_; intro w1 s1; replace S := Same.trans S s1; clear s1; rewrite [Oper.upon_value]) | (with_reducible refine upon_ex (Or.inr (Or.inl rfl)) (unhide H4) ?_; intro w1 s1; replace S := Same.trans S s1; clear s1; rewrite [Oper.upon_value]))
              exact unhide HK _ S
            case hlt41 => exact neg_lt (fa_lt _ _ _ _)
          | false =>
            refine ⟨?c42, ?hlt42, ?walk42⟩
            case walk42 =>
              intro w K hK
              have HK := hide hK; clear hK
              have S := Same.refl w
              go_enter Oaag.func455, Oaag.ntmps455
              go_wp2_with (first | (refine mIsNaN _ _ _ ?_; (first | rewrite [h1] | rewrite [h2]); intro w1 s1; replace S := Same.trans S s1; clear s1) | (refine mIsInf _ (by assumption) _ _ ?_; (first | rewrite [h3] | rewrite [h5]); intro w1 s1; replace S := Same.trans S s1; clear s1) | (refine mNaN' _ _ ?_; intro w1 s1; replace S := Same.trans S s1; clear s1) | (refine upon_neg ?_; rewrite [Oper.upon_value]) | (refine unhide HM _ _ ?_; intro w1 s1; replace S := Same.trans S s1; clear s1) | (with_reducible refine upon_ex (Or.inl rfl) (unhide H0) ?_; intro w1 s1; replace S := Same.trans S s1; clear s1; rewrite [Oper.upon_value]) | (with_reducible refine upon_ex (Or.inl rfl) (unhide H1) ?_; intro w1 s1; replace S := Same.trans S s1; clear s1; rewrite [Oper.upon_value]) | (with_reducible refine upon_ex (Or.inr (Or.inl rfl)) (unhide H2) ?_; intro w1 s1; replace S := Same.trans S s1; clear s1; rewrite [Oper.upon_value]) | (with_reducible refine upon_ex (Or.inl rfl) (unhide H3) ?_; intro w1 s1; replace S := Same.trans S s1; clear s1; rewrite [Oper.upon_value]) | (with_reducible refine upon_ex (Or.inr (Or.inl rfl)) (unhide H4) ?_; intro w1 s1; replace S := Same.trans S s1; clear s1; rewrite [Oper.upon_value]))
              exact unhide HK _ S
            case hlt42 => exact neg_lt (fa_lt _ _ _ _)
        | false =>
          refine ⟨?c43, ?hlt43, ?walk43⟩
          case walk43 =>
            intro w K hK
            have HK := hide hK; clear hK
            have S := Same.refl w
            go_enter Oaag.func455, Oaag.ntmps455
            go_wp2_with (first | (refine mIsNaN _ _ _ ?_; (first | rewrite [h1] | rewrite [h2]); intro w1 s1; replace S := Same.trans S s1; clear s1) | (refine mIsInf _ (by assumption) _ _ ?_; (first | rewrite [h3] | rewrite [h5]); intro w1 s1; replace S := Same.trans S s1; clear s1) | (refine mNaN' _ _ ?_; intro w1 s1; replace S := Same.trans S s1; clear s1) | (refine upon_neg ?_; rewrite [Oper.upon_value]) | (refine unhide HM _ _ ?_; intro w1 s1; replace S := Same.trans S s1; clear s1) | (with_reducible refine upon_ex (Or.inl rfl) (unhide H0) ?_; intro w1 s1; replace S := Same.trans S s1; clear s1; rewrite [Oper.upon_value]) | (with_reducible refine upon_ex (Or.inl rfl) (unhide H1) ?_; intro w1 s1; replace S := Same.trans S s1; clear s1; rewrite [Oper.upon_value]) | (with_reducible refine upon_ex (Or.inr (Or.inl rfl)) (unhide H2) ?_; intro w1 s1; replace S := Same.trans S s1; clear s1; rewrite [Oper.upon_value]) | (with_reducible refine upon_ex (Or.inl rfl) (unhide H3) ?_; intro w1 s1; replace S := Same.trans S s1; clear s1; rewrite [Oper.upon_value]) | (with_reducible refine upon_ex (Or.inr (Or.inl rfl)) (unhide H4) ?_; intro w1 s1; replace S := Same.trans S s1; clear s1; rewrite [Oper.upon_value]))
            exact unhide HK _ S
          case hlt43 => exact neg_lt (lX1)
      | false =>
        have H1 := hide (fa_num (op := .mul) (by simp) num_half nY)
        have H2 := hide (sub_nn nX1.notNan nY)
        have H4 := hide (sub_nn (sub_nn nX1.notNan nY) nY)
        clear nX1 nY
        obtain ⟨c9b, c9⟩ : ∃ b, (FloatKind.f64.format.order X1 (fa .mul .f64 4602678819172646912 (Op.negFloat .f64 y)) == some .gt) = b := ⟨_, rfl⟩
        cases c9b with
        | true =>
          obtain ⟨c10b, c10⟩ : ∃ b, (FloatKind.f64.format.order (fa .sub .f64 X1 (Op.negFloat .f64 y)) (fa .mul .f64 4602678819172646912 (Op.negFloat .f64 y)) == some .gt || FloatKind.f64.format.order (fa .sub .f64 X1 (Op.negFloat .f64 y)) (fa .mul .f64 4602678819172646912 (Op.negFloat .f64 y)) == some .eq) = b := ⟨_, rfl⟩
          cases c10b with
          | true =>
            refine ⟨?c44, ?hlt44, ?walk44⟩
            case walk44 =>
              intro w K hK
              have HK := hide hK; clear hK
              have S := Same.refl w
              go_enter Oaag.func455, Oaag.ntmps455
              go_wp2_with (first | (refine mIsNaN _ _ _ ?_; (first | rewrite [h1] | rewrite [h2]); intro w1 s1; replace S := Same.trans S s1; clear s1) | (refine mIsInf _ (by assumption) _ _ ?_; (first | rewrite [h3] | rewrite [h5]); intro w1 s1; replace S := Same.trans S s1; clear s1) | (refine mNaN' _ _ ?_; intro w1 s1; replace S := Same.trans S s1; clear s1) | (refine upon_neg ?_; rewrite [Oper.upon_value]) | (refine unhide HM _ _ ?_; intro w1 s1; replace S := Same.trans S s1; clear s1) | (with_reducible refine upon_ex (Or.inl rfl) (unhide H0) ?_; intro w1 s1; replace S := Same.trans S s1; clear s1; rewrite [Oper.upon_value]) | (with_reducible refine upon_ex (Or.inr (Or.inr (Or.inl rfl))) (unhide H1) ?_; intro w1 s1; replace S := Same.trans S s1; clear s1; rewrite [Oper.upon_value]) | (with_reducible refine upon_ex (Or.inr (Or.inl rfl)) (unhide H2) ?_; intro w1 s1; replace S := Same.trans S s1; clear s1; rewrite [Oper.upon_value]) | (with_reducible refine upon_ex (Or.inr (Or.inl rfl)) (unhide H4) ?_; intro w1 s1; replace S := Same.trans S s1; clear s1; rewrite [Oper.upon_value]))
              exact unhide HK _ S
            case hlt44 => exact neg_lt (fa_lt _ _ _ _)
          | false =>
            refine ⟨?c45, ?hlt45, ?walk45⟩
            case walk45 =>
              intro w K hK
              have HK := hide hK; clear hK
              have S := Same.refl w
              go_enter Oaag.func455, Oaag.ntmps455
              go_wp2_with (first | (refine mIsNaN _ _ _ ?_; (first | rewrite [h1] | rewrite [h2]); intro w1 s1; replace S := Same.trans S s1; clear s1) | (refine mIsInf _ (by assumption) _ _ ?_; (first | rewrite [h3] | rewrite [h5]); intro w1 s1; replace S := Same.trans S s1; clear s1) | (refine mNaN' _ _ ?_; intro w1 s1; replace S := Same.trans S s1; clear s1) | (refine upon_neg ?_; rewrite [Oper.upon_value]) | (refine unhide HM _ _ ?_; intro w1 s1; replace S := Same.trans S s1; clear s1) | (with_reducible refine upon_ex (Or.inl rfl) (unhide H0) ?_; intro w1 s1; replace S := Same.trans S s1; clear s1; rewrite [Oper.upon_value]) | (with_reducible refine upon_ex (Or.inr (Or.inr (Or.inl rfl))) (unhide H1) ?_; intro w1 s1; replace S := Same.trans S s1; clear s1; rewrite [Oper.upon_value]) | (with_reducible refine upon_ex (Or.inr (Or.inl rfl)) (unhide H2) ?_; intro w1 s1; replace S := Same.trans S s1; clear s1; rewrite [Oper.upon_value]) | (with_reducible refine upon_ex (Or.inr (Or.inl rfl)) (unhide H4) ?_; intro w1 s1; replace S := Same.trans S s1; clear s1; rewrite [Oper.upon_value]))
              exact unhide HK _ S
            case hlt45 => exact neg_lt (fa_lt _ _ _ _)
        | false =>
          refine ⟨?c46, ?hlt46, ?walk46⟩
          case walk46 =>
            intro w K hK
            have HK := hide hK; clear hK
            have S := Same.refl w
            go_enter Oaag.func455, Oaag.ntmps455
            go_wp2_with (first | (refine mIsNaN _ _ _ ?_; (first | rewrite [h1] | rewrite [h2]); intro w1 s1; replace S := Same.trans S s1; clear s1) | (refine mIsInf _ (by assumption) _ _ ?_; (first | rewrite [h3] | rewrite [h5]); intro w1 s1; replace S := Same.trans S s1; clear s1) | (refine mNaN' _ _ ?_; intro w1 s1; replace S := Same.trans S s1; clear s1) | (refine upon_neg ?_; rewrite [Oper.upon_value]) | (refine unhide HM _ _ ?_; intro w1 s1; replace S := Same.trans S s1; clear s1) | (with_reducible refine upon_ex (Or.inl rfl) (unhide H0) ?_; intro w1 s1; replace S := Same.trans S s1; clear s1; rewrite [Oper.upon_value]) | (with_reducible refine upon_ex (Or.inr (Or.inr (Or.inl rfl))) (unhide H1) ?_; intro w1 s1; replace S := Same.trans S s1; clear s1; rewrite [Oper.upon_value]) | (with_reducible refine upon_ex (Or.inr (Or.inl rfl)) (unhide H2) ?_; intro w1 s1; replace S := Same.trans S s1; clear s1; rewrite [Oper.upon_value]) | (with_reducible refine upon_ex (Or.inr (Or.inl rfl)) (unhide H4) ?_; intro w1 s1; replace S := Same.trans S s1; clear s1; rewrite [Oper.upon_value]))
            exact unhide HK _ S
          case hlt46 => exact neg_lt (lX1)
    | false =>
      have nX1 := nX
      have lX1 := lX
      clear nX pX fY
      obtain ⟨c8b, c8⟩ : ∃ b, (FloatKind.f64.format.order (Op.negFloat .f64 y) 9007199254740992 == some .lt) = b := ⟨_, rfl⟩
      cases c8b with
      | true =>
        have H1 := hide (add_nn nX1.notNan)
        have H2 := hide (sub_nn nX1.notNan nY)
        have H3 := hide (add_nn (sub_nn nX1.notNan nY))
        have H4 := hide (sub_nn (sub_nn nX1.notNan nY) nY)
        clear nX1 nY
        obtain ⟨c9b, c9⟩ : ∃ b, (FloatKind.f64.format.order (fa .add .f64 (Op.negFloat .f64 x) (Op.negFloat .f64 x)) (Op.negFloat .f64 y) == some .gt) = b := ⟨_, rfl⟩
        cases c9b with
        | true =>
          obtain ⟨c10b, c10⟩ : ∃ b, (FloatKind.f64.format.order (fa .add .f64 (fa .sub .f64 (Op.negFloat .f64 x) (Op.negFloat .f64 y)) (fa .sub .f64 (Op.negFloat .f64 x) (Op.negFloat .f64 y))) (Op.negFloat .f64 y) == some .gt || FloatKind.f64.format.order (fa .add .f64 (fa .sub .f64 (Op.negFloat .f64 x) (Op.negFloat .f64 y)) (fa .sub .f64 (Op.negFloat .f64 x) (Op.negFloat .f64 y))) (Op.negFloat .f64 y) == some .eq) = b := ⟨_, rfl⟩
          cases c10b with
          | true =>
            refine ⟨?c47, ?hlt47, ?walk47⟩
            case walk47 =>
              intro w K hK
              have HK := hide hK; clear hK
              have S := Same.refl w
              go_enter Oaag.func455, Oaag.ntmps455
              go_wp2_with (first | (refine mIsNaN _ _ _ ?_; (first | rewrite [h1] | rewrite [h2]); intro w1 s1; replace S := Same.trans S s1; clear s1) | (refine mIsInf _ (by assumption) _ _ ?_; (first | rewrite [h3] | rewrite [h5]); intro w1 s1; replace S := Same.trans S s1; clear s1) | (refine mNaN' _ _ ?_; intro w1 s1; replace S := Same.trans S s1; clear s1) | (refine upon_neg ?_; rewrite [Oper.upon_value]) | (with_reducible refine upon_ex (Or.inl rfl) (unhide H1) ?_; intro w1 s1; replace S := Same.trans S s1; clear s1; rewrite [Oper.upon_value]) | (with_reducible refine upon_ex (Or.inr (Or.inl rfl)) (unhide H2) ?_; intro w1 s1; replace S := Same.trans S s1; clear s1; rewrite [Oper.upon_value]) | (with_reducible refine upon_ex (Or.inl rfl) (unhide H3) ?_; intro w1 s1; replace S := Same.trans S s1; clear s1; rewrite [Oper.upon_value]) | (with_reducible refine upon_ex (Or.inr (Or.inl rfl)) (unhide H4) ?_; intro w1 s1; replace S := Same.trans S s1; clear s1; rewrite [Oper.upon_value]))
              exact unhide HK _ S
            case hlt47 => exact neg_lt (fa_lt _ _ _ _)
          | false =>
            refine ⟨?c48, ?hlt48, ?walk48⟩
            case walk48 =>
              intro w K hK
              have HK := hide hK; clear hK
              have S := Same.refl w
              go_enter Oaag.func455, Oaag.ntmps455
              go_wp2_with (first | (refine mIsNaN _ _ _ ?_; (first | rewrite [h1] | rewrite [h2]); intro w1 s1; replace S := Same.trans S s1; clear s1) | (refine mIsInf _ (by assumption) _ _ ?_; (first | rewrite [h3] | rewrite [h5]); intro w1 s1; replace S := Same.trans S s1; clear s1) | (refine mNaN' _ _ ?_; intro w1 s1; replace S := Same.trans S s1; clear s1) | (refine upon_neg ?_; rewrite [Oper.upon_value]) | (with_reducible refine upon_ex (Or.inl rfl) (unhide H1) ?_; intro w1 s1; replace S := Same.trans S s1; clear s1; rewrite [Oper.upon_value]) | (with_reducible refine upon_ex (Or.inr (Or.inl rfl)) (unhide H2) ?_; intro w1 s1; replace S := Same.trans S s1; clear s1; rewrite [Oper.upon_value]) | (with_reducible refine upon_ex (Or.inl rfl) (unhide H3) ?_; intro w1 s1; replace S := Same.trans S s1; clear s1; rewrite [Oper.upon_value]) | (with_reducible refine upon_ex (Or.inr (Or.inl rfl)) (unhide H4) ?_; intro w1 s1; replace S := Same.trans S s1; clear s1; rewrite [Oper.upon_value]))
              exact unhide HK _ S
            case hlt48 => exact neg_lt (fa_lt _ _ _ _)
        | false =>
          refine ⟨?c49, ?hlt49, ?walk49⟩
          case walk49 =>
            intro w K hK
            have HK := hide hK; clear hK
            have S := Same.refl w
            go_enter Oaag.func455, Oaag.ntmps455
            go_wp2_with (first | (refine mIsNaN _ _ _ ?_; (first | rewrite [h1] | rewrite [h2]); intro w1 s1; replace S := Same.trans S s1; clear s1) | (refine mIsInf _ (by assumption) _ _ ?_; (first | rewrite [h3] | rewrite [h5]); intro w1 s1; replace S := Same.trans S s1; clear s1) | (refine mNaN' _ _ ?_; intro w1 s1; replace S := Same.trans S s1; clear s1) | (refine upon_neg ?_; rewrite [Oper.upon_value]) | (with_reducible refine upon_ex (Or.inl rfl) (unhide H1) ?_; intro w1 s1; replace S := Same.trans S s1; clear s1; rewrite [Oper.upon_value]) | (with_reducible refine upon_ex (Or.inr (Or.inl rfl)) (unhide H2) ?_; intro w1 s1; replace S := Same.trans S s1; clear s1; rewrite [Oper.upon_value]) | (with_reducible refine upon_ex (Or.inl rfl) (unhide H3) ?_; intro w1 s1; replace S := Same.trans S s1; clear s1; rewrite [Oper.upon_value]) | (with_reducible refine upon_ex (Or.inr (Or.inl rfl)) (unhide H4) ?_; intro w1 s1; replace S := Same.trans S s1; clear s1; rewrite [Oper.upon_value]))
            exact unhide HK _ S
          case hlt49 => exact neg_lt (lX1)
      | false =>
        have H1 := hide (fa_num (op := .mul) (by simp) num_half nY)
        have H2 := hide (sub_nn nX1.notNan nY)
        have H4 := hide (sub_nn (sub_nn nX1.notNan nY) nY)
        clear nX1 nY
        obtain ⟨c9b, c9⟩ : ∃ b, (FloatKind.f64.format.order (Op.negFloat .f64 x) (fa .mul .f64 4602678819172646912 (Op.negFloat .f64 y)) == some .gt) = b := ⟨_, rfl⟩
        cases c9b with
        | true =>
          obtain ⟨c10b, c10⟩ : ∃ b, (FloatKind.f64.format.order (fa .sub .f64 (Op.negFloat .f64 x) (Op.negFloat .f64 y)) (fa .mul .f64 4602678819172646912 (Op.negFloat .f64 y)) == some .gt || FloatKind.f64.format.order (fa .sub .f64 (Op.negFloat .f64 x) (Op.negFloat .f64 y)) (fa .mul .f64 4602678819172646912 (Op.negFloat .f64 y)) == some .eq) = b := ⟨_, rfl⟩
          cases c10b with
          | true =>
            refine ⟨?c50, ?hlt50, ?walk50⟩
            case walk50 =>
              intro w K hK
              have HK := hide hK; clear hK
              have S := Same.refl w
              go_enter Oaag.func455, Oaag.ntmps455
              go_wp2_with (first | (refine mIsNaN _ _ _ ?_; (first | rewrite [h1] | rewrite [h2]); intro w1 s1; replace S := Same.trans S s1; clear s1) | (refine mIsInf _ (by assumption) _ _ ?_; (first | rewrite [h3] | rewrite [h5]); intro w1 s1; replace S := Same.trans S s1; clear s1) | (refine mNaN' _ _ ?_; intro w1 s1; replace S := Same.trans S s1; clear s1) | (refine upon_neg ?_; rewrite [Oper.upon_value]) | (with_reducible refine upon_ex (Or.inr (Or.inr (Or.inl rfl))) (unhide H1) ?_; intro w1 s1; replace S := Same.trans S s1; clear s1; rewrite [Oper.upon_value]) | (with_reducible refine upon_ex (Or.inr (Or.inl rfl)) (unhide H2) ?_; intro w1 s1; replace S := Same.trans S s1; clear s1; rewrite [Oper.upon_value]) | (with_reducible refine upon_ex (Or.inr (Or.inl rfl)) (unhide H4) ?_; intro w1 s1; replace S := Same.trans S s1; clear s1; rewrite [Oper.upon_value]))
              exact unhide HK _ S
            case hlt50 => exact neg_lt (fa_lt _ _ _ _)
          | false =>
            refine ⟨?c51, ?hlt51, ?walk51⟩
            case walk51 =>
              intro w K hK
              have HK := hide hK; clear hK
              have S := Same.refl w
              go_enter Oaag.func455, Oaag.ntmps455
              go_wp2_with (first | (refine mIsNaN _ _ _ ?_; (first | rewrite [h1] | rewrite [h2]); intro w1 s1; replace S := Same.trans S s1; clear s1) | (refine mIsInf _ (by assumption) _ _ ?_; (first | rewrite [h3] | rewrite [h5]); intro w1 s1; replace S := Same.trans S s1; clear s1) | (refine mNaN' _ _ ?_; intro w1 s1; replace S := Same.trans S s1; clear s1) | (refine upon_neg ?_; rewrite [Oper.upon_value]) | (with_reducible refine upon_ex (Or.inr (Or.inr (Or.inl rfl))) (unhide H1) ?_; intro w1 s1; replace S := Same.trans S s1; clear s1; rewrite [Oper.upon_value]) | (with_reducible refine upon_ex (Or.inr (Or.inl rfl)) (unhide H2) ?_; intro w1 s1; replace S := Same.trans S s1; clear s1; rewrite [Oper.upon_value]) | (with_reducible refine upon_ex (Or.inr (Or.inl rfl)) (unhide H4) ?_; intro w1 s1; replace S := Same.trans S s1; clear s1; rewrite [Oper.upon_value]))
              exact unhide HK _ S
            case hlt51 => exact neg_lt (fa_lt _ _ _ _)
        | false =>
          refine ⟨?c52, ?hlt52, ?walk52⟩
          case walk52 =>
            intro w K hK
            have HK := hide hK; clear hK
            have S := Same.refl w
            go_enter Oaag.func455, Oaag.ntmps455
            go_wp2_with (first | (refine mIsNaN _ _ _ ?_; (first | rewrite [h1] | rewrite [h2]); intro w1 s1; replace S := Same.trans S s1; clear s1) | (refine mIsInf _ (by assumption) _ _ ?_; (first | rewrite [h3] | rewrite [h5]); intro w1 s1; replace S := Same.trans S s1; clear s1) | (refine mNaN' _ _ ?_; intro w1 s1; replace S := Same.trans S s1; clear s1) | (refine upon_neg ?_; rewrite [Oper.upon_value]) | (with_reducible refine upon_ex (Or.inr (Or.inr (Or.inl rfl))) (unhide H1) ?_; intro w1 s1; replace S := Same.trans S s1; clear s1; rewrite [Oper.upon_value]) | (with_reducible refine upon_ex (Or.inr (Or.inl rfl)) (unhide H2) ?_; intro w1 s1; replace S := Same.trans S s1; clear s1; rewrite [Oper.upon_value]) | (with_reducible refine upon_ex (Or.inr (Or.inl rfl)) (unhide H4) ?_; intro w1 s1; replace S := Same.trans S s1; clear s1; rewrite [Oper.upon_value]))
            exact unhide HK _ S
          case hlt52 => exact neg_lt (lX1)

theorem mrem (x y : Nat) (hx : x < 2 ^ FloatKind.f64.format.width) (hy : y < 2 ^ FloatKind.f64.format.width) : ∃ c, c < 2 ^ FloatKind.f64.format.width ∧ NRet 455 #[.float .f64 x, .float .f64 y] (.float .f64 c) := by
  obtain ⟨b1, h1⟩ : ∃ b, (FloatKind.f64.format.read x).isNaN = b := ⟨_, rfl⟩
  obtain ⟨b2, h2⟩ : ∃ b, (FloatKind.f64.format.read y).isNaN = b := ⟨_, rfl⟩
  obtain ⟨b3, h3⟩ : ∃ b, isInf x = b := ⟨_, rfl⟩
  obtain ⟨b4, h4⟩ : ∃ b, (FloatKind.f64.format.order y 0 == some .eq) = b := ⟨_, rfl⟩
  obtain ⟨b5, h5⟩ : ∃ b, isInf y = b := ⟨_, rfl⟩
  cases b1 with
  | true =>
    refine ⟨9221120237041090561, by decide, ?_⟩
    intro w K hK
    have HK := hide hK; clear hK
    have S := Same.refl w
    go_enter Oaag.func455, Oaag.ntmps455
    go_wp2_with (first | (refine mIsNaN _ _ _ ?_; (first | rewrite [h1] | rewrite [h2]); intro w1 s1; replace S := Same.trans S s1; clear s1) | (refine mIsInf _ (by assumption) _ _ ?_; (first | rewrite [h3] | rewrite [h5]); intro w1 s1; replace S := Same.trans S s1; clear s1) | (refine mNaN' _ _ ?_; intro w1 s1; replace S := Same.trans S s1; clear s1))
    exact unhide HK _ S
  | false =>
    cases b2 with
    | true =>
      refine ⟨9221120237041090561, by decide, ?_⟩
      intro w K hK
      have HK := hide hK; clear hK
      have S := Same.refl w
      go_enter Oaag.func455, Oaag.ntmps455
      go_wp2_with (first | (refine mIsNaN _ _ _ ?_; (first | rewrite [h1] | rewrite [h2]); intro w1 s1; replace S := Same.trans S s1; clear s1) | (refine mIsInf _ (by assumption) _ _ ?_; (first | rewrite [h3] | rewrite [h5]); intro w1 s1; replace S := Same.trans S s1; clear s1) | (refine mNaN' _ _ ?_; intro w1 s1; replace S := Same.trans S s1; clear s1))
      exact unhide HK _ S
    | false =>
      cases b3 with
      | true =>
        refine ⟨9221120237041090561, by decide, ?_⟩
        intro w K hK
        have HK := hide hK; clear hK
        have S := Same.refl w
        go_enter Oaag.func455, Oaag.ntmps455
        go_wp2_with (first | (refine mIsNaN _ _ _ ?_; (first | rewrite [h1] | rewrite [h2]); intro w1 s1; replace S := Same.trans S s1; clear s1) | (refine mIsInf _ (by assumption) _ _ ?_; (first | rewrite [h3] | rewrite [h5]); intro w1 s1; replace S := Same.trans S s1; clear s1) | (refine mNaN' _ _ ?_; intro w1 s1; replace S := Same.trans S s1; clear s1))
        exact unhide HK _ S
      | false =>
        cases b4 with
        | true =>
          refine ⟨9221120237041090561, by decide, ?_⟩
          intro w K hK
          have HK := hide hK; clear hK
          have S := Same.refl w
          go_enter Oaag.func455, Oaag.ntmps455
          go_wp2_with (first | (refine mIsNaN _ _ _ ?_; (first | rewrite [h1] | rewrite [h2]); intro w1 s1; replace S := Same.trans S s1; clear s1) | (refine mIsInf _ (by assumption) _ _ ?_; (first | rewrite [h3] | rewrite [h5]); intro w1 s1; replace S := Same.trans S s1; clear s1) | (refine mNaN' _ _ ?_; intro w1 s1; replace S := Same.trans S s1; clear s1))
          exact unhide HK _ S
        | false =>
          cases b5 with
          | true =>
            refine ⟨x, hx, ?_⟩
            intro w K hK
            have HK := hide hK; clear hK
            have S := Same.refl w
            go_enter Oaag.func455, Oaag.ntmps455
            go_wp2_with (first | (refine mIsNaN _ _ _ ?_; (first | rewrite [h1] | rewrite [h2]); intro w1 s1; replace S := Same.trans S s1; clear s1) | (refine mIsInf _ (by assumption) _ _ ?_; (first | rewrite [h3] | rewrite [h5]); intro w1 s1; replace S := Same.trans S s1; clear s1) | (refine mNaN' _ _ ?_; intro w1 s1; replace S := Same.trans S s1; clear s1))
            exact unhide HK _ S
          | false =>
            have nx := num_of hx h1 h3
            have ny := num_of hy h2 h5
            have ypos : (FloatKind.f64.format.order y 0 == some .lt) = false → Fin64 y ∧ 0 < y := fun hs => by
              rcases num_pos hy ny hs with hf | rfl
              · refine ⟨hf, ?_⟩
                rcases Nat.eq_zero_or_pos y with h0 | h0
                · exfalso; subst h0; exact absurd h4 (by decide)
                · exact h0
              · exact absurd h4 (by decide)
            have pneg : ∀ {v : Nat}, Fin64 v → (FloatKind.f64.format.order v 0 == some .lt) = false := fun {v} hf => by
              cases hq : (FloatKind.f64.format.order v 0 == some .lt) with
              | false => rfl
              | true =>
                have := (order_val hf (y := 0) (by unfold Fin64; omega)).1.1 hq
                rw [val_zero] at this; omega
            obtain ⟨sx, hsx⟩ : ∃ b, (FloatKind.f64.format.order x 0 == some .lt) = b := ⟨_, rfl⟩
            obtain ⟨sy, hsy⟩ : ∃ b, (FloatKind.f64.format.order y 0 == some .lt) = b := ⟨_, rfl⟩
            cases sx with
            | false =>
              cases sy with
              | false =>
                obtain ⟨fy, y0⟩ := ypos hsy
                exact remPP x y hx hy h1 h2 h3 h4 h5 hsx hsy hx nx hsx fy y0 ny
              | true =>
                obtain ⟨fy, y0⟩ := num_neg hy ny hsy
                exact remPN x y hx hy h1 h2 h3 h4 h5 hsx hsy hx nx hsx fy y0 fy.num
            | true =>
              obtain ⟨fx, x0⟩ := num_neg hx nx hsx
              cases sy with
              | false =>
                obtain ⟨fy, y0⟩ := ypos hsy
                exact remNP x y hx hy h1 h2 h3 h4 h5 hsx hsy fx.lt fx.num (pneg fx) fy y0 ny
              | true =>
                obtain ⟨fy, y0⟩ := num_neg hy ny hsy
                exact remNN x y hx hy h1 h2 h3 h4 h5 hsx hsy fx.lt fx.num (pneg fx) fy y0 fy.num
theorem mRem (x y : Nat) (hx : x < 2 ^ FloatKind.f64.format.width) (hy : y < 2 ^ FloatKind.f64.format.width) : ∃ c, c < 2 ^ FloatKind.f64.format.width ∧ NRet 442 #[.float .f64 x, .float .f64 y] (.float .f64 c) := by
  obtain ⟨c, hc, hr⟩ := mrem x y hx hy
  refine ⟨c, hc, ?_⟩
  have HR := hide hr
  clear hr
  intro w K hK
  have HK := hide hK; clear hK
  have S := Same.refl w
  go_enter Oaag.func442, Oaag.ntmps442
  go_wp2_with (first | (refine (unhide HR) _ _ ?_; intro w1 s1; replace S := Same.trans S s1; clear s1))
  exact unhide HK _ S

theorem nRem (x y : Nat) (hx : x < 2 ^ FloatKind.f64.format.width) (hy : y < 2 ^ FloatKind.f64.format.width) : ∃ c, c < 2 ^ FloatKind.f64.format.width ∧ NRet 427 #[.float .f64 x, .float .f64 y] (.float .f64 c) := by
  obtain ⟨c, hc, hr⟩ := mRem x y hx hy
  refine ⟨c, hc, ?_⟩
  have HR := hide hr
  clear hr
  intro w K hK
  have HK := hide hK; clear hK
  have S := Same.refl w
  go_enter Oaag.func427, Oaag.ntmps427
  go_wp2_with (first | (refine (unhide HR) _ _ ?_; intro w1 s1; replace S := Same.trans S s1; clear s1))
  exact unhide HK _ S

theorem rem64_ex (a b : Int) (ha : U64 a) (hb : U64 b) : ∃ r : Nat, U64 r ∧ NRet 387 #[.int .u64 a, .int .u64 b] (.int .u64 r) := by
  obtain ⟨c, hc, hr⟩ := nRem a.toNat b.toNat (toNat64 ha) (toNat64 hb)
  have hl := Like.self hc
  refine ⟨put .f64 c, u64_put hc, ?_⟩
  have HR := hide hr
  clear hr
  intro w K hK
  have HK := hide hK; clear hK
  have S := Same.refl w
  go_enter Oaag.func387, Oaag.ntmps387
  go_wp2_with (first | (refine from64_is _ _ _ ?_; intro w1 s1; replace S := Same.trans S s1; clear s1) | (refine (unhide HR) _ _ ?_; intro w1 s1; replace S := Same.trans S s1; clear s1) | (refine put64_is _ _ (by assumption) _ _ ?_; intro w1 s1; replace S := Same.trans S s1; clear s1))
  exact unhide HK _ S


end Go.Proofs.YgcoaaGreat.NatW
