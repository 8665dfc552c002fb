/-
  Package exact: unitsOf.
-/
import Derived.Test.YgcoaaGreatLgB
import Derived.Test.YgcoaaGreatRatE
set_option linter.unusedVariables false
set_option linter.unusedSimpArgs false
set_option maxRecDepth 20000
namespace Go.Proofs.YgcoaaGreat.NatW
open Go.RowKit
open Go.Proofs.YgcoaaGreat.Limbs Go.Proofs.YgcoaaGreat.Bits
attribute [local go_sem] Go.Instr.field Go.asAgg


/-- Two products that are wanted. -/
theorem lenP {x y a b : Nat} (h1 : (lim x).length ≤ a) (h2 : (lim y).length ≤ b) : (lim (x * y)).length ≤ a + b := by have := lenM x y; omega

def UnR (k : Int) (xN : Nat) (v : Value) (w : World) : Prop := ∃ a c n, v = .slice a (lim n).length c ∧ Res 0 w a c n ∧ n ≤ xN * tD k + 1
set_option maxHeartbeats 2000000 in
theorem unitsOf_run (w : World) (neg : Bool) (aN : Option Addr) (cN xN : Nat) (aD : Option Addr) (cD xD : Nat) (k : Int) (hk1 : -65536 < k) (hk2 : k < 65536) (s1 : Sl w aN cN (lim xN)) (s2 : Sl w aD cD (lim xD)) (hF : FrOs xN xD) (ht : w.tape = fun _ _ => 0) :
    Calls Oaag.prog 326 #[.agg #[.bool neg, .slice aN (lim xN).length cN, .slice aD (lim xD).length cD], .int .i64 k] w fun e w' => ∃ v, e = .returned v ∧ UnR k xN v w' ∧ Below w.heap.size w w' := by
  obtain ⟨f0, f1, f2⟩ := hF
  have H1 := hide s1
  have H2 := hide s2
  have HT := hide ht
  clear s1 s2 ht
  obtain ⟨len1, len2⟩ := len10k k hk1 hk2
  have M1 : True := trivial
  go_enter Oaag.func326, Oaag.ntmps326
  go_wp2_with (first
    | (with_reducible refine at_fn 398 ?_
       refine gen_calls ?_
       intro W hW
       have S : LgS w neg aN cN xN aD cD xD W := by
         rw [← hW]
         have hb := (Below.refl w.heap.size w).alloc (Nat.le_refl _) (.cells #[.bool neg, .slice aN (lim xN).length cN, .slice aD (lim xD).length cD] 67)
         exact ⟨(unhide H1).later hb, (unhide H2).later hb, unhide HT, row_new _ _ _ rfl, hb⟩
       clear hW H1 H2 HT
       refine (tenTo_any W k (by omega) (by omega)).mono ?_
       rintro _ W2 ⟨_, rfl, ⟨tn, tc, td, te, rfl, hres1, hres2⟩, hb⟩
       have S2 := S.later hb
       clear S hb)
    | (with_reducible refine at_reg 2 ?_
       refine gen_wp ?_
       intro W3 hW
       have hbw : Below W2.heap.size W2 W3 := by rw [← hW]; exact (Below.refl _ _).alloc (Nat.le_refl _) _
       have r5 : W3.heap[W2.heap.size]? = some (.cells #[.bool false, .slice tn (lim (tN k)).length tc, .slice td (lim (tD k)).length te] 67 (0, 0)) := by rw [← hW]; exact row_new _ _ _ rfl
       have S3 := S2.later (hbw.trans (drew_bel W3 |>.mono hbw.size))
       have hres1' := hres1.later (hbw.trans (drew_bel W3 |>.mono hbw.size))
       have hres2' := hres2.later (hbw.trans (drew_bel W3 |>.mono hbw.size))
       have hlt5 : W2.heap.size < W3.heap.size := (Array.getElem?_eq_some_iff.1 r5).1
       have htp : W3.tape = fun _ _ => 0 := hbw.tape.trans S2.tape
       clear hW S2 hres1 hres2 hbw
       have k1 := cellr S3.row 1 _ rfl
       have k2 := cellr S3.row 2 _ rfl
       have j1 := cellr (W := W3.drew) r5 1 _ rfl
       have j2 := cellr (W := W3.drew) r5 2 _ rfl
       refine wp_region_zero_list htp (by kernel_rfl) ?_)
    | (with_reducible refine at_fn 27 ?_
       have M1' := M1
       refine (mul_any _ aN cN (lim xN) xN (val_lim _) S3.s1 td te (lim (tD k)) (tD k) (val_lim _) hres2'.sl (by omega)).mono ?_
       rintro _ W4 ⟨a1, cap1, rfl, hp1, hb⟩
       have S4 := S3.later hb
       have hres1 := hres1'.later hb
       have r5' : W4.heap[W2.heap.size]? = _ := (hb.block _ (show W2.heap.size < W3.heap.size from hlt5)).trans r5
       clear M1 M1' k1 k2 j1 j2 S3 hb hres1' hres2' r5
       have k1 := cellr S4.row 1 _ rfl
       have k2 := cellr S4.row 2 _ rfl
       have j1 := cellr r5' 1 _ rfl
       have j2 := cellr r5' 2 _ rfl)
    | (with_reducible refine at_fn 27 ?_
       refine (mul_any _ aD cD (lim xD) xD (val_lim _) S4.s2 tn tc (lim (tN k)) (tN k) (val_lim _) hres1.sl (by omega)).mono ?_
       rintro _ W5 ⟨a2, cap2, rfl, hp2, hb⟩
       have S5 := S4.later hb
       have hp1' := hp1.later hb
       have l1 := lenP f1 len2
       have l2 := lenP f2 len1
       clear S4 hb hp1 hres1 r5' k1 k2 j1 j2)
    | (with_reducible refine at_fn 352 ?_
       obtain ⟨n, hn, hR⟩ := raised_any 0 false (xN * tD k) (xD * tN k) (by omega) (by omega)
       refine (hR _ a1 cap1 hp1'.sl a2 cap2 hp2.sl).mono ?_
       rintro _ W6 ⟨a3, c3, rfl, hp3, hb⟩
       have S6 := S5.later hb
       clear S5 hb hp1' hp2 hR)
    | fail)
  all_goals
    go_ret
    have hb := (Below.refl W6.heap.size W6).alloc (Nat.le_refl _) (.cells #[.int .i8 (flH (xN * tD k) (xD * tN k)), .bool (flS (xN * tD k) (xD * tN k))] 280)
    exact ⟨_, rfl, ⟨a3, c3, n, rfl, (hp3.later hb).lower (Nat.zero_le _), hn⟩, (S6.later hb).below⟩
end Go.Proofs.YgcoaaGreat.NatW
