/-
  Package exact: floorAt.
-/
import Derived.Test.YgcoaaGreatUnA
import Derived.Test.YgcoaaGreatDoA
set_option linter.unusedVariables false
set_option linter.unusedSimpArgs false
set_option maxRecDepth 20000
namespace Go.Proofs.YgcoaaGreat.NatW
open Go.RowKit
open Go.Proofs.YgcoaaGreat.Limbs Go.Proofs.YgcoaaGreat.Bits
attribute [local go_sem] Go.Instr.field Go.asAgg


def FlR (v : Value) : Prop := ∃ (x h : Int) (b : Bool), v = .tuple #[.int .i64 x, .agg #[.int .i8 h, .bool b]] ∧ -9223372036854775808 ≤ x ∧ x ≤ 9223372036854775807
set_option maxHeartbeats 2000000 in
theorem floorAt_run (w : World) (neg : Bool) (aN : Option Addr) (cN xN : Nat) (aD : Option Addr) (cD xD : Nat) (k : Int) (hk1 : -65536 < k) (hk2 : k < 65536) (s1 : Sl w aN cN (lim xN)) (s2 : Sl w aD cD (lim xD)) (hF : FrOs xN xD) (ht : w.tape = fun _ _ => 0) :
    Calls Oaag.prog 303 #[.agg #[.bool neg, .slice aN (lim xN).length cN, .slice aD (lim xD).length cD], .int .i64 k] w fun e w' => ∃ v, e = .returned v ∧ FlR v ∧ Below w.heap.size w w' := by
  obtain ⟨f0, f1, f2⟩ := hF
  have H1 := hide s1
  have H2 := hide s2
  have HT := hide ht
  clear s1 s2 ht
  obtain ⟨len1, len2⟩ := len10k k hk1 hk2
  have M1 : True := trivial
  go_enter Oaag.func303, Oaag.ntmps303
  go_wp2_with (first
    | (with_reducible refine at_fn 398 ?_
       refine gen_calls ?_
       intro W hW
       have S : LgS w neg aN cN xN aD cD xD W := by
         rw [← hW]
         have hb := ((Below.refl w.heap.size w).alloc (Nat.le_refl _) (.cells #[.bool neg, .slice aN (lim xN).length cN, .slice aD (lim xD).length cD] 67)).alloc (by rw [size_new]; omega) (.cells #[.int .i8 0, .bool false] 280)
         exact ⟨(unhide H1).later hb, (unhide H2).later hb, unhide HT, row_old (row_new _ _ _ rfl), hb⟩
       have q0 : W.heap[w.heap.size + 1]? = some (.cells #[.int .i8 0, .bool false] 280 (0, 0)) := by rw [← hW]; exact row_new _ _ _ (size_new _ _)
       clear hW H1 H2 HT
       refine (tenTo_any W k (by omega) (by omega)).mono ?_
       rintro _ W2 ⟨_, rfl, ⟨tn, tc, td, te, rfl, hres1, hres2⟩, hb⟩
       have S2 := S.later hb
       have q2 := (hb.block _ (Array.getElem?_eq_some_iff.1 q0).1).trans q0
       clear q0
       clear S hb)
    | (with_reducible refine at_reg 2 ?_
       refine gen_wp ?_
       intro W3 hW
       have hbw : Below W2.heap.size W2 W3 := by rw [← hW]; exact (Below.refl _ _).alloc (Nat.le_refl _) _
       have r5 : W3.heap[W2.heap.size]? = some (.cells #[.bool false, .slice tn (lim (tN k)).length tc, .slice td (lim (tD k)).length te] 67 (0, 0)) := by rw [← hW]; exact row_new _ _ _ rfl
       have S3 := S2.later (hbw.trans (drew_bel W3 |>.mono hbw.size))
       have hres1' := hres1.later (hbw.trans (drew_bel W3 |>.mono hbw.size))
       have hres2' := hres2.later (hbw.trans (drew_bel W3 |>.mono hbw.size))
       have q3 : W3.drew.heap[w.heap.size + 1]? = _ := (hbw.block _ (Array.getElem?_eq_some_iff.1 q2).1).trans q2
       clear q2
       have hlt5 : W2.heap.size < W3.heap.size := (Array.getElem?_eq_some_iff.1 r5).1
       have htp : W3.tape = fun _ _ => 0 := hbw.tape.trans S2.tape
       clear hW S2 hres1 hres2 hbw
       have k1 := cellr S3.row 1 _ rfl
       have k2 := cellr S3.row 2 _ rfl
       have j1 := cellr (W := W3.drew) r5 1 _ rfl
       have j2 := cellr (W := W3.drew) r5 2 _ rfl
       refine wp_region_zero_list htp (by kernel_rfl) ?_)
    | (with_reducible refine at_fn 27 ?_
       have M1' := M1
       refine (mul_any _ aN cN (lim xN) xN (val_lim _) S3.s1 td te (lim (tD k)) (tD k) (val_lim _) hres2'.sl (by omega)).mono ?_
       rintro _ W4 ⟨a1, cap1, rfl, hp1, hb⟩
       have S4 := S3.later hb
       have hres1 := hres1'.later hb
       have r5' : W4.heap[W2.heap.size]? = _ := (hb.block _ (show W2.heap.size < W3.heap.size from hlt5)).trans r5
       have q4 := (hb.block _ (Array.getElem?_eq_some_iff.1 q3).1).trans q3
       clear q3
       clear M1 M1' k1 k2 j1 j2 S3 hb hres1' hres2' r5
       have k1 := cellr S4.row 1 _ rfl
       have k2 := cellr S4.row 2 _ rfl
       have j1 := cellr r5' 1 _ rfl
       have j2 := cellr r5' 2 _ rfl)
    | (with_reducible refine at_fn 27 ?_
       refine (mul_any _ aD cD (lim xD) xD (val_lim _) S4.s2 tn tc (lim (tN k)) (tN k) (val_lim _) hres1.sl (by omega)).mono ?_
       rintro _ W5 ⟨a2, cap2, rfl, hp2, hb⟩
       have S5 := S4.later hb
       have hp1' := hp1.later hb
       have l1 := lenP f1 len2
       have l2 := lenP f2 len1
       have q5 := (hb.block _ (Array.getElem?_eq_some_iff.1 q4).1).trans q4
       clear q4
       clear S4 hb hp1 hres1 r5' k1 k2 j1 j2)
    | (with_reducible refine at_fn 334 ?_
       refine (floor_any _ a1 cap1 (xN * tD k) hp1'.sl a2 cap2 (xD * tN k) hp2.sl (by omega) (by omega)).mono ?_
       rintro _ W6 ⟨a3, c3, rfl, hp3, hb⟩
       have S6 := S5.later hb
       have q6 := (hb.block _ (Array.getElem?_eq_some_iff.1 q5).1).trans q5
       clear S5 hb hp1' hp2 q5)
    | (with_reducible refine at_reg 3 ?_
       refine gen_wp ?_
       intro W7 hW
       have hbw : Below W6.heap.size W6 W7 := by rw [← hW]; exact (Below.refl _ _).alloc (Nat.le_refl _) _
       have r8 : W7.drew.heap[W6.heap.size]? = some (.cells #[.int .i8 (flH (xN * tD k) (xD * tN k)), .bool (flS (xN * tD k) (xD * tN k))] 280 (0, 0)) := by rw [← hW]; exact row_new _ _ _ rfl
       have q7 : W7.drew.heap[w.heap.size + 1]? = _ := (hbw.block _ (Array.getElem?_eq_some_iff.1 q6).1).trans q6
       have S7 := S6.later (hbw.trans (drew_bel W7 |>.mono hbw.size))
       have hp7 := hp3.later (hbw.trans (drew_bel W7 |>.mono hbw.size))
       have htq : W7.tape = fun _ _ => 0 := hbw.tape.trans S6.tape
       clear hW hbw q6 S6 hp3
       have u0 := cellr r8 0 _ rfl
       have u1 := cellr r8 1 _ rfl
       have v0 := cellr q7 0 _ rfl
       have v1 := cellr q7 1 _ rfl
       have vf := frzr q7
       refine wp_region_zero_list htq (by kernel_rfl) ?_
       generalize W7.drew = W8 at *)
    | (with_reducible refine at_fn 335 ?_
       refine (toU64_u _ (by have := lim_length_mono _ _ (dq_le (xN * tD k) (xD * tN k)); omega) _ _ _ hp7.sl).mono ?_
       rintro _ _ ⟨r, rfl, hr, rfl⟩
       clear hp7)
    | fail)
  all_goals
    refine bodyPost_ret (v := .tuple #[.int .i64 (wrap64 r), .agg #[.int .i8 (flH (xN * tD k) (xD * tN k)), .bool (flS (xN * tD k) (xD * tN k))]]) (by simp [results, Oaag.results303, go_sem, v0, v1]) rfl ⟨_, rfl, ⟨_, _, _, rfl, ?_, ?_⟩, ?_⟩
    · unfold wrap64; omega
    · unfold wrap64; omega
    · exact below_store (below_store S7.below (by omega) _) (by omega) _
end Go.Proofs.YgcoaaGreat.NatW
