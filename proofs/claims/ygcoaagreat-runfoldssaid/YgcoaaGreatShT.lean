/-
  Package exact: Shortest.
-/
import Derived.Test.YgcoaaGreatDiA
import Derived.Test.YgcoaaGreatCuA
import Derived.Test.YgcoaaGreatCdA
set_option linter.unusedVariables false
set_option linter.unusedSimpArgs false
set_option maxRecDepth 20000
namespace Go.Proofs.YgcoaaGreat.NatW
open Go.RowKit
open Go.Proofs.YgcoaaGreat.Det
open Go.Proofs.YgcoaaGreat.Limbs Go.Proofs.YgcoaaGreat.Bits
attribute [local go_sem] Go.Instr.field Go.asAgg


/-- A decimal in memory's order. -/
def DecV (v : Value) : Prop := ∃ (n : Bool) (d : ByteArray) (e : Int), v = .agg #[.bool n, .string d, .int .i16 e] ∧ d.size ≤ 1000 ∧ -32768 ≤ e ∧ e ≤ 32767
theorem canon_v {d : ByteArray} {e : Int} (n : Bool) (h : Canon d e) : DecV (.agg #[.bool n, .string d, .int .i16 e]) := ⟨n, d, e, rfl, by rcases h with h | h <;> omega, by rcases h with h | h <;> omega, by rcases h with h | h <;> omega⟩
def pz (n : Nat) : Nat := 10 ^ (17 - n)
theorem pz_next (n : Nat) (h : n ≤ 16) : pz n / 10 = pz (n + 1) := by
  unfold pz
  rw [show 17 - n = 17 - (n + 1) + 1 by omega, Nat.pow_succ]
  exact Nat.mul_div_cancel _ (by decide)
theorem pz_bd (n : Nat) (h : 1 ≤ n) : 1 ≤ pz n ∧ pz n ≤ 10000000000000000 := by
  unfold pz
  refine ⟨Nat.pow_pos (by decide), ?_⟩
  exact Nat.le_trans (Nat.pow_le_pow_right (by decide) (show 17 - n ≤ 16 by omega)) (by decide)
/-- The boxes of Shortest: format, answer, operand, rest. -/
structure ShS (tb : Nat) (w : World) (E M : Nat) (b : Int) (n : Bool) (c : Int) (vn : Bool) (num den : Value) (B5 B8 : Nat) (h : Int) (q : Bool) (W : World) : Prop where
  on : On tb W
  tape : W.tape = fun _ _ => 0
  h0 : W.heap[w.heap.size]? = some (.cells #[.int .u8 E, .int .u8 M] 23 (0, 0))
  h1 : W.heap[w.heap.size + 1]? = some (.cells #[.bool false, .string ⟨#[]⟩, .int .i16 0] 74 (0, 0))
  h5 : W.heap[B5]? = some (.cells #[.int .u64 b, .bool n, .int .i8 c, .bool vn, num, den] 236 (0, 0))
  h8 : W.heap[B8]? = some (.cells #[.int .i8 h, .bool q] 280 (0, 0))
theorem ShS.later {tb : Nat} {w : World} {E M : Nat} {b : Int} {n : Bool} {c : Int} {vn : Bool} {num den : Value} {B5 B8 : Nat} {h : Int} {q : Bool} {W W' : World} (S : ShS tb w E M b n c vn num den B5 B8 h q W) (hb : Below W.heap.size W W') : ShS tb w E M b n c vn num den B5 B8 h q W' :=
  ⟨S.on.later hb, hb.tape.trans S.tape, (hb.block _ (Array.getElem?_eq_some_iff.1 S.h0).1).trans S.h0, (hb.block _ (Array.getElem?_eq_some_iff.1 S.h1).1).trans S.h1, (hb.block _ (Array.getElem?_eq_some_iff.1 S.h5).1).trans S.h5, (hb.block _ (Array.getElem?_eq_some_iff.1 S.h8).1).trans S.h8⟩
def ShtR (tb : Nat) (w : World) (E M : Nat) (b : Int) (n : Bool) (c : Int) (vn : Bool) (num den : Value) (B5 B8 : Nat) (h : Int) (q : Bool) (t9 t10 : Value) (wr : World) : Prop :=
  ∃ (i : Nat) (p : Int), t10 = .int .i64 (i : Int) ∧ t9 = .int .i64 p ∧ 1 ≤ i ∧ i ≤ 18 ∧ (i ≤ 17 → p = pz i) ∧ ShS tb w E M b n c vn num den B5 B8 h q wr

set_option maxHeartbeats 1000000 in
theorem xshort_run (w : World) (tb E M : Nat) (hf : fok E M = true) (x : Int) (ho : On tb w) (ht : w.tape = fun _ _ => 0) :
    Calls Oaag.prog 167 #[fmt E M, .int .u64 x] w fun e w' => ∃ v, e = .returned v ∧ DecV v := by
  have HT := hide ht
  have HO := hide ho
  clear ht ho
  go_enter Oaag.func167, Oaag.ntmps167
  go_wp2_with (first
    | (with_reducible refine at_fn 67 ?_
       refine gen_calls ?_
       intro W hW
       have hb0 : Below w.heap.size w W := by rw [← hW]; exact ((Below.refl _ _).alloc (Nat.le_refl _) _).alloc (by rw [size_new]; omega) _
       have o0 := (unhide HO).later hb0
       have t0 := hb0.tape.trans (unhide HT)
       have h0 : W.heap[w.heap.size]? = some (.cells #[.int .u8 E, .int .u8 M] 23 (0, 0)) := by rw [← hW]; exact row_old (row_new _ _ _ rfl)
       have h1 : W.heap[w.heap.size + 1]? = some (.cells #[.bool false, .string ⟨#[]⟩, .int .i16 0] 74 (0, 0)) := by rw [← hW]; exact row_new _ _ _ (size_new _ _)
       clear hW hb0 HT HO
       refine (fmtOk_ret E M hf) W _ ?_
       rintro _ W2 rfl hb
       replace o0 := o0.later hb
       replace t0 := hb.tape.trans t0
       replace h0 := (hb.block _ (Array.getElem?_eq_some_iff.1 h0).1).trans h0
       replace h1 := (hb.block _ (Array.getElem?_eq_some_iff.1 h1).1).trans h1
       clear hb
       have k0 := cellr h0 0 _ rfl
       have k1 := cellr h0 1 _ rfl)
    | (with_reducible refine at_fn 222 ?_
       refine (open_run _ E M hf x t0).mono ?_
       rintro _ W3 ⟨_, rfl, ⟨b, n, c, vn, aN, cN, xN, aD, cD, xD, rfl, ub, hr1, hr2, hF⟩, hb⟩
       replace o0 := o0.later hb
       replace t0 := hb.tape.trans t0
       replace h0 := (hb.block _ (Array.getElem?_eq_some_iff.1 h0).1).trans h0
       replace h1 := (hb.block _ (Array.getElem?_eq_some_iff.1 h1).1).trans h1
       clear hb k0 k1
       obtain ⟨W4, hW4⟩ : ∃ W4, W4 = W3.alloc (.cells #[.int .u64 b, .bool n, .int .i8 c, .bool vn, .slice aN (lim xN).length cN, .slice aD (lim xD).length cD] 236) := ⟨_, rfl⟩
       have hbw : Below W3.heap.size W3 W4 := by rw [hW4]; exact (Below.refl _ _).alloc (Nat.le_refl _) _
       have r4 : W4.heap[W3.heap.size]? = some (.cells #[.int .u64 b, .bool n, .int .i8 c, .bool vn, .slice aN (lim xN).length cN, .slice aD (lim xD).length cD] 236 (0, 0)) := by rw [hW4]; exact row_new _ _ _ rfl
       replace o0 := o0.later hbw
       replace t0 := hbw.tape.trans t0
       replace h0 := (hbw.block _ (Array.getElem?_eq_some_iff.1 h0).1).trans h0
       replace h1 := (hbw.block _ (Array.getElem?_eq_some_iff.1 h1).1).trans h1
       have hr3 := hr1.later hbw
       have hr4 := hr2.later hbw
       have c1 := cellr r4 1 _ rfl
       have c2 := cellr r4 2 _ rfl
       have c3 := cellr r4 3 _ rfl
       have c4 := cellr r4 4 _ rfl
       have c5 := cellr r4 5 _ rfl
       have v0 := cellr h1 0 _ rfl
       have v1 := cellr h1 1 _ rfl
       have v2 := cellr h1 2 _ rfl
       have vf := frzr h1
       rw [hW4] at c1 c2 c3 c4 c5 v0 v1 v2 vf
       clear hbw hr1 hr2)
    | (with_reducible refine at_fn 302 ?_
       rw [← hW4]
       refine (log10_run W4 vn aN cN xN aD cD xD hr3.sl hr4.sl hF t0).mono ?_
       rintro _ W5 ⟨_, rfl, ⟨top, rfl, ht1, ht2⟩, hb⟩
       clear c1 c2 c3 c4 c5 v0 v1 v2 vf
       replace o0 := o0.later hb
       replace t0 := hb.tape.trans t0
       replace h0 := (hb.block _ (Array.getElem?_eq_some_iff.1 h0).1).trans h0
       replace h1 := (hb.block _ (Array.getElem?_eq_some_iff.1 h1).1).trans h1
       replace r4 := (hb.block _ (Array.getElem?_eq_some_iff.1 r4).1).trans r4
       replace hr3 := hr3.later hb
       replace hr4 := hr4.later hb
       clear hb hW4
       have c3 := cellr r4 3 _ rfl
       have c4 := cellr r4 4 _ rfl
       have c5 := cellr r4 5 _ rfl)
    | (with_reducible refine at_fn 303 ?_
       refine (floorAt_run _ vn aN cN xN aD cD xD (top - 16) (by omega) (by omega) hr3.sl hr4.sl hF t0).mono ?_
       rintro _ W6 ⟨_, rfl, ⟨al, fh, fb, rfl, al1, al2⟩, hb⟩
       clear c3 c4 c5
       replace o0 := o0.later hb
       replace t0 := hb.tape.trans t0
       replace h0 := (hb.block _ (Array.getElem?_eq_some_iff.1 h0).1).trans h0
       replace h1 := (hb.block _ (Array.getElem?_eq_some_iff.1 h1).1).trans h1
       replace r4 := (hb.block _ (Array.getElem?_eq_some_iff.1 r4).1).trans r4
       clear hb hr3 hr4)
    | fail)
  all_goals first
    | (refine bodyPost_box rfl ?_
       intro r hr
       simp [results, Oaag.results167, go_sem, v0, v1, v2] at hr
       subst hr
       exact ⟨_, rfl, _, rfl, ⟨_, _, _, rfl, Nat.zero_le _, by omega, by omega⟩⟩)
    | skip
  have S : ShS tb w E M b n c vn (.slice aN (lim xN).length cN) (.slice aD (lim xD).length cD) W3.heap.size W6.heap.size fh fb (W6.alloc (.cells #[.int .i8 fh, .bool fb] 280)) := by
    have hbw := (Below.refl W6.heap.size W6).alloc (Nat.le_refl _) (.cells #[.int .i8 fh, .bool fb] 280)
    exact ⟨o0.later hbw, hbw.tape.trans t0, row_old h0, row_old h1, row_old r4, row_new _ _ _ rfl⟩
  have HS := hide S
  clear S o0 t0 h0 h1 r4 hF
  go_loopw [9, 10, 11, 12, 13, 14, 15, 16, 17] (fun t9 t10 _ _ _ _ _ _ _ wr => ShtR tb w E M b n c vn (.slice aN (lim xN).length cN) (.slice aD (lim xD).length cD) W3.heap.size W6.heap.size fh fb t9 t10 wr) (fun _ t10 _ _ _ _ _ _ _ wr => 18 - (intOf t10).toNat)
  case atStart => exact ⟨1, _, rfl, rfl, by omega, by omega, fun _ => by decide, unhide HS⟩
  case round =>
    obtain ⟨i, p, rfl, rfl, hi1, hi2, hip, S⟩ := hrel
    clear HS
    by_cases hl : i ≤ 17
    · have hpp := hip hl
      have hpb := pz_bd i hi1
      have hpn : i ≤ 16 → pz i / 10 = pz (i + 1) := pz_next i
      obtain ⟨P, hP⟩ : ∃ P, pz i = P := ⟨_, rfl⟩
      rw [hP] at hpp hpb hpn
      subst hpp
      have hP0 : ¬ ((P : Int) = 0) := by omega
      have hmd : (al.tmod P).natAbs < P := by
        rw [Int.natAbs_tmod]
        exact Nat.mod_lt _ (by omega)
      have hdv : (al.tdiv P).natAbs ≤ al.natAbs := by
        rw [Int.natAbs_tdiv]
        exact Nat.div_le_self _ _
      have hdv2 : al.tdiv P ≤ 9223372036854775807 := by
        rcases (show 0 ≤ al ∨ al < 0 by omega) with h | h
        · omega
        · have h1 : (-al).tdiv P = -(al.tdiv P) := Int.neg_tdiv _ _
          have h2 : 0 ≤ (-al).tdiv P := Int.tdiv_nonneg (by omega) (by omega)
          omega
      have k0 := cellr S.h0 0 _ rfl
      have k1 := cellr S.h0 1 _ rfl
      have m0 := cellr S.h8 0 _ rfl
      have m1 := cellr S.h8 1 _ rfl
      have HS := hide S
      clear S hip hP
      go_wp2_with (first
        | (with_reducible refine at_reg 17 ?_
           refine wp_region_zero_list (unhide HS).tape (by kernel_rfl) ?_)
        | (with_reducible refine at_fn 304 ?_
           refine (cutRest_run _ (al.tmod P) P fh fb (by omega) (by omega) (by omega) (by omega)).mono ?_
           rintro _ W7 ⟨_, rfl, ⟨ca, cb, rfl⟩, hb⟩
           have S7 := (unhide HS).later ((drew_bel _).trans hb)
           clear hb HS k0 k1 m0 m1
           have M1 : True := trivial
           obtain ⟨W8, hW8⟩ : ∃ W8, W8 = W7.alloc (.cells #[.int .i8 ca, .bool cb] 280) := ⟨_, rfl⟩
           have hbw : Below W7.heap.size W7 W8 := by rw [hW8]; exact (Below.refl _ _).alloc (Nat.le_refl _) _
           have r13 : W8.heap[W7.heap.size]? = some (.cells #[.int .i8 ca, .bool cb] 280 (0, 0)) := by rw [hW8]; exact row_new _ _ _ rfl
           have S8 := S7.later hbw
           clear S7 hbw
           have k0 := cellr S8.h0 0 _ rfl
           have k1 := cellr S8.h0 1 _ rfl
           have e0 := cellr S8.h5 0 _ rfl
           have e1 := cellr S8.h5 1 _ rfl
           have e2 := cellr S8.h5 2 _ rfl
           have e3 := cellr S8.h5 3 _ rfl
           have e4 := cellr S8.h5 4 _ rfl
           have e5 := cellr S8.h5 5 _ rfl
           rw [hW8] at k0 k1 e0 e1 e2 e3 e4 e5)
        | (with_reducible refine at_fn 305 ?_
           have M1' := M1
           rw [← hW8]
           refine (candidate_run W8 tb E M hf b c n vn _ _ _ _ (by first | omega | exact (wr64i _).1) (by first | omega | exact (wr64i _).2) (by omega) (by omega) S8.on S8.tape).mono ?_
           rintro _ W9 ⟨s1, d1, x1, o1, rfl, can1, hb⟩
           have S9 := S8.later hb
           have r13' := (hb.block _ (Array.getElem?_eq_some_iff.1 r13).1).trans r13
           clear M1 M1' hb S8 r13 k0 k1 e0 e1 e2 e3 e4 e5 hW8
           obtain ⟨W10, hW10⟩ : ∃ W10, W10 = W9.alloc (.cells #[.bool s1, .string d1, .int .i16 x1] 74) := ⟨_, rfl⟩
           have hbw : Below W9.heap.size W9 W10 := by rw [hW10]; exact (Below.refl _ _).alloc (Nat.le_refl _) _
           have r14 : W10.heap[W9.heap.size]? = some (.cells #[.bool s1, .string d1, .int .i16 x1] 74 (0, 0)) := by rw [hW10]; exact row_new _ _ _ rfl
           have S10 := S9.later hbw
           have r13 := (hbw.block _ (Array.getElem?_eq_some_iff.1 r13').1).trans r13'
           clear S9 hbw r13'
           have k0 := cellr S10.h0 0 _ rfl
           have k1 := cellr S10.h0 1 _ rfl
           have e0 := cellr S10.h5 0 _ rfl
           have e1 := cellr S10.h5 1 _ rfl
           have e2 := cellr S10.h5 2 _ rfl
           have e3 := cellr S10.h5 3 _ rfl
           have e4 := cellr S10.h5 4 _ rfl
           have e5 := cellr S10.h5 5 _ rfl
           rw [hW10] at k0 k1 e0 e1 e2 e3 e4 e5)
        | (with_reducible refine at_fn 305 ?_
           rw [← hW10]
           refine (candidate_run W10 tb E M hf b c n vn _ _ _ _ (by first | omega | exact (wr64i _).1) (by first | omega | exact (wr64i _).2) (by omega) (by omega) S10.on S10.tape).mono ?_
           rintro _ W11 ⟨s2, d2, x2, o2, rfl, can2, hb⟩
           have S11 := S10.later hb
           have r13' := (hb.block _ (Array.getElem?_eq_some_iff.1 r13).1).trans r13
           have r14' := (hb.block _ (Array.getElem?_eq_some_iff.1 r14).1).trans r14
           clear hb S10 r13 r14 k0 k1 e0 e1 e2 e3 e4 e5 hW10
           obtain ⟨W12, hW12⟩ : ∃ W12, W12 = W11.alloc (.cells #[.bool s2, .string d2, .int .i16 x2] 74) := ⟨_, rfl⟩
           have hbw : Below W11.heap.size W11 W12 := by rw [hW12]; exact (Below.refl _ _).alloc (Nat.le_refl _) _
           have r16 : W12.heap[W11.heap.size]? = some (.cells #[.bool s2, .string d2, .int .i16 x2] 74 (0, 0)) := by rw [hW12]; exact row_new _ _ _ rfl
           have S12 := S11.later hbw
           have r13 := (hbw.block _ (Array.getElem?_eq_some_iff.1 r13').1).trans r13'
           have r14 := (hbw.block _ (Array.getElem?_eq_some_iff.1 r14').1).trans r14'
           clear S11 hbw r13' r14'
           have k0 := cellr r13 0 _ rfl
           have e0 := cellr r14 0 _ rfl
           have e1 := cellr r14 1 _ rfl
           have e2 := cellr r14 2 _ rfl
           have g0 := cellr r16 0 _ rfl
           have g1 := cellr r16 1 _ rfl
           have g2 := cellr r16 2 _ rfl
           have v0 := cellr S12.h1 0 _ rfl
           have v1 := cellr S12.h1 1 _ rfl
           have v2 := cellr S12.h1 2 _ rfl
           have vf := frzr S12.h1
           rw [hW12] at k0 e0 e1 e2 g0 g1 g2 v0 v1 v2 vf S12
           have HS12 := hide S12
           have HC1 := hide can1
           have HC2 := hide can2
           clear r13 r14 r16 hW12 S12 can1 can2)
        | fail)
      all_goals first
        | exact ⟨⟨i + 1, _, by simp, rfl, by omega, by omega, fun h => by rw [← hpn (by omega)]; simp, unhide HS12⟩, by simp [intOf]; omega⟩
        | (refine bodyPost_box rfl ?_
           intro r hr
           simp [results, Oaag.results167, go_sem, v0, v1, v2] at hr
           subst hr
           exact ⟨_, rfl, _, rfl, canon_v _ (unhide HC1)⟩)
        | (refine bodyPost_box rfl ?_
           intro r hr
           simp [results, Oaag.results167, go_sem, v0, v1, v2] at hr
           subst hr
           exact ⟨_, rfl, _, rfl, canon_v _ (unhide HC2)⟩)
        | fail
    · have v0 := cellr S.h1 0 _ rfl
      have v1 := cellr S.h1 1 _ rfl
      have v2 := cellr S.h1 2 _ rfl
      have vf := frzr S.h1
      clear S
      go_wp2_with fail
      refine bodyPost_box rfl ?_
      intro r hr
      simp [results, Oaag.results167, go_sem, v0, v1, v2] at hr
      subst hr
      exact ⟨_, rfl, _, rfl, ⟨_, _, _, rfl, Nat.zero_le _, by omega, by omega⟩⟩
end Go.Proofs.YgcoaaGreat.NatW
