/-
  Package exact: zeros, DigitsF.
-/
import Derived.Test.YgcoaaGreatOpA
import Derived.Test.YgcoaaGreatDoA
set_option linter.unusedVariables false
set_option linter.unusedSimpArgs false
set_option maxRecDepth 20000
namespace Go.Proofs.YgcoaaGreat.NatW
open Go.RowKit
open Go.Proofs.YgcoaaGreat.Limbs Go.Proofs.YgcoaaGreat.Bits
attribute [local go_sem] Go.Instr.field Go.asAgg


theorem un_bl {xN n : Nat} {k : Int} (hl : (lim xN).length ≤ 2100) (hk : -32000 ≤ k) (h : n ≤ xN * tD k + 1) : bl n ≤ 195201 ∧ (lim n).length ≤ 6101 := by
  have e : (4294967296 : Nat) = 2 ^ 32 := by decide
  have a : xN < 2 ^ (32 * (lim xN).length) := by
    have a := lt_of_lim_length xN
    rw [e, ← Nat.pow_mul] at a
    exact a
  have b : tD k ≤ 2 ^ (4 * (-k).toNat) := by
    unfold tD
    split
    · rw [Nat.pow_mul]
      exact Nat.pow_le_pow_left (by decide) _
    · exact Nat.one_le_two_pow
  have c : n ≤ 2 ^ (32 * (lim xN).length + 4 * (-k).toNat) := by
    rw [Nat.pow_add]
    have := Nat.mul_lt_mul_of_lt_of_le a b (Nat.two_pow_pos _)
    omega
  obtain ⟨t, ht⟩ : ∃ t, 32 * (lim xN).length + 4 * (-k).toNat = t := ⟨_, rfl⟩
  have ht' : t ≤ 195200 := by omega
  rw [ht] at c
  have d : n < 2 ^ (t + 1) := by
    rw [Nat.pow_succ]
    have := Nat.two_pow_pos t
    omega
  refine ⟨Nat.le_trans (bl_le n (t + 1) d) (by omega), ?_⟩
  obtain ⟨q, hq⟩ : ∃ q : Nat, q = 6101 := ⟨_, rfl⟩
  rw [← hq]
  refine lim_length_le _ _ ?_
  rw [e, ← Nat.pow_mul]
  exact Nat.lt_of_lt_of_le d (Nat.pow_le_pow_right (by decide) (by omega))

def ZeR (w : World) (b N : Nat) (t9 : Value) (wr : World) : Prop := ∃ i : Nat, i ≤ N ∧ t9 = .int .i64 (i : Int) ∧ Below w.heap.size w wr ∧ Mine wr b ∧ Bank wr b 0 N .u8 (fun _ => True)
theorem xzeros_run (w : World) (n : Nat) (hn : n ≤ 100000) :
    Calls Oaag.prog 325 #[.int .i64 (n : Int)] w fun e w' => (∃ s : ByteArray, e = .returned (.string s) ∧ s.size = n) ∧ Below w.heap.size w w' := by
  go_enter Oaag.func325, Oaag.ntmps325
  go_wp2_with (refine wpList_mkB rfl _ rfl n _ rfl rfl (by omega) ?_; intro w1 hk1 hm1 hb1; have HK := hide hk1; have HM := hide hm1; have HB := hide hb1; clear hk1 hm1 hb1)
  go_loopw [4, 9] (fun _ t9 wr => ZeR w w.heap.size n t9 wr) (fun _ t9 _ => n - (intOf t9).toNat)
  case atStart => exact ⟨0, by omega, rfl, unhide HB, unhide HM, unhide HK⟩
  case round =>
    obtain ⟨i, hi, rfl, hbw, hmn, hbk⟩ := hrel
    clear HK HM HB
    by_cases hl : i < n
    · obtain ⟨v, c, -⟩ := hbk.cell i hl
      have f := hmn.2 i
      have HB := hide hbk
      have HM := hide hmn
      have HW := hide hbw
      clear hbk hmn hbw
      go_wp2_with fail
      exact ⟨⟨i + 1, by omega, by simp, below_store (unhide HW) (Nat.le_refl _) _, (unhide HM).set _ _, (unhide HB).set _ trivial⟩, by simp [intOf]; omega⟩
    · have e : n = i := by omega
      subst e
      obtain ⟨s, hs, hcv⟩ := bytes_string wr 119 9 5 NatW.u119 NatW.u5 NatW.u9 w.heap.size 0 n n (fun _ => True) hbk
      go_wp2_with fail
      go_ret
      exact ⟨⟨_, rfl, hs⟩, hbw⟩

structure BxS (w : World) (E M : Nat) (W : World) : Prop where
  tape : W.tape = fun _ _ => 0
  h0 : W.heap[w.heap.size]? = some (.cells #[.int .u8 E, .int .u8 M] 23 (0, 0))
  below : Below w.heap.size w W
theorem BxS.later {w : World} {E M : Nat} {W W' : World} (h : BxS w E M W) (hb : Below W.heap.size W W') : BxS w E M W' :=
  ⟨hb.tape.trans h.tape, (hb.block _ (Array.getElem?_eq_some_iff.1 h.h0).1).trans h.h0, h.below.trans (hb.mono h.below.size)⟩
def StR (n : Nat) (v : Value) : Prop := ∃ s : ByteArray, v = .string s ∧ s.size ≤ n

set_option maxHeartbeats 1000000 in
theorem digF_run (w : World) (E M : Nat) (hf : fok E M = true) (x : Int) (p : Nat) (hp : p ≤ 65535) (ht : w.tape = fun _ _ => 0) :
    Calls Oaag.prog 178 #[fmt E M, .int .u64 x, .int .u16 (p : Int)] w fun e w' => ∃ v, e = .returned v ∧ StR 100000 v := by
  have HT := hide ht
  clear ht
  go_enter Oaag.func178, Oaag.ntmps178
  go_wp2_with (first
    | (with_reducible refine at_fn 67 ?_
       refine gen_calls ?_
       intro W hW
       have S : BxS w E M W := by rw [← hW]; exact ⟨unhide HT, row_new _ _ _ rfl, (Below.refl _ _).alloc (Nat.le_refl _) _⟩
       clear hW HT
       refine (fmtOk_ret E M hf) W _ ?_
       rintro _ W2 rfl hb
       have S2 := S.later hb
       clear S hb
       have k0 := cellr S2.h0 0 _ rfl
       have k1 := cellr S2.h0 1 _ rfl)
    | (with_reducible refine at_fn 222 ?_
       refine (open_run _ E M hf x S2.tape).mono ?_
       rintro _ W3 ⟨_, rfl, ⟨b, n, c, vn, aN, cN, xN, aD, cD, xD, rfl, ub, hr1, hr2, hF⟩, hb⟩
       have S3 := S2.later hb
       clear S2 hb k0 k1
       obtain ⟨W4, hW4⟩ : ∃ W4, W4 = W3.alloc (.cells #[.int .u64 b, .bool n, .int .i8 c, .bool vn, .slice aN (lim xN).length cN, .slice aD (lim xD).length cD] 236) := ⟨_, rfl⟩
       have hbw : Below W3.heap.size W3 W4 := by rw [hW4]; exact (Below.refl _ _).alloc (Nat.le_refl _) _
       have r4 : W4.heap[W3.heap.size]? = some (.cells #[.int .u64 b, .bool n, .int .i8 c, .bool vn, .slice aN (lim xN).length cN, .slice aD (lim xD).length cD] 236 (0, 0)) := by rw [hW4]; exact row_new _ _ _ rfl
       have S4 := S3.later hbw
       have hr3 := hr1.later hbw
       have hr4 := hr2.later hbw
       have c2 := cellr r4 2 _ rfl
       have c3 := cellr r4 3 _ rfl
       have c4 := cellr r4 4 _ rfl
       have c5 := cellr r4 5 _ rfl
       rw [hW4] at c2 c3 c4 c5
       clear hbw r4 S3 hr1 hr2)
    | (with_reducible refine at_fn 326 ?_
       rw [← hW4]
       refine (unitsOf_run W4 vn aN cN xN aD cD xD (-(p : Int)) (by omega) (by omega) hr3.sl hr4.sl hF S4.tape).mono ?_
       rintro _ W5 ⟨_, rfl, ⟨a5, c5, m, rfl, hr5, hm⟩, hb⟩
       clear hb)
    | (with_reducible refine at_fn 327 ?_
       have hq := un_bl hF.2.1 (by omega) hm
       refine (digitsOf_run W5 a5 c5 m 0 hr5 (by omega)).mono ?_
       rintro _ W6 ⟨⟨s, rfl, hs⟩, -⟩
       have hs' : s.size ≤ 100000 := by omega)
    | fail)
  all_goals first
    | (go_ret; exact ⟨_, rfl, _, rfl, Nat.zero_le _⟩)
    | (go_ret; exact ⟨_, rfl, _, rfl, hs'⟩)
    | fail
end Go.Proofs.YgcoaaGreat.NatW
