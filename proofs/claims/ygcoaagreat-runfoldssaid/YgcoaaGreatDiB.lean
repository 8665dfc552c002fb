/-
  Package exact: DigitsE.
-/
import Derived.Test.YgcoaaGreatDiA
set_option linter.unusedVariables false
set_option linter.unusedSimpArgs false
set_option maxRecDepth 20000
namespace Go.Proofs.YgcoaaGreat.NatW
open Go.RowKit
open Go.Proofs.YgcoaaGreat.Limbs Go.Proofs.YgcoaaGreat.Bits
attribute [local go_sem] Go.Instr.field Go.asAgg


def DgER (v : Value) : Prop := ∃ (s : ByteArray) (e : Int), v = .tuple #[.string s, .int .i16 e] ∧ s.size ≤ 2001 ∧ -32768 ≤ e ∧ e ≤ 32767

set_option maxHeartbeats 1000000 in
theorem digE_run (w : World) (E M : Nat) (hf : fok E M = true) (x : Int) (p : Nat) (hp : p ≤ 65535) (ht : w.tape = fun _ _ => 0) :
    Calls Oaag.prog 176 #[fmt E M, .int .u64 x, .int .u16 (p : Int)] w fun e w' => ∃ v, e = .returned v ∧ DgER v := by
  have HT := hide ht
  clear ht
  go_enter Oaag.func176, Oaag.ntmps176
  go_wp2_with (first
    | (with_reducible refine at_fn 67 ?_
       refine gen_calls ?_
       intro W hW
       have S : BxS w E M W := by rw [← hW]; exact ⟨unhide HT, row_new _ _ _ rfl, (Below.refl _ _).alloc (Nat.le_refl _) _⟩
       clear hW HT
       refine (fmtOk_ret E M hf) W _ ?_
       rintro _ W2 rfl hb
       have S2 := S.later hb
       clear S hb
       have k0 := cellr S2.h0 0 _ rfl
       have k1 := cellr S2.h0 1 _ rfl)
    | (with_reducible refine at_fn 222 ?_
       refine (open_run _ E M hf x S2.tape).mono ?_
       rintro _ W3 ⟨_, rfl, ⟨b, n, c, vn, aN, cN, xN, aD, cD, xD, rfl, ub, hr1, hr2, hF⟩, hb⟩
       have S3 := S2.later hb
       clear S2 hb k0 k1
       obtain ⟨W4, hW4⟩ : ∃ W4, W4 = W3.alloc (.cells #[.int .u64 b, .bool n, .int .i8 c, .bool vn, .slice aN (lim xN).length cN, .slice aD (lim xD).length cD] 236) := ⟨_, rfl⟩
       have hbw : Below W3.heap.size W3 W4 := by rw [hW4]; exact (Below.refl _ _).alloc (Nat.le_refl _) _
       have r4 : W4.heap[W3.heap.size]? = some (.cells #[.int .u64 b, .bool n, .int .i8 c, .bool vn, .slice aN (lim xN).length cN, .slice aD (lim xD).length cD] 236 (0, 0)) := by rw [hW4]; exact row_new _ _ _ rfl
       have S4 := S3.later hbw
       have hr3 := hr1.later hbw
       have hr4 := hr2.later hbw
       have c2 := cellr r4 2 _ rfl
       have c3 := cellr r4 3 _ rfl
       have c4 := cellr r4 4 _ rfl
       have c5 := cellr r4 5 _ rfl
       rw [hW4] at c2 c3 c4 c5
       clear hbw S3 hr1 hr2)
    | (with_reducible refine at_fn 325 ?_
       refine (xzeros_run _ (p + 1) (by omega)).mono ?_
       rintro _ W5 ⟨⟨s0, rfl, hs0⟩, -⟩
       have hsz0 : s0.size ≤ 2001 := by omega)
    | (with_reducible refine at_fn 302 ?_
       rw [← hW4]
       refine (log10_run W4 vn aN cN xN aD cD xD hr3.sl hr4.sl hF S4.tape).mono ?_
       rintro _ W5 ⟨_, rfl, ⟨top, rfl, ht1, ht2⟩, hb⟩
       have S5 := S4.later hb
       have hr5 := hr3.later hb
       have hr6 := hr4.later hb
       rw [← hW4] at c2 c3 c4 c5
       have r5 : W5.heap[W3.heap.size]? = _ := (hb.block _ (by rw [hW4]; simp)).trans r4
       clear hb c2 c3 c4 c5 hr3 hr4 S4 hW4 r4
       have c3 := cellr r5 3 _ rfl
       have c4 := cellr r5 4 _ rfl
       have c5 := cellr r5 5 _ rfl)
    | (with_reducible refine at_fn 326 ?_
       refine (unitsOf_run _ vn aN cN xN aD cD xD (top - (p : Int)) (by omega) (by omega) hr5.sl hr6.sl hF S5.tape).mono ?_
       rintro _ W6 ⟨_, rfl, ⟨a5, c6, m, rfl, hr7, hm⟩, hb⟩
       clear hb)
    | (with_reducible refine at_fn 327 ?_
       have hq := un_bl hF.2.1 (by omega) hm
       refine (digitsOf_run W6 a5 c6 m 0 hr7 (by omega)).mono ?_
       rintro _ W7 ⟨⟨s, rfl, hs⟩, -⟩
       have hs' : s.size ≤ 100000 := by omega)
    | fail)
  all_goals first
    | (go_ret2; exact ⟨_, rfl, _, _, rfl, Nat.zero_le _, by omega, by omega⟩)
    | (go_ret2; exact ⟨_, rfl, _, _, rfl, hsz0, by omega, by omega⟩)
    | (go_ret2; exact ⟨_, rfl, _, _, rfl, by rw [ByteArray.size_extract]; omega, by omega, by omega⟩)
    | (go_ret2; exact ⟨_, rfl, _, _, rfl, by omega, by omega, by omega⟩)
    | fail
end Go.Proofs.YgcoaaGreat.NatW
