/-
  Package exact: open.
-/
import Derived.Test.YgcoaaGreatUnB
import Derived.Test.YgcoaaGreatExT
import Derived.Test.YgcoaaGreatRyuC
set_option linter.unusedVariables false
set_option linter.unusedSimpArgs false
set_option maxRecDepth 20000
namespace Go.Proofs.YgcoaaGreat.NatW
open Go.RowKit
open Go.Proofs.YgcoaaGreat.Limbs Go.Proofs.YgcoaaGreat.Bits
attribute [local go_sem] Go.Instr.field Go.asAgg


set_option maxHeartbeats 400000
theorem and64 (x y : Int) : U64 (bits .and .u64 x y) := by
  unfold bits
  exact wr64 _
/-- An operand: its fraction lies in memory, is small, its denominator is not zero. -/
def OpdR (B : Nat) (v : Value) (w : World) : Prop := ∃ (b : Int) (n : Bool) (c : Int) (vn : Bool) (aN : Option Addr) (cN xN : Nat) (aD : Option Addr) (cD xD : Nat),
  v = .agg #[.int .u64 b, .bool n, .int .i8 c, .bool vn, .slice aN (lim xN).length cN, .slice aD (lim xD).length cD] ∧ U64 b ∧ Res B w aN cN xN ∧ Res B w aD cD xD ∧ FrOs xN xD
structure OpS (w : World) (E M : Nat) (W : World) : Prop where
  tape : W.tape = fun _ _ => 0
  h0 : W.heap[w.heap.size]? = some (.cells #[.int .u8 E, .int .u8 M] 23 (0, 0))
  h1 : W.heap[w.heap.size + 1]? = some (.cells #[.int .u64 0, .bool false, .int .i8 0, .bool false, .slice none 0 0, .slice none 0 0] 236 (0, 0))
  below : Below w.heap.size w W
theorem OpS.later {w : World} {E M : Nat} {W W' : World} (h : OpS w E M W) (hb : Below W.heap.size W W') : OpS w E M W' :=
  ⟨hb.tape.trans h.tape, (hb.block _ (Array.getElem?_eq_some_iff.1 h.h0).1).trans h.h0, (hb.block _ (Array.getElem?_eq_some_iff.1 h.h1).1).trans h.h1, h.below.trans (hb.mono h.below.size)⟩
theorem OpS.new (E M : Nat) {w : World} (ht : w.tape = fun _ _ => 0) : OpS w E M ((w.alloc (.cells #[.int .u8 E, .int .u8 M] 23)).alloc (.cells #[.int .u64 0, .bool false, .int .i8 0, .bool false, .slice none 0 0, .slice none 0 0] 236)) :=
  ⟨ht, row_old (row_new _ _ _ rfl), row_new _ _ _ (size_new _ _), ((Below.refl _ _).alloc (Nat.le_refl _) _).alloc (by rw [size_new]; omega) _⟩

theorem open_run (w : World) (E M : Nat) (hf : fok E M = true) (x : Int) (ht : w.tape = fun _ _ => 0) :
    Calls Oaag.prog 222 #[fmt E M, .int .u64 x] w fun e w' => ∃ v, e = .returned v ∧ OpdR w.heap.size v w' ∧ Below w.heap.size w w' := by
  have HT := hide ht
  clear ht
  go_enter Oaag.func222, Oaag.ntmps222
  go_wp2_with (first
    | (with_reducible refine at_fn 163 ?_
       refine gen_calls ?_
       intro W hW
       have S : OpS w E M W := by rw [← hW]; exact OpS.new E M (unhide HT)
       clear hW HT
       refine (mask_ret E M hf) W _ ?_
       rintro _ W2 rfl hb
       have S2 := S.later hb
       clear S hb
       generalize (((2 ^ (E + M + 1) : Nat) : Int) - 1) = mk
       obtain ⟨y, hy⟩ : ∃ y, bits .and .u64 x mk = y := ⟨_, rfl⟩
       have hs2 : w.heap.size + 1 < W2.heap.size := (Array.getElem?_eq_some_iff.1 S2.h1).1
       have uy : U64 y := by rw [← hy]; exact and64 _ _
       have k0 := cellr S2.h0 0 _ rfl
       have k1 := cellr S2.h0 1 _ rfl)
    | (with_reducible refine at_fn 33 ?_
       refine (values_any _ E M hf y uy).mono ?_
       rintro _ W3 ⟨_, c, rfl, ⟨neg, aN, cN, xN, aD, cD, xD, rfl, hr1, hr2, hF⟩, hb⟩
       have S3 := S2.later hb
       have hs3 := hb.size
       clear S2 hb k0 k1)
    | (with_reducible refine at_reg 3 ?_
       refine gen_wp ?_
       intro W4 hW
       have hbw : Below W3.heap.size W3 W4 := by rw [← hW]; exact (Below.refl _ _).alloc (Nat.le_refl _) _
       have r5 : W4.heap[W3.heap.size]? = some (.cells #[.bool neg, .slice aN (lim xN).length cN, .slice aD (lim xD).length cD] 67 (0, 0)) := by rw [← hW]; exact row_new _ _ _ rfl
       have htq := hbw.tape.trans S3.tape
       have S4 := S3.later (hbw.trans (drew_bel W4 |>.mono hbw.size))
       have hr1' := hr1.later (hbw.trans (drew_bel W4 |>.mono hbw.size))
       have hr2' := hr2.later (hbw.trans (drew_bel W4 |>.mono hbw.size))
       have r5' : W4.drew.heap[W3.heap.size]? = _ := r5
       clear hW hbw S3 hr1 hr2 r5
       refine wp_region_zero_list htq (by kernel_rfl) ?_
       generalize W4.drew = W5 at *
       have k0 := cellr S4.h0 0 _ rfl
       have k1 := cellr S4.h0 1 _ rfl)
    | (with_reducible refine at_fn 104 ?_
       refine (signBit_ret E M hf) _ _ ?_
       rintro _ W6 rfl hb
       generalize ((2 ^ (E + M) : Nat) : Int) = sb
       have S6 := S4.later hb
       have hr1 := hr1'.later hb
       have hr2 := hr2'.later hb
       have r6 := (hb.block _ (Array.getElem?_eq_some_iff.1 r5').1).trans r5'
       clear hb S4 hr1' hr2' r5' k0 k1
       have u0 := cellr r6 0 _ rfl
       have u1 := cellr r6 1 _ rfl
       have u2 := cellr r6 2 _ rfl
       have v0 := cellr S6.h1 0 _ rfl
       have v1 := cellr S6.h1 1 _ rfl
       have v2 := cellr S6.h1 2 _ rfl
       have v3 := cellr S6.h1 3 _ rfl
       have v4 := cellr S6.h1 4 _ rfl
       have v5 := cellr S6.h1 5 _ rfl
       have vf := frzr S6.h1)
    | fail)
  all_goals
    refine bodyPost_box rfl ?_
    intro r hr
    simp [results, Oaag.results222, go_sem, v0, v1, v2, v3, v4, v5] at hr
    subst hr
    refine ⟨_, rfl, _, rfl, ⟨y, _, c, neg, aN, cN, xN, aD, cD, xD, rfl, uy, ?_, ?_, hF⟩, ?_⟩
    · have h2 : Res w.heap.size W6 aN cN xN := hr1.lower (by omega)
      have hne : ∀ g, aN = some ⟨g, 0, none⟩ → g ≠ w.heap.size + 1 := fun g hg => by have := (hr1.block g hg).1; omega
      exact (((((h2.away _ hne).away _ hne).away _ hne).away _ hne).away _ hne).away _ hne
    · have h2 : Res w.heap.size W6 aD cD xD := hr2.lower (by omega)
      have hne : ∀ g, aD = some ⟨g, 0, none⟩ → g ≠ w.heap.size + 1 := fun g hg => by have := (hr2.block g hg).1; omega
      exact (((((h2.away _ hne).away _ hne).away _ hne).away _ hne).away _ hne).away _ hne
    · exact below_store (below_store (below_store (below_store (below_store (below_store S6.below (by omega) _) (by omega) _) (by omega) _) (by omega) _) (by omega) _) (by omega) _
end Go.Proofs.YgcoaaGreat.NatW
