/-
  Package exact: Value: a small fraction.
-/
import Derived.Test.YgcoaaGreatExS
import Derived.Test.YgcoaaGreatExH
set_option linter.unusedVariables false
set_option linter.unusedSimpArgs false
namespace Go.Proofs.YgcoaaGreat.NatW
attribute [local go_sem] Go.Instr.field Go.asAgg
open Go.RowKit
open Go.Proofs.YgcoaaGreat.Limbs Go.Proofs.YgcoaaGreat.Bits

def VaTs (S : Nat) (w : World) : Prop := ∃ neg aN cN xN aD cD xD, w.heap[S + 1]? = some (.cells #[.bool neg, .slice aN (lim xN).length cN, .slice aD (lim xD).length cD] 67 (0, 0)) ∧ Res (S + 2) w aN cN xN ∧ Res (S + 2) w aD cD xD ∧ FrOs xN xD
theorem VaTs.later {S : Nat} (v : Value) (w w' : World) (h : VaTs S w) (hb : Below w.heap.size w w') : VaTs S w' := by
  obtain ⟨neg, aN, cN, xN, aD, cD, xD, h1, h2, h3, h4⟩ := h
  exact ⟨neg, aN, cN, xN, aD, cD, xD, (hb.block _ (Array.getElem?_eq_some_iff.1 h1).1).trans h1, h2.later hb, h3.later hb, h4⟩
theorem Fras.later {B : Nat} {w w' : World} {v : Value} (h : Fras B w v) (hb : Below w.heap.size w w') : Fras B w' v := by
  obtain ⟨neg, aN, cN, xN, aD, cD, xD, h1, h2, h3, h4⟩ := h
  exact ⟨neg, aN, cN, xN, aD, cD, xD, h1, h2.later hb, h3.later hb, h4⟩
theorem Fras.set {B : Nat} {w : World} {v : Value} (h : Fras B w v) {b i : Nat} (u : Value) (hb : b < B) : Fras B (w.setCell ⟨b, i, none⟩ u) v := by
  obtain ⟨neg, aN, cN, xN, aD, cD, xD, h1, h2, h3, h4⟩ := h
  exact ⟨neg, aN, cN, xN, aD, cD, xD, h1, h2.away u (fun g hg => by have := (h2.block g hg).1; omega), h3.away u (fun g hg => by have := (h3.block g hg).1; omega), h4⟩

set_option maxRecDepth 20000 in
set_option maxHeartbeats 4000000 in
theorem values_any (w : World) (E M : Nat) (hf : fok E M = true) (x : Int) (ux : U64 x) :
    Calls Oaag.prog 33 #[fmt E M, .int .u64 x] w fun e w' => ∃ v c, e = .returned (.tuple #[v, .int .i8 c]) ∧ Fras w.heap.size w' v ∧ Below w.heap.size w w' := by
  obtain ⟨g1, g2, g3, g4⟩ := fok_bd hf
  go_enter Oaag.func33, Oaag.ntmps33
  go_wp2_with fail
  obtain ⟨q0, q1, hb0, hz0⟩ := rows2 w (.cells #[.int .u8 E, .int .u8 M] 23) (.cells #[.bool false, .slice none 0 0, .slice none 0 0] 67)
  ((first | with_reducible refine Go.Proofs.YgcoaaGreat.NatW.gen_calls ?_ | with_reducible refine Go.Proofs.YgcoaaGreat.NatW.gen_wp ?_ | with_reducible refine Go.Proofs.YgcoaaGreat.NatW.gen_list ?_ | with_reducible refine Go.Proofs.YgcoaaGreat.NatW.gen_body ?_); intro W hW)
  rw [hW] at q0 q1 hb0 hz0
  clear hW
  refine fmtOk_ret E M hf W _ ?_
  rintro v w1 rfl b1
  have p0 : w1.heap[w.heap.size]? = some (.cells #[.int .u8 E, .int .u8 M] 23 (0, 0)) := (b1.block _ (by omega)).trans q0
  have p1 : w1.heap[w.heap.size + 1]? = some (.cells #[.bool false, .slice none 0 0, .slice none 0 0] 67 (0, 0)) := (b1.block _ (by omega)).trans q1
  have hz1 : w.heap.size + 2 ≤ w1.heap.size := by have := b1.size; omega
  have HB1 := hide (hb0.trans (b1.mono hb0.size))
  have k0 := cell_of_row w1 w.heap.size 0 _ _ _ p0
  have k1 := cell_of_row w1 w.heap.size 1 _ _ _ p0
  simp only [List.getElem?_toArray, List.getElem?_cons_zero, List.getElem?_cons_succ] at k0 k1
  have P1 := hide p1
  clear b1 hb0 hz0 q0 q1 p0 p1
  clear W
  go_wp2_with fail
  refine unpack_i E M hf x ux w1 _ ?_
  rintro v w2 ⟨xn, xc, xe, xm, rfl, xp, -⟩ b2
  obtain ⟨xe0, xe1, uxm, xc0, xc1⟩ := Pb.bd g4 xp
  have hz2 : w.heap.size + 2 ≤ w2.heap.size := by have := b2.size; omega
  have HB2 := hide ((unhide HB1).trans (b2.mono (by omega)))
  have P2 := hide ((b2.block _ (by omega)).trans (unhide P1))
  clear k0 k1 HB1 P1 b2 xp
  rcases (show xc = 3 ∨ xc = 4 ∨ (¬ xc = 3 ∧ ¬ xc = 4) by omega) with rfl | rfl | ⟨n3, n4⟩
  · go_wp2_with fail
    obtain ⟨pb, hpb⟩ : ∃ pb, pb = w2.heap.size := ⟨_, rfl⟩
    ((first | with_reducible refine Go.Proofs.YgcoaaGreat.NatW.gen_calls ?_ | with_reducible refine Go.Proofs.YgcoaaGreat.NatW.gen_wp ?_ | with_reducible refine Go.Proofs.YgcoaaGreat.NatW.gen_list ?_ | with_reducible refine Go.Proofs.YgcoaaGreat.NatW.gen_body ?_); intro W hW)
    have rp := heap_alloc_new w2 (.cells #[.bool xn, .int .i8 3, .int .i16 xe, .int .u64 xm] 113)
    rw [hW, ← hpb] at rp
    have hbW : Below w2.heap.size w2 W := by rw [← hW]; exact (Below.refl _ _).alloc (Nat.le_refl _) _
    have r1 : W.heap[w.heap.size + 1]? = some (.cells #[.bool false, .slice none 0 0, .slice none 0 0] 67 (0, 0)) := (hbW.block _ (by omega)).trans (unhide P2)
    have HBW := hide ((unhide HB2).trans (hbW.mono (by omega)))
    have hzW : w.heap.size + 2 ≤ W.heap.size := by have := hbW.size; omega
    have hpb2 : w.heap.size + 2 ≤ pb := by omega
    rw [← hpb]
    clear hbW hW P2 HB2 hpb
    clear hz2 hz1
    have hI0 : VaI w.heap.size pb xn 3 xe xm W := ⟨rp, _, _, _, r1⟩
    have HI0 := hide hI0
    clear rp r1 hI0
    obtain ⟨wt, hWt, hst, hkt, hbt⟩ := trunc2 W (w.heap.size + 1) (by omega)
    have hne2 : Nonempty (Later wt) := ⟨⟨W, hWt⟩⟩
    have HBT := hide (fun (y : Later wt) (h : W.heap.size ≤ y.at_.heap.size) => (unhide HBW).trans ((hbt y h).mono (by omega)))
    clear hkt hbt
    have JL : ∀ w1 w2 : World, (VaI w.heap.size pb xn 3 xe xm w1 ∧ W.heap.size ≤ w1.heap.size) → Below w1.heap.size w1 w2 → VaI w.heap.size pb xn 3 xe xm w2 ∧ W.heap.size ≤ w2.heap.size := fun w1 w2 h hb => ⟨h.1.later _ _ hb, Nat.le_trans h.2 hb.size⟩
    (repeat (first | (rewrite [Go.Proofs.YgcoaaGreat.NatW.frz_ite]; generalize Go.Proofs.YgcoaaGreat.NatW.frzI _ = x__) | (rewrite [Go.Proofs.YgcoaaGreat.NatW.frz_dec]; generalize Go.Proofs.YgcoaaGreat.NatW.frzB _ = x__) | (rewrite [Go.Proofs.YgcoaaGreat.NatW.frz_beq]; generalize Go.Proofs.YgcoaaGreat.NatW.frzB _ = x__) | (rewrite [Go.Proofs.YgcoaaGreat.NatW.frz_not]; generalize Go.Proofs.YgcoaaGreat.NatW.frzB _ = x__) | (rewrite [Go.Proofs.YgcoaaGreat.NatW.frz_and]; generalize Go.Proofs.YgcoaaGreat.NatW.frzB _ = x__) | (rewrite [Go.Proofs.YgcoaaGreat.NatW.frz_or]; generalize Go.Proofs.YgcoaaGreat.NatW.frzB _ = x__) | (rewrite [show ∀ (a b : Int), Value.bool (a != b) = Value.bool (Go.Proofs.YgcoaaGreat.NatW.frzB (a != b)) from fun _ _ => rfl]; generalize Go.Proofs.YgcoaaGreat.NatW.frzB _ = x__)))
    refine Go.LaxS.region_gen (⟨W, hWt⟩ : Later wt) 4 4 [(0, fun v => ∃ n a l c a2 l2 c2, v = .agg #[.bool n, .slice a l c, .slice a2 l2 c2]), (2, fun v => v = .int .i8 3)] [(0, fun v w' => Fras (w.heap.size + 2) w' v), (3, fun _ w' => VaTs w.heap.size w')] [3] (fun w' => VaI w.heap.size pb xn 3 xe xm w' ∧ W.heap.size ≤ w'.heap.size) (by kernel_rfl) (by kernel_rfl) (by kernel_rfl) (by kernel_rfl) ⟨unhide HI0, Nat.le_refl _⟩ JL
      (List.forall_mem_cons.2 ⟨fun v w1 w2 h hb => Fras.later h hb, List.forall_mem_cons.2 ⟨VaTs.later, fun _ h => by cases h⟩⟩) (List.forall_mem_cons.2 ⟨⟨_, false, none, 0, 0, none, 0, 0, rfl⟩, List.forall_mem_cons.2 ⟨⟨_, rfl⟩, fun _ h => by cases h⟩⟩) ?_
    refine Go.LaxS.gen_call rfl rfl rfl JL ?_ (fun y K hI hG hK => by
      go_wp2_with fail
      refine (exwhole_any y.at_ false none 0 0).mono ?_
      rintro e w' ⟨a, c, rfl, hr, hb⟩
      have hh := Go.Proofs.YgcoaaGreat.NatW.hide (hK _ w' ⟨_, _, _, _, _, _, _, rfl⟩ ⟨false, none, 0, 0, a, c, 1, rfl, Res.nil, hr.lower (by have := hI.2; omega), ⟨by decide, by decide, by decide⟩⟩ hb)
      clear hK
      go_wp2_with fail
      exact Eq.mp (by kernel_rfl) (Go.Proofs.YgcoaaGreat.NatW.unhide hh))
    rintro v ⟨vn, va, vl, vc, va2, vl2, vc2, rfl⟩
    ((try dsimp only); go_big_quiet_want; go_big_quiet_op; go_big_quiet_on; refine wpQuiet_nil ?_)
    (refine Go.LaxS.walk_det rfl rfl rfl rfl ?_; go_big_quiet_want; go_big_quiet_op; go_big_quiet_on; refine wpQuiet_nil ?_)
    refine Go.LaxS.gen_call rfl rfl rfl JL ?_ (fun y K hI hG hK => by
      have a0 := cell_of_row y.at_ pb 1 _ _ _ hI.1.1
      simp only [List.getElem?_toArray, List.getElem?_cons_zero, List.getElem?_cons_succ] at a0
      have HK := hide hK
      clear hK
      go_wp2_with fail
      exact unhide HK _ _ rfl trivial (Below.refl _ _))
    rintro v rfl
    ((try dsimp only); go_big_quiet_want; go_big_quiet_op; go_big_quiet_on; refine wpQuiet_nil ?_)
    refine Go.LaxS.gen_store2 rfl rfl rfl rfl ?_ (fun y K hI hG hK => by
      obtain ⟨neg, aN, cN, xN, aD, cD, xD, e9, h2, h3, h4⟩ : Fras (w.heap.size + 2) y.at_ _ := hG (0, _) (by (repeat (first | exact List.Mem.head _ | apply List.Mem.tail))) (by kernel_rfl)
      simp only [Value.agg.injEq, Array.mk.injEq, List.cons.injEq, Value.bool.injEq, Value.slice.injEq, and_true] at e9
      obtain ⟨rfl, ⟨rfl, rfl, rfl⟩, rfl, rfl, rfl⟩ := e9
      obtain ⟨⟨i1, u0, u1, u2, i2⟩, i3⟩ := hI
      have a0 := cell_of_row y.at_ (w.heap.size + 1) 0 _ _ _ i2
      have a1 := cell_of_row y.at_ (w.heap.size + 1) 1 _ _ _ i2
      have a2 := cell_of_row y.at_ (w.heap.size + 1) 2 _ _ _ i2
      simp only [List.getElem?_toArray, List.getElem?_cons_zero, List.getElem?_cons_succ] at a0 a1 a2
      have b0 := frozen_of_row y.at_ (w.heap.size + 1) 0 _ _ i2
      have b1 := frozen_of_row y.at_ (w.heap.size + 1) 1 _ _ i2
      have b2 := frozen_of_row y.at_ (w.heap.size + 1) 2 _ _ i2
      have HK := hide hK
      have HF2 := hide h2
      have HF3 := hide h3
      have HI1 := hide i1
      have HI2 := hide i2
      clear hK hG h2 h3 i1 i2
      go_wp2_with fail
      have hs3 := fun v0 v1 v2 => set3 y.at_ (w.heap.size + 1) 67 u0 u1 u2 v0 v1 v2 (unhide HI2)
      refine unhide HK _ ?_ ?_ ?_ ?_
      · rw [hst]
        have := y.ok
        rw [hst] at this
        exact below_store (below_store (below_store this (by omega) _) (by omega) _) (by omega) _
      · refine ⟨⟨?_, _, _, _, hs3 _ _ _⟩, by simp only [World.size_setCell]; exact i3⟩
        simp only [heap_set]
        rw [if_neg (by omega), if_neg (by omega), if_neg (by omega)]
        exact unhide HI1
      · refine ⟨_, _, _, _, _, _, _, hs3 _ _ _, ?_, ?_, h4⟩
        · have hne : ∀ g, _ = some (⟨g, 0, none⟩ : Addr) → g ≠ w.heap.size + 1 := fun g hg => by have := ((unhide HF2).block g hg).1; omega
          exact (((unhide HF2).away _ hne).away _ hne).away _ hne
        · have hne : ∀ g, _ = some (⟨g, 0, none⟩ : Addr) → g ≠ w.heap.size + 1 := fun g hg => by have := ((unhide HF3).block g hg).1; omega
          exact (((unhide HF3).away _ hne).away _ hne).away _ hne
      · intro i u hi ht
        by_cases h0 : i = 0
        · subst h0
          exact Fras.set (Fras.set (Fras.set ht _ (by omega)) _ (by omega)) _ (by omega)
        · have : Go.LaxS.theta [(0, fun v w' => Fras (w.heap.size + 2) w' v), (3, fun _ w' => VaTs w.heap.size w')] i u = fun _ => True := by
            funext z
            unfold Go.LaxS.theta
            have e0 : (i == 0) = false := by simpa using h0
            have e3 : (i == 3) = false := by simpa using hi
            simp only [List.lookup, e0, e3]
          rw [this]
          trivial)
    refine Go.LaxS.gen_end ?_
    intro y hI hG
    obtain ⟨neg, aN, cN, xN, aD, cD, xD, e1, e2, e3, e4⟩ : VaTs w.heap.size y.at_ := hG (3, _) (by (repeat (first | exact List.Mem.head _ | apply List.Mem.tail)))
    have HBF := hide (unhide HBT y hI.2)
    have m0 := cell_of_row y.at_ (w.heap.size + 1) 0 _ _ _ e1
    have m1 := cell_of_row y.at_ (w.heap.size + 1) 1 _ _ _ e1
    have m2 := cell_of_row y.at_ (w.heap.size + 1) 2 _ _ _ e1
    simp only [List.getElem?_toArray, List.getElem?_cons_zero, List.getElem?_cons_succ] at m0 m1 m2
    have E2 := hide e2
    have E3 := hide e3
    clear e1 e2 e3 hI hG
    go_wp2_with fail
    refine bodyPost_box rfl ?_
    intro r hr
    simp [results, Oaag.results33, go_sem, m0, m1, m2] at hr
    subst hr
    exact ⟨_, rfl, _, _, rfl, ⟨_, _, _, _, _, _, _, rfl, (unhide E2).lower (by omega), (unhide E3).lower (by omega), e4⟩, unhide HBF⟩
  · go_wp2_with fail
    obtain ⟨pb, hpb⟩ : ∃ pb, pb = w2.heap.size := ⟨_, rfl⟩
    ((first | with_reducible refine Go.Proofs.YgcoaaGreat.NatW.gen_calls ?_ | with_reducible refine Go.Proofs.YgcoaaGreat.NatW.gen_wp ?_ | with_reducible refine Go.Proofs.YgcoaaGreat.NatW.gen_list ?_ | with_reducible refine Go.Proofs.YgcoaaGreat.NatW.gen_body ?_); intro W hW)
    have rp := heap_alloc_new w2 (.cells #[.bool xn, .int .i8 4, .int .i16 xe, .int .u64 xm] 113)
    rw [hW, ← hpb] at rp
    have hbW : Below w2.heap.size w2 W := by rw [← hW]; exact (Below.refl _ _).alloc (Nat.le_refl _) _
    have r1 : W.heap[w.heap.size + 1]? = some (.cells #[.bool false, .slice none 0 0, .slice none 0 0] 67 (0, 0)) := (hbW.block _ (by omega)).trans (unhide P2)
    have HBW := hide ((unhide HB2).trans (hbW.mono (by omega)))
    have hzW : w.heap.size + 2 ≤ W.heap.size := by have := hbW.size; omega
    have hpb2 : w.heap.size + 2 ≤ pb := by omega
    rw [← hpb]
    clear hbW hW P2 HB2 hpb
    clear hz2 hz1
    have hI0 : VaI w.heap.size pb xn 4 xe xm W := ⟨rp, _, _, _, r1⟩
    have HI0 := hide hI0
    clear rp r1 hI0
    obtain ⟨wt, hWt, hst, hkt, hbt⟩ := trunc2 W (w.heap.size + 1) (by omega)
    have hne2 : Nonempty (Later wt) := ⟨⟨W, hWt⟩⟩
    have HBT := hide (fun (y : Later wt) (h : W.heap.size ≤ y.at_.heap.size) => (unhide HBW).trans ((hbt y h).mono (by omega)))
    clear hkt hbt
    have JL : ∀ w1 w2 : World, (VaI w.heap.size pb xn 4 xe xm w1 ∧ W.heap.size ≤ w1.heap.size) → Below w1.heap.size w1 w2 → VaI w.heap.size pb xn 4 xe xm w2 ∧ W.heap.size ≤ w2.heap.size := fun w1 w2 h hb => ⟨h.1.later _ _ hb, Nat.le_trans h.2 hb.size⟩
    (repeat (first | (rewrite [Go.Proofs.YgcoaaGreat.NatW.frz_ite]; generalize Go.Proofs.YgcoaaGreat.NatW.frzI _ = x__) | (rewrite [Go.Proofs.YgcoaaGreat.NatW.frz_dec]; generalize Go.Proofs.YgcoaaGreat.NatW.frzB _ = x__) | (rewrite [Go.Proofs.YgcoaaGreat.NatW.frz_beq]; generalize Go.Proofs.YgcoaaGreat.NatW.frzB _ = x__) | (rewrite [Go.Proofs.YgcoaaGreat.NatW.frz_not]; generalize Go.Proofs.YgcoaaGreat.NatW.frzB _ = x__) | (rewrite [Go.Proofs.YgcoaaGreat.NatW.frz_and]; generalize Go.Proofs.YgcoaaGreat.NatW.frzB _ = x__) | (rewrite [Go.Proofs.YgcoaaGreat.NatW.frz_or]; generalize Go.Proofs.YgcoaaGreat.NatW.frzB _ = x__) | (rewrite [show ∀ (a b : Int), Value.bool (a != b) = Value.bool (Go.Proofs.YgcoaaGreat.NatW.frzB (a != b)) from fun _ _ => rfl]; generalize Go.Proofs.YgcoaaGreat.NatW.frzB _ = x__)))
    refine Go.LaxS.region_gen (⟨W, hWt⟩ : Later wt) 4 4 [(0, fun v => ∃ n a l c a2 l2 c2, v = .agg #[.bool n, .slice a l c, .slice a2 l2 c2]), (2, fun v => v = .int .i8 4)] [(0, fun v w' => Fras (w.heap.size + 2) w' v), (3, fun _ w' => VaTs w.heap.size w')] [3] (fun w' => VaI w.heap.size pb xn 4 xe xm w' ∧ W.heap.size ≤ w'.heap.size) (by kernel_rfl) (by kernel_rfl) (by kernel_rfl) (by kernel_rfl) ⟨unhide HI0, Nat.le_refl _⟩ JL
      (List.forall_mem_cons.2 ⟨fun v w1 w2 h hb => Fras.later h hb, List.forall_mem_cons.2 ⟨VaTs.later, fun _ h => by cases h⟩⟩) (List.forall_mem_cons.2 ⟨⟨_, false, none, 0, 0, none, 0, 0, rfl⟩, List.forall_mem_cons.2 ⟨⟨_, rfl⟩, fun _ h => by cases h⟩⟩) ?_
    refine Go.LaxS.gen_call rfl rfl rfl JL ?_ (fun y K hI hG hK => by
      go_wp2_with fail
      refine (exwhole_any y.at_ false none 0 0).mono ?_
      rintro e w' ⟨a, c, rfl, hr, hb⟩
      have hh := Go.Proofs.YgcoaaGreat.NatW.hide (hK _ w' ⟨_, _, _, _, _, _, _, rfl⟩ ⟨false, none, 0, 0, a, c, 1, rfl, Res.nil, hr.lower (by have := hI.2; omega), ⟨by decide, by decide, by decide⟩⟩ hb)
      clear hK
      go_wp2_with fail
      exact Eq.mp (by kernel_rfl) (Go.Proofs.YgcoaaGreat.NatW.unhide hh))
    rintro v ⟨vn, va, vl, vc, va2, vl2, vc2, rfl⟩
    ((try dsimp only); go_big_quiet_want; go_big_quiet_op; go_big_quiet_on; refine wpQuiet_nil ?_)
    (refine Go.LaxS.walk_det rfl rfl rfl rfl ?_; go_big_quiet_want; go_big_quiet_op; go_big_quiet_on; refine wpQuiet_nil ?_)
    refine Go.LaxS.gen_call rfl rfl rfl JL ?_ (fun y K hI hG hK => by
      have a0 := cell_of_row y.at_ pb 1 _ _ _ hI.1.1
      simp only [List.getElem?_toArray, List.getElem?_cons_zero, List.getElem?_cons_succ] at a0
      have HK := hide hK
      clear hK
      go_wp2_with fail
      exact unhide HK _ _ rfl trivial (Below.refl _ _))
    rintro v rfl
    ((try dsimp only); go_big_quiet_want; go_big_quiet_op; go_big_quiet_on; refine wpQuiet_nil ?_)
    refine Go.LaxS.gen_store2 rfl rfl rfl rfl ?_ (fun y K hI hG hK => by
      obtain ⟨neg, aN, cN, xN, aD, cD, xD, e9, h2, h3, h4⟩ : Fras (w.heap.size + 2) y.at_ _ := hG (0, _) (by (repeat (first | exact List.Mem.head _ | apply List.Mem.tail))) (by kernel_rfl)
      simp only [Value.agg.injEq, Array.mk.injEq, List.cons.injEq, Value.bool.injEq, Value.slice.injEq, and_true] at e9
      obtain ⟨rfl, ⟨rfl, rfl, rfl⟩, rfl, rfl, rfl⟩ := e9
      obtain ⟨⟨i1, u0, u1, u2, i2⟩, i3⟩ := hI
      have a0 := cell_of_row y.at_ (w.heap.size + 1) 0 _ _ _ i2
      have a1 := cell_of_row y.at_ (w.heap.size + 1) 1 _ _ _ i2
      have a2 := cell_of_row y.at_ (w.heap.size + 1) 2 _ _ _ i2
      simp only [List.getElem?_toArray, List.getElem?_cons_zero, List.getElem?_cons_succ] at a0 a1 a2
      have b0 := frozen_of_row y.at_ (w.heap.size + 1) 0 _ _ i2
      have b1 := frozen_of_row y.at_ (w.heap.size + 1) 1 _ _ i2
      have b2 := frozen_of_row y.at_ (w.heap.size + 1) 2 _ _ i2
      have HK := hide hK
      have HF2 := hide h2
      have HF3 := hide h3
      have HI1 := hide i1
      have HI2 := hide i2
      clear hK hG h2 h3 i1 i2
      go_wp2_with fail
      have hs3 := fun v0 v1 v2 => set3 y.at_ (w.heap.size + 1) 67 u0 u1 u2 v0 v1 v2 (unhide HI2)
      refine unhide HK _ ?_ ?_ ?_ ?_
      · rw [hst]
        have := y.ok
        rw [hst] at this
        exact below_store (below_store (below_store this (by omega) _) (by omega) _) (by omega) _
      · refine ⟨⟨?_, _, _, _, hs3 _ _ _⟩, by simp only [World.size_setCell]; exact i3⟩
        simp only [heap_set]
        rw [if_neg (by omega), if_neg (by omega), if_neg (by omega)]
        exact unhide HI1
      · refine ⟨_, _, _, _, _, _, _, hs3 _ _ _, ?_, ?_, h4⟩
        · have hne : ∀ g, _ = some (⟨g, 0, none⟩ : Addr) → g ≠ w.heap.size + 1 := fun g hg => by have := ((unhide HF2).block g hg).1; omega
          exact (((unhide HF2).away _ hne).away _ hne).away _ hne
        · have hne : ∀ g, _ = some (⟨g, 0, none⟩ : Addr) → g ≠ w.heap.size + 1 := fun g hg => by have := ((unhide HF3).block g hg).1; omega
          exact (((unhide HF3).away _ hne).away _ hne).away _ hne
      · intro i u hi ht
        by_cases h0 : i = 0
        · subst h0
          exact Fras.set (Fras.set (Fras.set ht _ (by omega)) _ (by omega)) _ (by omega)
        · have : Go.LaxS.theta [(0, fun v w' => Fras (w.heap.size + 2) w' v), (3, fun _ w' => VaTs w.heap.size w')] i u = fun _ => True := by
            funext z
            unfold Go.LaxS.theta
            have e0 : (i == 0) = false := by simpa using h0
            have e3 : (i == 3) = false := by simpa using hi
            simp only [List.lookup, e0, e3]
          rw [this]
          trivial)
    refine Go.LaxS.gen_end ?_
    intro y hI hG
    obtain ⟨neg, aN, cN, xN, aD, cD, xD, e1, e2, e3, e4⟩ : VaTs w.heap.size y.at_ := hG (3, _) (by (repeat (first | exact List.Mem.head _ | apply List.Mem.tail)))
    have HBF := hide (unhide HBT y hI.2)
    have m0 := cell_of_row y.at_ (w.heap.size + 1) 0 _ _ _ e1
    have m1 := cell_of_row y.at_ (w.heap.size + 1) 1 _ _ _ e1
    have m2 := cell_of_row y.at_ (w.heap.size + 1) 2 _ _ _ e1
    simp only [List.getElem?_toArray, List.getElem?_cons_zero, List.getElem?_cons_succ] at m0 m1 m2
    have E2 := hide e2
    have E3 := hide e3
    clear e1 e2 e3 hI hG
    go_wp2_with fail
    refine bodyPost_box rfl ?_
    intro r hr
    simp [results, Oaag.results33, go_sem, m0, m1, m2] at hr
    subst hr
    exact ⟨_, rfl, _, _, rfl, ⟨_, _, _, _, _, _, _, rfl, (unhide E2).lower (by omega), (unhide E3).lower (by omega), e4⟩, unhide HBF⟩
  obtain ⟨m, rfl⟩ : ∃ m : Nat, xm = (m : Int) := ⟨xm.toNat, by have := uxm.1; omega⟩
  have hm64 : m < 18446744073709551616 := by have := uxm.2; omega
  clear uxm
  have hb3 : (xc == 3) = false := by simpa using n3
  have hb4 : (xc == 4) = false := by simpa using n4
  by_cases hneg : xe < 0
  · obtain ⟨k, rfl⟩ : ∃ k : Nat, xe = -(k : Int) := ⟨(-xe).toNat, by omega⟩
    go_wp2_with fail
    obtain ⟨pb, hpb⟩ : ∃ pb, pb = w2.heap.size := ⟨_, rfl⟩
    ((first | with_reducible refine Go.Proofs.YgcoaaGreat.NatW.gen_calls ?_ | with_reducible refine Go.Proofs.YgcoaaGreat.NatW.gen_wp ?_ | with_reducible refine Go.Proofs.YgcoaaGreat.NatW.gen_list ?_ | with_reducible refine Go.Proofs.YgcoaaGreat.NatW.gen_body ?_); intro W hW)
    have rp := heap_alloc_new w2 (.cells #[.bool xn, .int .i8 xc, .int .i16 (-(k : Int)), .int .u64 (m : Int)] 113)
    rw [hW, ← hpb] at rp
    have hbW : Below w2.heap.size w2 W := by rw [← hW]; exact (Below.refl _ _).alloc (Nat.le_refl _) _
    have r1 : W.heap[w.heap.size + 1]? = some (.cells #[.bool false, .slice none 0 0, .slice none 0 0] 67 (0, 0)) := (hbW.block _ (by omega)).trans (unhide P2)
    have HBW := hide ((unhide HB2).trans (hbW.mono (by omega)))
    have hzW : w.heap.size + 2 ≤ W.heap.size := by have := hbW.size; omega
    have hpb2 : w.heap.size + 2 ≤ pb := by omega
    rw [← hpb]
    clear hbW hW P2 HB2 hpb
    clear hz2 hz1
    have hI0 : VaI w.heap.size pb xn xc (-(k : Int)) (m : Int) W := ⟨rp, _, _, _, r1⟩
    have HI0 := hide hI0
    clear rp r1 hI0
    obtain ⟨wt, hWt, hst, hkt, hbt⟩ := trunc2 W (w.heap.size + 1) (by omega)
    have hne2 : Nonempty (Later wt) := ⟨⟨W, hWt⟩⟩
    have HBT := hide (fun (y : Later wt) (h : W.heap.size ≤ y.at_.heap.size) => (unhide HBW).trans ((hbt y h).mono (by omega)))
    clear hkt hbt
    have JL : ∀ w1 w2 : World, (VaI w.heap.size pb xn xc (-(k : Int)) m w1 ∧ W.heap.size ≤ w1.heap.size) → Below w1.heap.size w1 w2 → VaI w.heap.size pb xn xc (-(k : Int)) m w2 ∧ W.heap.size ≤ w2.heap.size := fun w1 w2 h hb => ⟨h.1.later _ _ hb, Nat.le_trans h.2 hb.size⟩
    have hwk : IntKind.i64.wrap (-(k : Int)) = (-(k : Int)) := by rw [IntKind.wrap_i64]; omega
    (repeat (first | (rewrite [Go.Proofs.YgcoaaGreat.NatW.frz_ite]; generalize Go.Proofs.YgcoaaGreat.NatW.frzI _ = x__) | (rewrite [Go.Proofs.YgcoaaGreat.NatW.frz_dec]; generalize Go.Proofs.YgcoaaGreat.NatW.frzB _ = x__) | (rewrite [Go.Proofs.YgcoaaGreat.NatW.frz_beq]; generalize Go.Proofs.YgcoaaGreat.NatW.frzB _ = x__) | (rewrite [Go.Proofs.YgcoaaGreat.NatW.frz_not]; generalize Go.Proofs.YgcoaaGreat.NatW.frzB _ = x__) | (rewrite [Go.Proofs.YgcoaaGreat.NatW.frz_and]; generalize Go.Proofs.YgcoaaGreat.NatW.frzB _ = x__) | (rewrite [Go.Proofs.YgcoaaGreat.NatW.frz_or]; generalize Go.Proofs.YgcoaaGreat.NatW.frzB _ = x__) | (rewrite [show ∀ (a b : Int), Value.bool (a != b) = Value.bool (Go.Proofs.YgcoaaGreat.NatW.frzB (a != b)) from fun _ _ => rfl]; generalize Go.Proofs.YgcoaaGreat.NatW.frzB _ = x__)))
    refine Go.LaxS.region_gen (⟨W, hWt⟩ : Later wt) 12 6 [(1, fun v => v = .bool xn), (3, fun v => v = .int .u64 (m : Int)), (4, fun v => ∃ a c, v = .slice a (lim m).length c), (6, fun v => v = .int .i16 (-(k : Int))), (8, fun v => ∃ n a l c a2 l2 c2, v = .agg #[.bool n, .slice a l c, .slice a2 l2 c2]), (10, fun v => v = .int .i8 xc)] [(4, fun v w' => ∃ a c, v = .slice a (lim m).length c ∧ Res (w.heap.size + 2) w' a c m), (8, fun v w' => Fras (w.heap.size + 2) w' v), (11, fun _ w' => VaTs w.heap.size w')] [11] (fun w' => VaI w.heap.size pb xn xc (-(k : Int)) m w' ∧ W.heap.size ≤ w'.heap.size) (by kernel_rfl) (by kernel_rfl) (by kernel_rfl) (by kernel_rfl) ⟨unhide HI0, Nat.le_refl _⟩ JL
      (List.forall_mem_cons.2 ⟨fun v w1 w2 h hb => (by
          obtain ⟨a, c, h1, h2⟩ := h
          exact ⟨a, c, h1, h2.later hb⟩), List.forall_mem_cons.2 ⟨fun v w1 w2 h hb => Fras.later h hb, List.forall_mem_cons.2 ⟨VaTs.later, fun _ h => by cases h⟩⟩⟩) (List.forall_mem_cons.2 ⟨⟨_, rfl⟩, List.forall_mem_cons.2 ⟨⟨_, rfl⟩, List.forall_mem_cons.2 ⟨⟨_, none, 0, rfl⟩, List.forall_mem_cons.2 ⟨⟨_, rfl⟩, List.forall_mem_cons.2 ⟨⟨_, false, none, 0, 0, none, 0, 0, rfl⟩, List.forall_mem_cons.2 ⟨⟨_, rfl⟩, fun _ h => by cases h⟩⟩⟩⟩⟩⟩) ?_
    (refine Go.LaxS.walk_det rfl rfl rfl rfl ?_; go_big_quiet_want; go_big_quiet_op; go_big_quiet_on; refine wpQuiet_nil ?_)
    refine Go.LaxS.gen_call rfl rfl rfl JL ?_ (fun y K hI hG hK => by
      have a0 := cell_of_row y.at_ pb 0 _ _ _ hI.1.1
      simp only [List.getElem?_toArray, List.getElem?_cons_zero, List.getElem?_cons_succ] at a0
      have HK := hide hK
      clear hK
      go_wp2_with fail
      exact unhide HK _ _ rfl trivial (Below.refl _ _))
    rintro v rfl
    ((try dsimp only); go_big_quiet_want; go_big_quiet_op; go_big_quiet_on; refine wpQuiet_nil ?_)
    (refine Go.LaxS.walk_det rfl rfl rfl rfl ?_; go_big_quiet_want; go_big_quiet_op; go_big_quiet_on; refine wpQuiet_nil ?_)
    refine Go.LaxS.gen_call rfl rfl rfl JL ?_ (fun y K hI hG hK => by
      have a0 := cell_of_row y.at_ pb 3 _ _ _ hI.1.1
      simp only [List.getElem?_toArray, List.getElem?_cons_zero, List.getElem?_cons_succ] at a0
      have HK := hide hK
      clear hK
      go_wp2_with fail
      exact unhide HK _ _ rfl trivial (Below.refl _ _))
    rintro v rfl
    ((try dsimp only); go_big_quiet_want; go_big_quiet_op; go_big_quiet_on; refine wpQuiet_nil ?_)
    refine Go.LaxS.gen_call rfl rfl rfl JL ?_ (fun y K hI hG hK => by
      go_wp2_with fail
      refine (fromU64_any y.at_ m (by omega)).mono ?_
      rintro e w' ⟨a, c, rfl, hr, hb⟩
      have hh := Go.Proofs.YgcoaaGreat.NatW.hide (hK _ w' ⟨a, c, rfl⟩ ⟨a, c, rfl, hr.lower (by have := hI.2; omega)⟩ hb)
      clear hK
      go_wp2_with fail
      exact Eq.mp (by kernel_rfl) (Go.Proofs.YgcoaaGreat.NatW.unhide hh))
    rintro v ⟨a4, c4, rfl⟩
    ((try dsimp only); go_big_quiet_want; go_big_quiet_op; go_big_quiet_on; refine wpQuiet_nil ?_)
    (refine Go.LaxS.walk_det rfl rfl rfl rfl ?_; go_big_quiet_want; go_big_quiet_op; go_big_quiet_on; refine wpQuiet_nil ?_)
    refine Go.LaxS.gen_call rfl rfl rfl JL ?_ (fun y K hI hG hK => by
      have a0 := cell_of_row y.at_ pb 2 _ _ _ hI.1.1
      simp only [List.getElem?_toArray, List.getElem?_cons_zero, List.getElem?_cons_succ] at a0
      have HK := hide hK
      clear hK
      go_wp2_with fail
      exact unhide HK _ _ rfl trivial (Below.refl _ _))
    rintro v rfl
    ((try dsimp only); go_big_quiet_want; go_big_quiet_op; go_big_quiet_on; refine wpQuiet_nil ?_)
    (refine Go.LaxS.walk_det rfl rfl rfl rfl ?_; go_big_quiet_want; go_big_quiet_op; go_big_quiet_on; refine wpQuiet_nil ?_)
    refine Go.LaxS.gen_call rfl rfl rfl JL ?_ (fun y K hI hG hK => by
      obtain ⟨a9, c9, e9, hr9⟩ : ∃ a c, _ = Value.slice a (lim m).length c ∧ Res (w.heap.size + 2) y.at_ a c m := hG (4, _) (by (repeat (first | exact List.Mem.head _ | apply List.Mem.tail))) (by kernel_rfl)
      cases e9
      have HR9 := hide hr9
      clear hr9 hG
      go_wp2_with fail
      refine (scaleds_neg y.at_ xn _ _ m (w.heap.size + 2) (unhide HR9) (by have := hI.2; omega) (by have := len_small m (by omega); omega) k (by omega) (by omega)).mono ?_
      rintro e w' ⟨v, rfl, hfr, hb⟩
      obtain ⟨neg, aN, cN, xN, aD, cD, xD, rfl, h2, h3, h4⟩ := hfr
      have hh := Go.Proofs.YgcoaaGreat.NatW.hide (hK _ w' ⟨_, _, _, _, _, _, _, rfl⟩ ⟨neg, aN, cN, xN, aD, cD, xD, rfl, h2, h3, h4⟩ hb)
      clear hK
      go_wp2_with fail
      exact Eq.mp (by kernel_rfl) (Go.Proofs.YgcoaaGreat.NatW.unhide hh))
    rintro v ⟨vn, va, vl, vc, va2, vl2, vc2, rfl⟩
    ((try dsimp only); go_big_quiet_want; go_big_quiet_op; go_big_quiet_on; refine wpQuiet_nil ?_)
    (refine Go.LaxS.walk_det rfl rfl rfl rfl ?_; go_big_quiet_want; go_big_quiet_op; go_big_quiet_on; refine wpQuiet_nil ?_)
    refine Go.LaxS.gen_call rfl rfl rfl JL ?_ (fun y K hI hG hK => by
      have a0 := cell_of_row y.at_ pb 1 _ _ _ hI.1.1
      simp only [List.getElem?_toArray, List.getElem?_cons_zero, List.getElem?_cons_succ] at a0
      have HK := hide hK
      clear hK
      go_wp2_with fail
      exact unhide HK _ _ rfl trivial (Below.refl _ _))
    rintro v rfl
    ((try dsimp only); go_big_quiet_want; go_big_quiet_op; go_big_quiet_on; refine wpQuiet_nil ?_)
    refine Go.LaxS.gen_store2 rfl rfl rfl rfl ?_ (fun y K hI hG hK => by
      obtain ⟨neg, aN, cN, xN, aD, cD, xD, e9, h2, h3, h4⟩ : Fras (w.heap.size + 2) y.at_ _ := hG (8, _) (by (repeat (first | exact List.Mem.head _ | apply List.Mem.tail))) (by kernel_rfl)
      simp only [Value.agg.injEq, Array.mk.injEq, List.cons.injEq, Value.bool.injEq, Value.slice.injEq, and_true] at e9
      obtain ⟨rfl, ⟨rfl, rfl, rfl⟩, rfl, rfl, rfl⟩ := e9
      obtain ⟨⟨i1, u0, u1, u2, i2⟩, i3⟩ := hI
      have a0 := cell_of_row y.at_ (w.heap.size + 1) 0 _ _ _ i2
      have a1 := cell_of_row y.at_ (w.heap.size + 1) 1 _ _ _ i2
      have a2 := cell_of_row y.at_ (w.heap.size + 1) 2 _ _ _ i2
      simp only [List.getElem?_toArray, List.getElem?_cons_zero, List.getElem?_cons_succ] at a0 a1 a2
      have b0 := frozen_of_row y.at_ (w.heap.size + 1) 0 _ _ i2
      have b1 := frozen_of_row y.at_ (w.heap.size + 1) 1 _ _ i2
      have b2 := frozen_of_row y.at_ (w.heap.size + 1) 2 _ _ i2
      have HK := hide hK
      have HF2 := hide h2
      have HF3 := hide h3
      have HI1 := hide i1
      have HI2 := hide i2
      clear hK hG h2 h3 i1 i2
      go_wp2_with fail
      have hs3 := fun v0 v1 v2 => set3 y.at_ (w.heap.size + 1) 67 u0 u1 u2 v0 v1 v2 (unhide HI2)
      refine unhide HK _ ?_ ?_ ?_ ?_
      · rw [hst]
        have := y.ok
        rw [hst] at this
        exact below_store (below_store (below_store this (by omega) _) (by omega) _) (by omega) _
      · refine ⟨⟨?_, _, _, _, hs3 _ _ _⟩, by simp only [World.size_setCell]; exact i3⟩
        simp only [heap_set]
        rw [if_neg (by omega), if_neg (by omega), if_neg (by omega)]
        exact unhide HI1
      · refine ⟨_, _, _, _, _, _, _, hs3 _ _ _, ?_, ?_, h4⟩
        · have hne : ∀ g, _ = some (⟨g, 0, none⟩ : Addr) → g ≠ w.heap.size + 1 := fun g hg => by have := ((unhide HF2).block g hg).1; omega
          exact (((unhide HF2).away _ hne).away _ hne).away _ hne
        · have hne : ∀ g, _ = some (⟨g, 0, none⟩ : Addr) → g ≠ w.heap.size + 1 := fun g hg => by have := ((unhide HF3).block g hg).1; omega
          exact (((unhide HF3).away _ hne).away _ hne).away _ hne
      · intro i u hi ht
        by_cases h8 : i = 8
        · subst h8
          exact Fras.set (Fras.set (Fras.set ht _ (by omega)) _ (by omega)) _ (by omega)
        by_cases h4 : i = 4
        · subst h4
          obtain ⟨a, c, t1, t2⟩ : ∃ a c, u = Value.slice a (lim m).length c ∧ Res (w.heap.size + 2) y.at_ a c m := ht
          have hne : ∀ g, a = some (⟨g, 0, none⟩ : Addr) → g ≠ w.heap.size + 1 := fun g hg => by have := (t2.block g hg).1; omega
          exact ⟨a, c, t1, ((t2.away _ hne).away _ hne).away _ hne⟩
        · have : Go.LaxS.theta [(4, fun v w' => ∃ a c, v = .slice a (lim m).length c ∧ Res (w.heap.size + 2) w' a c m), (8, fun v w' => Fras (w.heap.size + 2) w' v), (11, fun _ w' => VaTs w.heap.size w')] i u = fun _ => True := by
            funext z
            unfold Go.LaxS.theta
            have e0 : (i == 4) = false := by simpa using h4
            have e1 : (i == 8) = false := by simpa using h8
            have e3 : (i == 11) = false := by simpa using hi
            simp only [List.lookup, e0, e1, e3]
          rw [this]
          trivial)
    refine Go.LaxS.gen_end ?_
    intro y hI hG
    obtain ⟨neg, aN, cN, xN, aD, cD, xD, e1, e2, e3, e4⟩ : VaTs w.heap.size y.at_ := hG (11, _) (by (repeat (first | exact List.Mem.head _ | apply List.Mem.tail)))
    have HBF := hide (unhide HBT y hI.2)
    have m0 := cell_of_row y.at_ (w.heap.size + 1) 0 _ _ _ e1
    have m1 := cell_of_row y.at_ (w.heap.size + 1) 1 _ _ _ e1
    have m2 := cell_of_row y.at_ (w.heap.size + 1) 2 _ _ _ e1
    simp only [List.getElem?_toArray, List.getElem?_cons_zero, List.getElem?_cons_succ] at m0 m1 m2
    have E2 := hide e2
    have E3 := hide e3
    clear e1 e2 e3 hI hG
    go_wp2_with fail
    refine bodyPost_box rfl ?_
    intro r hr
    simp [results, Oaag.results33, go_sem, m0, m1, m2] at hr
    subst hr
    exact ⟨_, rfl, _, _, rfl, ⟨_, _, _, _, _, _, _, rfl, (unhide E2).lower (by omega), (unhide E3).lower (by omega), e4⟩, unhide HBF⟩
  · obtain ⟨k, rfl⟩ : ∃ k : Nat, xe = (k : Int) := ⟨xe.toNat, by omega⟩
    go_wp2_with fail
    obtain ⟨pb, hpb⟩ : ∃ pb, pb = w2.heap.size := ⟨_, rfl⟩
    ((first | with_reducible refine Go.Proofs.YgcoaaGreat.NatW.gen_calls ?_ | with_reducible refine Go.Proofs.YgcoaaGreat.NatW.gen_wp ?_ | with_reducible refine Go.Proofs.YgcoaaGreat.NatW.gen_list ?_ | with_reducible refine Go.Proofs.YgcoaaGreat.NatW.gen_body ?_); intro W hW)
    have rp := heap_alloc_new w2 (.cells #[.bool xn, .int .i8 xc, .int .i16 (k : Int), .int .u64 (m : Int)] 113)
    rw [hW, ← hpb] at rp
    have hbW : Below w2.heap.size w2 W := by rw [← hW]; exact (Below.refl _ _).alloc (Nat.le_refl _) _
    have r1 : W.heap[w.heap.size + 1]? = some (.cells #[.bool false, .slice none 0 0, .slice none 0 0] 67 (0, 0)) := (hbW.block _ (by omega)).trans (unhide P2)
    have HBW := hide ((unhide HB2).trans (hbW.mono (by omega)))
    have hzW : w.heap.size + 2 ≤ W.heap.size := by have := hbW.size; omega
    have hpb2 : w.heap.size + 2 ≤ pb := by omega
    rw [← hpb]
    clear hbW hW P2 HB2 hpb
    clear hz2 hz1
    have hI0 : VaI w.heap.size pb xn xc (k : Int) (m : Int) W := ⟨rp, _, _, _, r1⟩
    have HI0 := hide hI0
    clear rp r1 hI0
    obtain ⟨wt, hWt, hst, hkt, hbt⟩ := trunc2 W (w.heap.size + 1) (by omega)
    have hne2 : Nonempty (Later wt) := ⟨⟨W, hWt⟩⟩
    have HBT := hide (fun (y : Later wt) (h : W.heap.size ≤ y.at_.heap.size) => (unhide HBW).trans ((hbt y h).mono (by omega)))
    clear hkt hbt
    have JL : ∀ w1 w2 : World, (VaI w.heap.size pb xn xc (k : Int) m w1 ∧ W.heap.size ≤ w1.heap.size) → Below w1.heap.size w1 w2 → VaI w.heap.size pb xn xc (k : Int) m w2 ∧ W.heap.size ≤ w2.heap.size := fun w1 w2 h hb => ⟨h.1.later _ _ hb, Nat.le_trans h.2 hb.size⟩
    have hwk : IntKind.i64.wrap (k : Int) = (k : Int) := by rw [IntKind.wrap_i64]; omega
    (repeat (first | (rewrite [Go.Proofs.YgcoaaGreat.NatW.frz_ite]; generalize Go.Proofs.YgcoaaGreat.NatW.frzI _ = x__) | (rewrite [Go.Proofs.YgcoaaGreat.NatW.frz_dec]; generalize Go.Proofs.YgcoaaGreat.NatW.frzB _ = x__) | (rewrite [Go.Proofs.YgcoaaGreat.NatW.frz_beq]; generalize Go.Proofs.YgcoaaGreat.NatW.frzB _ = x__) | (rewrite [Go.Proofs.YgcoaaGreat.NatW.frz_not]; generalize Go.Proofs.YgcoaaGreat.NatW.frzB _ = x__) | (rewrite [Go.Proofs.YgcoaaGreat.NatW.frz_and]; generalize Go.Proofs.YgcoaaGreat.NatW.frzB _ = x__) | (rewrite [Go.Proofs.YgcoaaGreat.NatW.frz_or]; generalize Go.Proofs.YgcoaaGreat.NatW.frzB _ = x__) | (rewrite [show ∀ (a b : Int), Value.bool (a != b) = Value.bool (Go.Proofs.YgcoaaGreat.NatW.frzB (a != b)) from fun _ _ => rfl]; generalize Go.Proofs.YgcoaaGreat.NatW.frzB _ = x__)))
    refine Go.LaxS.region_gen (⟨W, hWt⟩ : Later wt) 12 6 [(1, fun v => v = .bool xn), (3, fun v => v = .int .u64 (m : Int)), (4, fun v => ∃ a c, v = .slice a (lim m).length c), (6, fun v => v = .int .i16 (k : Int)), (8, fun v => ∃ n a l c a2 l2 c2, v = .agg #[.bool n, .slice a l c, .slice a2 l2 c2]), (10, fun v => v = .int .i8 xc)] [(4, fun v w' => ∃ a c, v = .slice a (lim m).length c ∧ Res (w.heap.size + 2) w' a c m), (8, fun v w' => Fras (w.heap.size + 2) w' v), (11, fun _ w' => VaTs w.heap.size w')] [11] (fun w' => VaI w.heap.size pb xn xc (k : Int) m w' ∧ W.heap.size ≤ w'.heap.size) (by kernel_rfl) (by kernel_rfl) (by kernel_rfl) (by kernel_rfl) ⟨unhide HI0, Nat.le_refl _⟩ JL
      (List.forall_mem_cons.2 ⟨fun v w1 w2 h hb => (by
          obtain ⟨a, c, h1, h2⟩ := h
          exact ⟨a, c, h1, h2.later hb⟩), List.forall_mem_cons.2 ⟨fun v w1 w2 h hb => Fras.later h hb, List.forall_mem_cons.2 ⟨VaTs.later, fun _ h => by cases h⟩⟩⟩) (List.forall_mem_cons.2 ⟨⟨_, rfl⟩, List.forall_mem_cons.2 ⟨⟨_, rfl⟩, List.forall_mem_cons.2 ⟨⟨_, none, 0, rfl⟩, List.forall_mem_cons.2 ⟨⟨_, rfl⟩, List.forall_mem_cons.2 ⟨⟨_, false, none, 0, 0, none, 0, 0, rfl⟩, List.forall_mem_cons.2 ⟨⟨_, rfl⟩, fun _ h => by cases h⟩⟩⟩⟩⟩⟩) ?_
    (refine Go.LaxS.walk_det rfl rfl rfl rfl ?_; go_big_quiet_want; go_big_quiet_op; go_big_quiet_on; refine wpQuiet_nil ?_)
    refine Go.LaxS.gen_call rfl rfl rfl JL ?_ (fun y K hI hG hK => by
      have a0 := cell_of_row y.at_ pb 0 _ _ _ hI.1.1
      simp only [List.getElem?_toArray, List.getElem?_cons_zero, List.getElem?_cons_succ] at a0
      have HK := hide hK
      clear hK
      go_wp2_with fail
      exact unhide HK _ _ rfl trivial (Below.refl _ _))
    rintro v rfl
    ((try dsimp only); go_big_quiet_want; go_big_quiet_op; go_big_quiet_on; refine wpQuiet_nil ?_)
    (refine Go.LaxS.walk_det rfl rfl rfl rfl ?_; go_big_quiet_want; go_big_quiet_op; go_big_quiet_on; refine wpQuiet_nil ?_)
    refine Go.LaxS.gen_call rfl rfl rfl JL ?_ (fun y K hI hG hK => by
      have a0 := cell_of_row y.at_ pb 3 _ _ _ hI.1.1
      simp only [List.getElem?_toArray, List.getElem?_cons_zero, List.getElem?_cons_succ] at a0
      have HK := hide hK
      clear hK
      go_wp2_with fail
      exact unhide HK _ _ rfl trivial (Below.refl _ _))
    rintro v rfl
    ((try dsimp only); go_big_quiet_want; go_big_quiet_op; go_big_quiet_on; refine wpQuiet_nil ?_)
    refine Go.LaxS.gen_call rfl rfl rfl JL ?_ (fun y K hI hG hK => by
      go_wp2_with fail
      refine (fromU64_any y.at_ m (by omega)).mono ?_
      rintro e w' ⟨a, c, rfl, hr, hb⟩
      have hh := Go.Proofs.YgcoaaGreat.NatW.hide (hK _ w' ⟨a, c, rfl⟩ ⟨a, c, rfl, hr.lower (by have := hI.2; omega)⟩ hb)
      clear hK
      go_wp2_with fail
      exact Eq.mp (by kernel_rfl) (Go.Proofs.YgcoaaGreat.NatW.unhide hh))
    rintro v ⟨a4, c4, rfl⟩
    ((try dsimp only); go_big_quiet_want; go_big_quiet_op; go_big_quiet_on; refine wpQuiet_nil ?_)
    (refine Go.LaxS.walk_det rfl rfl rfl rfl ?_; go_big_quiet_want; go_big_quiet_op; go_big_quiet_on; refine wpQuiet_nil ?_)
    refine Go.LaxS.gen_call rfl rfl rfl JL ?_ (fun y K hI hG hK => by
      have a0 := cell_of_row y.at_ pb 2 _ _ _ hI.1.1
      simp only [List.getElem?_toArray, List.getElem?_cons_zero, List.getElem?_cons_succ] at a0
      have HK := hide hK
      clear hK
      go_wp2_with fail
      exact unhide HK _ _ rfl trivial (Below.refl _ _))
    rintro v rfl
    ((try dsimp only); go_big_quiet_want; go_big_quiet_op; go_big_quiet_on; refine wpQuiet_nil ?_)
    (refine Go.LaxS.walk_det rfl rfl rfl rfl ?_; go_big_quiet_want; go_big_quiet_op; go_big_quiet_on; refine wpQuiet_nil ?_)
    refine Go.LaxS.gen_call rfl rfl rfl JL ?_ (fun y K hI hG hK => by
      obtain ⟨a9, c9, e9, hr9⟩ : ∃ a c, _ = Value.slice a (lim m).length c ∧ Res (w.heap.size + 2) y.at_ a c m := hG (4, _) (by (repeat (first | exact List.Mem.head _ | apply List.Mem.tail))) (by kernel_rfl)
      cases e9
      have HR9 := hide hr9
      clear hr9 hG
      go_wp2_with fail
      refine (scaleds_pos y.at_ xn _ _ m (w.heap.size + 2) (unhide HR9) (by have := hI.2; omega) (by have := len_small m (by omega); omega) k (by omega)).mono ?_
      rintro e w' ⟨v, rfl, hfr, hb⟩
      obtain ⟨neg, aN, cN, xN, aD, cD, xD, rfl, h2, h3, h4⟩ := hfr
      have hh := Go.Proofs.YgcoaaGreat.NatW.hide (hK _ w' ⟨_, _, _, _, _, _, _, rfl⟩ ⟨neg, aN, cN, xN, aD, cD, xD, rfl, h2, h3, h4⟩ hb)
      clear hK
      go_wp2_with fail
      exact Eq.mp (by kernel_rfl) (Go.Proofs.YgcoaaGreat.NatW.unhide hh))
    rintro v ⟨vn, va, vl, vc, va2, vl2, vc2, rfl⟩
    ((try dsimp only); go_big_quiet_want; go_big_quiet_op; go_big_quiet_on; refine wpQuiet_nil ?_)
    (refine Go.LaxS.walk_det rfl rfl rfl rfl ?_; go_big_quiet_want; go_big_quiet_op; go_big_quiet_on; refine wpQuiet_nil ?_)
    refine Go.LaxS.gen_call rfl rfl rfl JL ?_ (fun y K hI hG hK => by
      have a0 := cell_of_row y.at_ pb 1 _ _ _ hI.1.1
      simp only [List.getElem?_toArray, List.getElem?_cons_zero, List.getElem?_cons_succ] at a0
      have HK := hide hK
      clear hK
      go_wp2_with fail
      exact unhide HK _ _ rfl trivial (Below.refl _ _))
    rintro v rfl
    ((try dsimp only); go_big_quiet_want; go_big_quiet_op; go_big_quiet_on; refine wpQuiet_nil ?_)
    refine Go.LaxS.gen_store2 rfl rfl rfl rfl ?_ (fun y K hI hG hK => by
      obtain ⟨neg, aN, cN, xN, aD, cD, xD, e9, h2, h3, h4⟩ : Fras (w.heap.size + 2) y.at_ _ := hG (8, _) (by (repeat (first | exact List.Mem.head _ | apply List.Mem.tail))) (by kernel_rfl)
      simp only [Value.agg.injEq, Array.mk.injEq, List.cons.injEq, Value.bool.injEq, Value.slice.injEq, and_true] at e9
      obtain ⟨rfl, ⟨rfl, rfl, rfl⟩, rfl, rfl, rfl⟩ := e9
      obtain ⟨⟨i1, u0, u1, u2, i2⟩, i3⟩ := hI
      have a0 := cell_of_row y.at_ (w.heap.size + 1) 0 _ _ _ i2
      have a1 := cell_of_row y.at_ (w.heap.size + 1) 1 _ _ _ i2
      have a2 := cell_of_row y.at_ (w.heap.size + 1) 2 _ _ _ i2
      simp only [List.getElem?_toArray, List.getElem?_cons_zero, List.getElem?_cons_succ] at a0 a1 a2
      have b0 := frozen_of_row y.at_ (w.heap.size + 1) 0 _ _ i2
      have b1 := frozen_of_row y.at_ (w.heap.size + 1) 1 _ _ i2
      have b2 := frozen_of_row y.at_ (w.heap.size + 1) 2 _ _ i2
      have HK := hide hK
      have HF2 := hide h2
      have HF3 := hide h3
      have HI1 := hide i1
      have HI2 := hide i2
      clear hK hG h2 h3 i1 i2
      go_wp2_with fail
      have hs3 := fun v0 v1 v2 => set3 y.at_ (w.heap.size + 1) 67 u0 u1 u2 v0 v1 v2 (unhide HI2)
      refine unhide HK _ ?_ ?_ ?_ ?_
      · rw [hst]
        have := y.ok
        rw [hst] at this
        exact below_store (below_store (below_store this (by omega) _) (by omega) _) (by omega) _
      · refine ⟨⟨?_, _, _, _, hs3 _ _ _⟩, by simp only [World.size_setCell]; exact i3⟩
        simp only [heap_set]
        rw [if_neg (by omega), if_neg (by omega), if_neg (by omega)]
        exact unhide HI1
      · refine ⟨_, _, _, _, _, _, _, hs3 _ _ _, ?_, ?_, h4⟩
        · have hne : ∀ g, _ = some (⟨g, 0, none⟩ : Addr) → g ≠ w.heap.size + 1 := fun g hg => by have := ((unhide HF2).block g hg).1; omega
          exact (((unhide HF2).away _ hne).away _ hne).away _ hne
        · have hne : ∀ g, _ = some (⟨g, 0, none⟩ : Addr) → g ≠ w.heap.size + 1 := fun g hg => by have := ((unhide HF3).block g hg).1; omega
          exact (((unhide HF3).away _ hne).away _ hne).away _ hne
      · intro i u hi ht
        by_cases h8 : i = 8
        · subst h8
          exact Fras.set (Fras.set (Fras.set ht _ (by omega)) _ (by omega)) _ (by omega)
        by_cases h4 : i = 4
        · subst h4
          obtain ⟨a, c, t1, t2⟩ : ∃ a c, u = Value.slice a (lim m).length c ∧ Res (w.heap.size + 2) y.at_ a c m := ht
          have hne : ∀ g, a = some (⟨g, 0, none⟩ : Addr) → g ≠ w.heap.size + 1 := fun g hg => by have := (t2.block g hg).1; omega
          exact ⟨a, c, t1, ((t2.away _ hne).away _ hne).away _ hne⟩
        · have : Go.LaxS.theta [(4, fun v w' => ∃ a c, v = .slice a (lim m).length c ∧ Res (w.heap.size + 2) w' a c m), (8, fun v w' => Fras (w.heap.size + 2) w' v), (11, fun _ w' => VaTs w.heap.size w')] i u = fun _ => True := by
            funext z
            unfold Go.LaxS.theta
            have e0 : (i == 4) = false := by simpa using h4
            have e1 : (i == 8) = false := by simpa using h8
            have e3 : (i == 11) = false := by simpa using hi
            simp only [List.lookup, e0, e1, e3]
          rw [this]
          trivial)
    refine Go.LaxS.gen_end ?_
    intro y hI hG
    obtain ⟨neg, aN, cN, xN, aD, cD, xD, e1, e2, e3, e4⟩ : VaTs w.heap.size y.at_ := hG (11, _) (by (repeat (first | exact List.Mem.head _ | apply List.Mem.tail)))
    have HBF := hide (unhide HBT y hI.2)
    have m0 := cell_of_row y.at_ (w.heap.size + 1) 0 _ _ _ e1
    have m1 := cell_of_row y.at_ (w.heap.size + 1) 1 _ _ _ e1
    have m2 := cell_of_row y.at_ (w.heap.size + 1) 2 _ _ _ e1
    simp only [List.getElem?_toArray, List.getElem?_cons_zero, List.getElem?_cons_succ] at m0 m1 m2
    have E2 := hide e2
    have E3 := hide e3
    clear e1 e2 e3 hI hG
    go_wp2_with fail
    refine bodyPost_box rfl ?_
    intro r hr
    simp [results, Oaag.results33, go_sem, m0, m1, m2] at hr
    subst hr
    exact ⟨_, rfl, _, _, rfl, ⟨_, _, _, _, _, _, _, rfl, (unhide E2).lower (by omega), (unhide E3).lower (by omega), e4⟩, unhide HBF⟩

end Go.Proofs.YgcoaaGreat.NatW
