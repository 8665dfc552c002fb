/-
  Package exact: OfDec.
-/
import Derived.Test.YgcoaaGreatExF
import Derived.Test.YgcoaaGreatLaxG
set_option linter.unusedVariables false
set_option linter.unusedSimpArgs false
namespace Go.Proofs.YgcoaaGreat.NatW
attribute [local go_sem] Go.Instr.field Go.asAgg
open Go.RowKit
open Go.Proofs.YgcoaaGreat.Limbs Go.Proofs.YgcoaaGreat.Bits

theorem len10 (k : Nat) : (lim (10 ^ k)).length ≤ k + 1 := by
  refine lim_length_le _ _ (Nat.lt_of_le_of_lt (Nat.pow_le_pow_left (by decide : 10 ≤ 4294967296) k) (Nat.pow_lt_pow_right (by decide) (by omega)))
theorem rows2 (w : World) (o1 o2 : Obj) : ((w.alloc o1).alloc o2).heap[w.heap.size]? = some o1 ∧ ((w.alloc o1).alloc o2).heap[w.heap.size + 1]? = some o2 ∧ Below w.heap.size w ((w.alloc o1).alloc o2) ∧ ((w.alloc o1).alloc o2).heap.size = w.heap.size + 2 := by
  have e : ∀ (w : World) (o : Obj), (w.alloc o).heap.size = w.heap.size + 1 := fun w o => by simp
  refine ⟨?_, ?_, ?_, ?_⟩
  · rw [heap_new, e, if_pos (by omega), heap_new, if_neg (by omega), if_pos rfl]
  · rw [heap_new, e, if_neg (by omega), if_pos rfl]
  · exact ((Below.refl _ _).alloc (Nat.le_refl _) _).alloc (by simp) _
  · rw [e, e]

set_option maxRecDepth 20000 in
set_option maxHeartbeats 4000000 in
theorem ofDec_any (w : World) (n : Bool) (d : ByteArray) (x : Int) (hc : Canon d x) :
    Calls Oaag.prog 37 #[.agg #[.bool n, .string d, .int .i16 x]] w fun e w' => ∃ v, e = .returned v ∧ Frac w.heap.size w' v ∧ Below w.heap.size w w' := by
  have hx1 : -2000 ≤ x ∧ x ≤ 2000 := by
    rcases hc with ⟨_, h⟩ | ⟨_, _, _, _, _, h1, h2⟩
    · omega
    · exact ⟨h1, h2⟩
  have hd8 : d.size ≤ 800 := by
    rcases hc with ⟨h, _⟩ | ⟨_, h, _⟩ <;> omega
  have HC := hide hc
  clear hc
  go_enter Oaag.func37, Oaag.ntmps37
  go_wp2_with fail
  obtain ⟨q0, q1, hb0, hz0⟩ := rows2 w (.cells #[.bool n, .string d, .int .i16 x] 74) (.cells #[.bool false, .slice none 0 0, .slice none 0 0] 67)
  ((first | with_reducible refine Go.Proofs.YgcoaaGreat.NatW.gen_calls ?_ | with_reducible refine Go.Proofs.YgcoaaGreat.NatW.gen_wp ?_ | with_reducible refine Go.Proofs.YgcoaaGreat.NatW.gen_list ?_ | with_reducible refine Go.Proofs.YgcoaaGreat.NatW.gen_body ?_); intro W hW)
  rw [hW] at q0 q1 hb0 hz0
  refine decOk_ret n d x (by omega) (by omega) (by omega) W _ ?_
  rintro v w1 ⟨b, rfl, hb⟩ b1
  have hbt : b = true := hb.2 (unhide HC)
  subst hbt
  have p0 : w1.heap[w.heap.size]? = some (.cells #[.bool n, .string d, .int .i16 x] 74 (0, 0)) := (b1.block _ (by omega)).trans q0
  have p1 : w1.heap[w.heap.size + 1]? = some (.cells #[.bool false, .slice none 0 0, .slice none 0 0] 67 (0, 0)) := (b1.block _ (by omega)).trans q1
  have hb1 := hb0.trans (b1.mono hb0.size)
  have hz1 : w.heap.size + 2 ≤ w1.heap.size := by have := b1.size; omega
  clear hb b1 hb0 hz0 q0 q1 hW HC
  have k1 := cell_of_row w1 w.heap.size 1 _ _ _ p0
  simp only [List.getElem?_toArray, List.getElem?_cons_zero, List.getElem?_cons_succ] at k1
  have P0 := hide p0
  have P1 := hide p1
  have HB1 := hide hb1
  clear p0 p1 hb1
  go_wp2_with fail
  refine (ofDigits_any w1 d (by omega)).mono ?_
  rintro e w2 ⟨N, aN, cN, rfl, hN, lN, b2⟩
  have p0 : w2.heap[w.heap.size]? = some (.cells #[.bool n, .string d, .int .i16 x] 74 (0, 0)) := (b2.block _ (by omega)).trans (unhide P0)
  have p1 : w2.heap[w.heap.size + 1]? = some (.cells #[.bool false, .slice none 0 0, .slice none 0 0] 67 (0, 0)) := (b2.block _ (by omega)).trans (unhide P1)
  have hz2 : w.heap.size + 2 ≤ w2.heap.size := by have := b2.size; omega
  have HB2 := hide ((unhide HB1).trans (b2.mono (by omega)))
  have HN2 : Hid (Res (w.heap.size + 2) w2 aN cN N) := hide (hN.lower hz1)
  clear k1 P0 P1 HB1 b2 hN hz1
  obtain ⟨wb, x0, hx, hsame⟩ : ∃ (wb : World) (x0 : Later wb), w2 = x0.at_ ∧ ∀ x : Later wb, Below w2.heap.size w2 x.at_ := ⟨w2, ⟨w2, Below.refl _ _⟩, rfl, fun x => x.ok⟩
  have hne3 : Nonempty (Later wb) := ⟨x0⟩
  have k0 : ∀ y : Later wb, y.at_.cell? ⟨w.heap.size, 0, none⟩ = some (.bool n) := fun y => ((hsame y).cell (p := ⟨w.heap.size, 0, none⟩) (by simp; omega)).trans (by rw [cell_of_row _ _ _ _ _ _ p0]; rfl)
  have k2 : ∀ y : Later wb, y.at_.cell? ⟨w.heap.size, 2, none⟩ = some (.int .i16 x) := fun y => ((hsame y).cell (p := ⟨w.heap.size, 2, none⟩) (by simp; omega)).trans (by rw [cell_of_row _ _ _ _ _ _ p0]; rfl)
  have m0 : ∀ y : Later wb, y.at_.cell? ⟨w.heap.size + 1, 0, none⟩ = some (.bool false) := fun y => ((hsame y).cell (p := ⟨w.heap.size + 1, 0, none⟩) (by simp; omega)).trans (by rw [cell_of_row _ _ _ _ _ _ p1]; rfl)
  have m1 : ∀ y : Later wb, y.at_.cell? ⟨w.heap.size + 1, 1, none⟩ = some (.slice none 0 0) := fun y => ((hsame y).cell (p := ⟨w.heap.size + 1, 1, none⟩) (by simp; omega)).trans (by rw [cell_of_row _ _ _ _ _ _ p1]; rfl)
  have m2 : ∀ y : Later wb, y.at_.cell? ⟨w.heap.size + 1, 2, none⟩ = some (.slice none 0 0) := fun y => ((hsame y).cell (p := ⟨w.heap.size + 1, 2, none⟩) (by simp; omega)).trans (by rw [cell_of_row _ _ _ _ _ _ p1]; rfl)
  have f0 : ∀ (y : Later wb), y.at_.frozen? ⟨w.heap.size + 1, 0, none⟩ = false := fun y => ((hsame y).frozen (p := ⟨w.heap.size + 1, 0, none⟩) (by simp; omega)).trans (frozen_of_row _ _ _ _ _ p1)
  have f1 : ∀ (y : Later wb), y.at_.frozen? ⟨w.heap.size + 1, 1, none⟩ = false := fun y => ((hsame y).frozen (p := ⟨w.heap.size + 1, 1, none⟩) (by simp; omega)).trans (frozen_of_row _ _ _ _ _ p1)
  have f2 : ∀ (y : Later wb), y.at_.frozen? ⟨w.heap.size + 1, 2, none⟩ = false := fun y => ((hsame y).frozen (p := ⟨w.heap.size + 1, 2, none⟩) (by simp; omega)).trans (frozen_of_row _ _ _ _ _ p1)
  have HSM := hide hsame
  have HNY := hide (fun y : Later wb => (unhide HN2).later (hsame y))
  have HBY := hide (fun y : Later wb => (unhide HB2).trans ((hsame y).mono (unhide HB2).size))
  rw [hx]
  clear hx hsame p0 p1 HN2 HB2
  by_cases hneg : x < 0
  · obtain ⟨k, rfl⟩ : ∃ k : Nat, x = -(k : Int) := ⟨(-x).toNat, by omega⟩
    go_wp2_with fail
    have hw : IntKind.i64.wrap (- -(k : Int)) = (k : Int) := by rw [IntKind.wrap_i64]; omega
    have hw' : IntKind.i64.wrap (k : Int) = (k : Int) := by rw [IntKind.wrap_i64]; omega
    (repeat (first | (rewrite [Go.Proofs.YgcoaaGreat.NatW.frz_ite]; generalize Go.Proofs.YgcoaaGreat.NatW.frzI _ = x__) | (rewrite [Go.Proofs.YgcoaaGreat.NatW.frz_dec]; generalize Go.Proofs.YgcoaaGreat.NatW.frzB _ = x__) | (rewrite [Go.Proofs.YgcoaaGreat.NatW.frz_beq]; generalize Go.Proofs.YgcoaaGreat.NatW.frzB _ = x__) | (rewrite [Go.Proofs.YgcoaaGreat.NatW.frz_not]; generalize Go.Proofs.YgcoaaGreat.NatW.frzB _ = x__) | (rewrite [Go.Proofs.YgcoaaGreat.NatW.frz_and]; generalize Go.Proofs.YgcoaaGreat.NatW.frzB _ = x__) | (rewrite [Go.Proofs.YgcoaaGreat.NatW.frz_or]; generalize Go.Proofs.YgcoaaGreat.NatW.frzB _ = x__) | (rewrite [show ∀ (a b : Int), Value.bool (a != b) = Value.bool (Go.Proofs.YgcoaaGreat.NatW.frzB (a != b)) from fun _ _ => rfl]; generalize Go.Proofs.YgcoaaGreat.NatW.frzB _ = x__)))
    refine Go.LaxS.region_gen _ 8 8 [(7, fun v => ∃ a c, v = .slice a (lim (10 ^ k)).length c)] [(7, fun v w' => ∃ a c, v = .slice a (lim (10 ^ k)).length c ∧ Res (w.heap.size + 2) w' a c (10 ^ k))] [] (fun _ => True) (by kernel_rfl) (by kernel_rfl) (by kernel_rfl) (by kernel_rfl) trivial (fun _ _ _ _ => trivial)
      (List.forall_mem_cons.2 ⟨fun v w1 w2 h hb => by
        obtain ⟨a, c, h1, h2⟩ := h
        exact ⟨a, c, h1, h2.later hb⟩, fun _ h => by cases h⟩) (List.forall_mem_cons.2 ⟨⟨_, none, 0, rfl⟩, fun _ h => by cases h⟩) ?_
    iterate 7 (refine Go.LaxS.walk_det rfl rfl rfl rfl ?_; go_big_quiet_want; go_big_quiet_op; go_big_quiet_on; refine wpQuiet_nil ?_)
    refine Go.LaxS.gen_call rfl rfl rfl (fun _ _ _ _ => trivial) ?_ (fun y K hI hG hK => by
      go_wp2_with fail
      refine (pow10_any y.at_ k (by omega)).mono ?_
      rintro e w' ⟨a, c, rfl, hr, hb⟩
      have hz := (unhide HSM y).size
      have hh := Go.Proofs.YgcoaaGreat.NatW.hide (hK _ w' ⟨a, c, rfl⟩ ⟨a, c, rfl, hr.lower (by omega)⟩ hb)
      clear hK
      go_wp2_with fail
      exact Eq.mp (by kernel_rfl) (Go.Proofs.YgcoaaGreat.NatW.unhide hh))
    rintro v ⟨a1, c1, rfl⟩
    ((try dsimp only); go_big_quiet_want; go_big_quiet_op; go_big_quiet_on; refine wpQuiet_nil ?_)
    refine Go.LaxS.gen_end ?_
    intro y hI hG
    obtain ⟨a9, c9, e9, hr9⟩ : ∃ a c, _ = Value.slice a (lim (10 ^ k)).length c ∧ Res (w.heap.size + 2) y.at_ a c (10 ^ k) := hG _ (by (repeat (first | exact List.Mem.head _ | apply List.Mem.tail)))
    cases e9
    clear hG
    have HR9 := hide hr9
    clear hr9
    go_wp2_with fail
    refine bodyPost_box rfl ?_
    intro r hr
    simp [results, Oaag.results37, go_sem, m0, m1, m2] at hr
    subst hr
    refine ⟨_, rfl, _, rfl, ⟨n, aN, cN, N, a1, c1, 10 ^ k, rfl, ?_, ?_, ?_⟩, ?_⟩
    · have h2 := unhide HNY y
      have hne : ∀ g, aN = some ⟨g, 0, none⟩ → g ≠ w.heap.size + 1 := fun g hg => by have := (h2.block g hg).1; omega
      exact (((h2.away _ hne).away _ hne).away _ hne).lower (by omega)
    · have h2 := unhide HR9
      have hne : ∀ g, a1 = some ⟨g, 0, none⟩ → g ≠ w.heap.size + 1 := fun g hg => by have := (h2.block g hg).1; omega
      exact (((h2.away _ hne).away _ hne).away _ hne).lower (by omega)
    · have := Nat.pow_pos (n := k) (show 0 < 10 by decide)
      have := len10 k
      exact ⟨by omega, by omega, by omega⟩
    · exact below_store (below_store (below_store (unhide HBY y) (by omega) _) (by omega) _) (by omega) _
  · obtain ⟨k, rfl⟩ : ∃ k : Nat, x = (k : Int) := ⟨x.toNat, by omega⟩
    go_wp2_with fail
    have L10 := len10 k
    have hw' : IntKind.i64.wrap (k : Int) = (k : Int) := by rw [IntKind.wrap_i64]; omega
    (repeat (first | (rewrite [Go.Proofs.YgcoaaGreat.NatW.frz_ite]; generalize Go.Proofs.YgcoaaGreat.NatW.frzI _ = x__) | (rewrite [Go.Proofs.YgcoaaGreat.NatW.frz_dec]; generalize Go.Proofs.YgcoaaGreat.NatW.frzB _ = x__) | (rewrite [Go.Proofs.YgcoaaGreat.NatW.frz_beq]; generalize Go.Proofs.YgcoaaGreat.NatW.frzB _ = x__) | (rewrite [Go.Proofs.YgcoaaGreat.NatW.frz_not]; generalize Go.Proofs.YgcoaaGreat.NatW.frzB _ = x__) | (rewrite [Go.Proofs.YgcoaaGreat.NatW.frz_and]; generalize Go.Proofs.YgcoaaGreat.NatW.frzB _ = x__) | (rewrite [Go.Proofs.YgcoaaGreat.NatW.frz_or]; generalize Go.Proofs.YgcoaaGreat.NatW.frzB _ = x__) | (rewrite [show ∀ (a b : Int), Value.bool (a != b) = Value.bool (Go.Proofs.YgcoaaGreat.NatW.frzB (a != b)) from fun _ _ => rfl]; generalize Go.Proofs.YgcoaaGreat.NatW.frzB _ = x__)))
    refine Go.LaxS.region_gen _ 8 8 [(6, fun v => ∃ a c, v = .slice a (lim (10 ^ k)).length c), (7, fun v => ∃ a c, v = .slice a (lim (N * 10 ^ k)).length c)] [(6, fun v w' => ∃ a c, v = .slice a (lim (10 ^ k)).length c ∧ Res (w.heap.size + 2) w' a c (10 ^ k)), (7, fun v w' => ∃ a c, v = .slice a (lim (N * 10 ^ k)).length c ∧ Res (w.heap.size + 2) w' a c (N * 10 ^ k))] [] (fun _ => True) (by kernel_rfl) (by kernel_rfl) (by kernel_rfl) (by kernel_rfl) trivial (fun _ _ _ _ => trivial)
      (List.forall_mem_cons.2 ⟨fun v w1 w2 h hb => by
        obtain ⟨a, c, h1, h2⟩ := h
        exact ⟨a, c, h1, h2.later hb⟩, List.forall_mem_cons.2 ⟨fun v w1 w2 h hb => by
        obtain ⟨a, c, h1, h2⟩ := h
        exact ⟨a, c, h1, h2.later hb⟩, fun _ h => by cases h⟩⟩) (List.forall_mem_cons.2 ⟨⟨_, none, 0, rfl⟩, List.forall_mem_cons.2 ⟨⟨_, none, 0, rfl⟩, fun _ h => by cases h⟩⟩) ?_
    iterate 6 (refine Go.LaxS.walk_det rfl rfl rfl rfl ?_; go_big_quiet_want; go_big_quiet_op; go_big_quiet_on; refine wpQuiet_nil ?_)
    refine Go.LaxS.gen_call rfl rfl rfl (fun _ _ _ _ => trivial) ?_ (fun y K hI hG hK => by
      go_wp2_with fail
      refine (pow10_any y.at_ k (by omega)).mono ?_
      rintro e w' ⟨a, c, rfl, hr, hb⟩
      have hz := (unhide HSM y).size
      have hh := Go.Proofs.YgcoaaGreat.NatW.hide (hK _ w' ⟨a, c, rfl⟩ ⟨a, c, rfl, hr.lower (by omega)⟩ hb)
      clear hK
      go_wp2_with fail
      exact Eq.mp (by kernel_rfl) (Go.Proofs.YgcoaaGreat.NatW.unhide hh))
    rintro v ⟨a1, c1, rfl⟩
    ((try dsimp only); go_big_quiet_want; go_big_quiet_op; go_big_quiet_on; refine wpQuiet_nil ?_)
    refine Go.LaxS.gen_call rfl rfl rfl (fun _ _ _ _ => trivial) ?_ (fun y K hI hG hK => by
      obtain ⟨a9, c9, e9, hr9⟩ : ∃ a c, _ = Value.slice a (lim (10 ^ k)).length c ∧ Res (w.heap.size + 2) y.at_ a c (10 ^ k) := hG _ (by (repeat (first | exact List.Mem.head _ | apply List.Mem.tail))) (by kernel_rfl)
      cases e9
      have HR9 := hide hr9
      clear hr9 hG
      go_wp2_with fail
      refine (mul_r y.at_ (unhide HNY y) (unhide HR9) (by omega) (by omega)).mono ?_
      rintro e w' ⟨a, c, rfl, hr, hb⟩
      have hz := (unhide HSM y).size
      have hh := Go.Proofs.YgcoaaGreat.NatW.hide (hK _ w' ⟨a, c, rfl⟩ ⟨a, c, rfl, hr.lower (by omega)⟩ hb)
      clear hK
      go_wp2_with fail
      exact Eq.mp (by kernel_rfl) (Go.Proofs.YgcoaaGreat.NatW.unhide hh))
    rintro v ⟨a2, c2, rfl⟩
    ((try dsimp only); go_big_quiet_want; go_big_quiet_op; go_big_quiet_on; refine wpQuiet_nil ?_)
    refine Go.LaxS.gen_end ?_
    intro y hI hG
    obtain ⟨a9, c9, e9, hr9⟩ : ∃ a c, _ = Value.slice a (lim (N * 10 ^ k)).length c ∧ Res (w.heap.size + 2) y.at_ a c (N * 10 ^ k) := hG (7, _) (by (repeat (first | exact List.Mem.head _ | apply List.Mem.tail)))
    cases e9
    clear hG
    have HR9 := hide hr9
    clear hr9
    go_wp2_with fail
    refine (exwhole_any y.at_ n a2 (lim (N * 10 ^ k)).length c2).mono ?_
    rintro e w3 ⟨a3, c3, rfl, hr3, hb3⟩
    have hzy := (unhide HSM y).size
    have HR3 := hide (hr3.lower (show w.heap.size + 2 ≤ y.at_.heap.size by omega))
    have HN3 := hide ((unhide HR9).later hb3)
    have HB3 := hide ((unhide HBY y).trans (hb3.mono (unhide HBY y).size))
    have n0 := (hb3.cell (p := ⟨w.heap.size + 1, 0, none⟩) (by simp; omega)).trans (m0 y)
    have n1 := (hb3.cell (p := ⟨w.heap.size + 1, 1, none⟩) (by simp; omega)).trans (m1 y)
    have n2 := (hb3.cell (p := ⟨w.heap.size + 1, 2, none⟩) (by simp; omega)).trans (m2 y)
    have g0 := (hb3.frozen (p := ⟨w.heap.size + 1, 0, none⟩) (by simp; omega)).trans (f0 y)
    have g1 := (hb3.frozen (p := ⟨w.heap.size + 1, 1, none⟩) (by simp; omega)).trans (f1 y)
    have g2 := (hb3.frozen (p := ⟨w.heap.size + 1, 2, none⟩) (by simp; omega)).trans (f2 y)
    clear hr3 hb3 HR9
    go_wp2_with fail
    refine bodyPost_box rfl ?_
    intro r hr
    simp [results, Oaag.results37, go_sem, n0, n1, n2] at hr
    subst hr
    refine ⟨_, rfl, _, rfl, ⟨n, a2, c2, N * 10 ^ k, a3, c3, 1, rfl, ?_, ?_, ⟨by decide, by have := len_mul N (10 ^ k); omega, by decide⟩⟩, ?_⟩
    · have h2 := unhide HN3
      have hne : ∀ g, a2 = some ⟨g, 0, none⟩ → g ≠ w.heap.size + 1 := fun g hg => by have := (h2.block g hg).1; omega
      exact (((h2.away _ hne).away _ hne).away _ hne).lower (by omega)
    · have h2 := unhide HR3
      have hne : ∀ g, a3 = some ⟨g, 0, none⟩ → g ≠ w.heap.size + 1 := fun g hg => by have := (h2.block g hg).1; omega
      exact (((h2.away _ hne).away _ hne).away _ hne).lower (by omega)
    · exact below_store (below_store (below_store (unhide HB3) (by omega) _) (by omega) _) (by omega) _

end Go.Proofs.YgcoaaGreat.NatW
