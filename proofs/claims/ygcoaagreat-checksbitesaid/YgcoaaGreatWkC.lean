/-
  Package bound: copied.
-/
import Derived.Test.YgcoaaGreatWkB
import Derived.Test.YgcoaaGreatCkB
import Derived.Test.YgcoaaGreatAgg
set_option linter.unusedVariables false
set_option linter.unusedSimpArgs false
namespace Go.Proofs.YgcoaaGreat.NatW
attribute [local go_sem] Go.Instr.field Go.asAgg
open Go.RowKit
open Go.Proofs.YgcoaaGreat.Limbs Go.Proofs.YgcoaaGreat.Bits

theorem copied_r (w : World) {B : Nat} {a : Option Addr} {cap x : Nat} (h : Res B w a cap x) (hx : 1 ≤ x) (hl : (lim x).length ≤ 1000000) :
    Calls Oaag.prog 215 #[.slice a (lim x).length cap] w fun e w' => ∃ a' c', e = .returned (.slice a' (lim x).length c') ∧ Res w.heap.size w' a' c' x ∧ Below w.heap.size w w' := by
  refine (copiedNat_any w a cap (lim x) h.sl (by omega)).mono ?_
  rintro e w' ⟨a', c', rfl, hb, hc⟩
  refine ⟨a', c', rfl, ?_, hb⟩
  rcases hc with ⟨ha, _, _⟩ | ⟨_, rfl, rfl, hr⟩
  · have := h.nil_iff.1 ha; omega
  · exact .inr ⟨by omega, _, lim x, rfl, Nat.le_refl _, hr, Lt_lim x, rfl, val_lim x⟩

/-- A walk that can go on: its naturals in memory of their own, its places. -/
structure Wk (B : Nat) (w : World) (a1 a2 a3 : Option Addr) (c1 c2 c3 x1 x2 x3 : Nat) (P R N : Nat) : Prop where
  r1 : Res B w a1 c1 x1
  r2 : Res B w a2 c2 x2
  r3 : Res B w a3 c3 x3
  len : (lim x3).length ≤ 1000
  p1 : 1 ≤ x1
  p2 : 1 ≤ x2
  le : x1 + x2 ≤ x3
  hP : 1 ≤ P ∧ P ≤ N
  hR : 1 ≤ R ∧ R ≤ N
  hN : N < 18446744073709551616
abbrev wv (a1 a2 a3 : Option Addr) (c1 c2 c3 x1 x2 x3 : Nat) (P R N : Nat) : Array Value := wk a1 a2 a3 c1 c2 c3 (lim x1) (lim x2) (lim x3) P R N
theorem Wk.l1 {B : Nat} {w : World} {a1 a2 a3 : Option Addr} {c1 c2 c3 x1 x2 x3 P R N : Nat} (h : Wk B w a1 a2 a3 c1 c2 c3 x1 x2 x3 P R N) : (lim x1).length ≤ 1000 := Nat.le_trans (lim_length_mono _ _ (by have := h.le; omega)) h.len
theorem Wk.l2 {B : Nat} {w : World} {a1 a2 a3 : Option Addr} {c1 c2 c3 x1 x2 x3 P R N : Nat} (h : Wk B w a1 a2 a3 c1 c2 c3 x1 x2 x3 P R N) : (lim x2).length ≤ 1000 := Nat.le_trans (lim_length_mono _ _ (by have := h.le; omega)) h.len
theorem Wk.later {B : Nat} {w w' : World} {a1 a2 a3 : Option Addr} {c1 c2 c3 x1 x2 x3 P R N : Nat} (h : Wk B w a1 a2 a3 c1 c2 c3 x1 x2 x3 P R N) (hb : Below w.heap.size w w') : Wk B w' a1 a2 a3 c1 c2 c3 x1 x2 x3 P R N :=
  ⟨h.r1.later hb, h.r2.later hb, h.r3.later hb, h.len, h.p1, h.p2, h.le, h.hP, h.hR, h.hN⟩

theorem away6 {B b : Nat} {w : World} {a : Option Addr} {cap n : Nat} (h : Res B w a cap n) (hb : b < B) {v0 v1 v2 v3 v4 v5 : Value} : Res B ((((((w.setCell ⟨b, 0, none⟩ v0).setCell ⟨b, 1, none⟩ v1).setCell ⟨b, 2, none⟩ v2).setCell ⟨b, 3, none⟩ v3).setCell ⟨b, 4, none⟩ v4).setCell ⟨b, 5, none⟩ v5) a cap n := by
  have hne : ∀ g, a = some (⟨g, 0, none⟩ : Addr) → g ≠ b := fun g hg => by have := (h.block g hg).1; omega
  exact (((((h.away _ hne).away _ hne).away _ hne).away _ hne).away _ hne).away _ hne

set_option maxRecDepth 20000 in
set_option maxHeartbeats 4000000 in
theorem copied_any (w : World) {B : Nat} {a1 a2 a3 : Option Addr} {c1 c2 c3 x1 x2 x3 P R N : Nat} (h : Wk B w a1 a2 a3 c1 c2 c3 x1 x2 x3 P R N) :
    Calls Oaag.prog 118 #[.agg (wv a1 a2 a3 c1 c2 c3 x1 x2 x3 P R N)] w fun e w' => ∃ b1 b2 b3 d1 d2 d3, e = .returned (.agg (wv b1 b2 b3 d1 d2 d3 x1 x2 x3 P R N)) ∧ Wk w.heap.size w' b1 b2 b3 d1 d2 d3 x1 x2 x3 P R N ∧ Below w.heap.size w w' := by
  have H := hide h
  clear h
  go_enter Oaag.func118, Oaag.ntmps118
  go_wp2_with fail
  obtain ⟨q0, q1, hb0, hz0⟩ := rows2 w (.cells (wv a1 a2 a3 c1 c2 c3 x1 x2 x3 P R N) 81) (.cells #[.slice none 0 0, .slice none 0 0, .slice none 0 0, .int .u64 0, .int .u64 0, .int .u64 0] 81)
  ((first | with_reducible refine Go.Proofs.YgcoaaGreat.NatW.gen_calls ?_ | with_reducible refine Go.Proofs.YgcoaaGreat.NatW.gen_wp ?_ | with_reducible refine Go.Proofs.YgcoaaGreat.NatW.gen_list ?_ | with_reducible refine Go.Proofs.YgcoaaGreat.NatW.gen_body ?_); intro W hW)
  rw [show (w.alloc (.cells (wv a1 a2 a3 c1 c2 c3 x1 x2 x3 P R N) 81)).alloc (.cells #[.slice none 0 0, .slice none 0 0, .slice none 0 0, .int .u64 0, .int .u64 0, .int .u64 0] 81) = W from hW] at q0 q1 hb0 hz0
  clear hW
  obtain ⟨wb, x0, hx, hsame⟩ : ∃ (wb : World) (x0 : Later wb), W = x0.at_ ∧ ∀ x : Later wb, Below W.heap.size W x.at_ := ⟨W, ⟨W, Below.refl _ _⟩, rfl, fun x => x.ok⟩
  have hne3 : Nonempty (Later wb) := ⟨x0⟩
  have k0 : ∀ y : Later wb, y.at_.cell? ⟨w.heap.size, 0, none⟩ = some (.slice a1 (lim x1).length c1) := fun y => ((hsame y).cell (p := ⟨w.heap.size, 0, none⟩) (by simp; omega)).trans (by rw [cell_of_row _ _ _ _ _ _ q0]; rfl)
  have k1 : ∀ y : Later wb, y.at_.cell? ⟨w.heap.size, 1, none⟩ = some (.slice a2 (lim x2).length c2) := fun y => ((hsame y).cell (p := ⟨w.heap.size, 1, none⟩) (by simp; omega)).trans (by rw [cell_of_row _ _ _ _ _ _ q0]; rfl)
  have k2 : ∀ y : Later wb, y.at_.cell? ⟨w.heap.size, 2, none⟩ = some (.slice a3 (lim x3).length c3) := fun y => ((hsame y).cell (p := ⟨w.heap.size, 2, none⟩) (by simp; omega)).trans (by rw [cell_of_row _ _ _ _ _ _ q0]; rfl)
  have k3 : ∀ y : Later wb, y.at_.cell? ⟨w.heap.size, 3, none⟩ = some (.int .u64 P) := fun y => ((hsame y).cell (p := ⟨w.heap.size, 3, none⟩) (by simp; omega)).trans (by rw [cell_of_row _ _ _ _ _ _ q0]; rfl)
  have k4 : ∀ y : Later wb, y.at_.cell? ⟨w.heap.size, 4, none⟩ = some (.int .u64 R) := fun y => ((hsame y).cell (p := ⟨w.heap.size, 4, none⟩) (by simp; omega)).trans (by rw [cell_of_row _ _ _ _ _ _ q0]; rfl)
  have k5 : ∀ y : Later wb, y.at_.cell? ⟨w.heap.size, 5, none⟩ = some (.int .u64 N) := fun y => ((hsame y).cell (p := ⟨w.heap.size, 5, none⟩) (by simp; omega)).trans (by rw [cell_of_row _ _ _ _ _ _ q0]; rfl)
  have m0 : ∀ y : Later wb, y.at_.cell? ⟨w.heap.size + 1, 0, none⟩ = some (.slice none 0 0) := fun y => ((hsame y).cell (p := ⟨w.heap.size + 1, 0, none⟩) (by simp; omega)).trans (by rw [cell_of_row _ _ _ _ _ _ q1]; rfl)
  have m1 : ∀ y : Later wb, y.at_.cell? ⟨w.heap.size + 1, 1, none⟩ = some (.slice none 0 0) := fun y => ((hsame y).cell (p := ⟨w.heap.size + 1, 1, none⟩) (by simp; omega)).trans (by rw [cell_of_row _ _ _ _ _ _ q1]; rfl)
  have m2 : ∀ y : Later wb, y.at_.cell? ⟨w.heap.size + 1, 2, none⟩ = some (.slice none 0 0) := fun y => ((hsame y).cell (p := ⟨w.heap.size + 1, 2, none⟩) (by simp; omega)).trans (by rw [cell_of_row _ _ _ _ _ _ q1]; rfl)
  have m3 : ∀ y : Later wb, y.at_.cell? ⟨w.heap.size + 1, 3, none⟩ = some (.int .u64 0) := fun y => ((hsame y).cell (p := ⟨w.heap.size + 1, 3, none⟩) (by simp; omega)).trans (by rw [cell_of_row _ _ _ _ _ _ q1]; rfl)
  have m4 : ∀ y : Later wb, y.at_.cell? ⟨w.heap.size + 1, 4, none⟩ = some (.int .u64 0) := fun y => ((hsame y).cell (p := ⟨w.heap.size + 1, 4, none⟩) (by simp; omega)).trans (by rw [cell_of_row _ _ _ _ _ _ q1]; rfl)
  have m5 : ∀ y : Later wb, y.at_.cell? ⟨w.heap.size + 1, 5, none⟩ = some (.int .u64 0) := fun y => ((hsame y).cell (p := ⟨w.heap.size + 1, 5, none⟩) (by simp; omega)).trans (by rw [cell_of_row _ _ _ _ _ _ q1]; rfl)
  have f0 : ∀ y : Later wb, y.at_.frozen? ⟨w.heap.size + 1, 0, none⟩ = false := fun y => ((hsame y).frozen (p := ⟨w.heap.size + 1, 0, none⟩) (by simp; omega)).trans (frozen_of_row _ _ _ _ _ q1)
  have f1 : ∀ y : Later wb, y.at_.frozen? ⟨w.heap.size + 1, 1, none⟩ = false := fun y => ((hsame y).frozen (p := ⟨w.heap.size + 1, 1, none⟩) (by simp; omega)).trans (frozen_of_row _ _ _ _ _ q1)
  have f2 : ∀ y : Later wb, y.at_.frozen? ⟨w.heap.size + 1, 2, none⟩ = false := fun y => ((hsame y).frozen (p := ⟨w.heap.size + 1, 2, none⟩) (by simp; omega)).trans (frozen_of_row _ _ _ _ _ q1)
  have f3 : ∀ y : Later wb, y.at_.frozen? ⟨w.heap.size + 1, 3, none⟩ = false := fun y => ((hsame y).frozen (p := ⟨w.heap.size + 1, 3, none⟩) (by simp; omega)).trans (frozen_of_row _ _ _ _ _ q1)
  have f4 : ∀ y : Later wb, y.at_.frozen? ⟨w.heap.size + 1, 4, none⟩ = false := fun y => ((hsame y).frozen (p := ⟨w.heap.size + 1, 4, none⟩) (by simp; omega)).trans (frozen_of_row _ _ _ _ _ q1)
  have f5 : ∀ y : Later wb, y.at_.frozen? ⟨w.heap.size + 1, 5, none⟩ = false := fun y => ((hsame y).frozen (p := ⟨w.heap.size + 1, 5, none⟩) (by simp; omega)).trans (frozen_of_row _ _ _ _ _ q1)
  have HY := hide (fun y : Later wb => ((unhide H).later hb0).later (hsame y))
  have HBY := hide (fun y : Later wb => hb0.trans ((hsame y).mono hb0.size))
  have HZY : ∀ y : Later wb, w.heap.size + 2 ≤ y.at_.heap.size := fun y => by have := (hsame y).size; omega
  have hl1 := (unhide H).l1
  have hl2 := (unhide H).l2
  have hl3 := (unhide H).len
  rw [hx]
  clear hx hsame q0 q1 H hb0 hz0
  (repeat (first | (rewrite [Go.Proofs.YgcoaaGreat.NatW.frz_ite]; generalize Go.Proofs.YgcoaaGreat.NatW.frzI _ = x__) | (rewrite [Go.Proofs.YgcoaaGreat.NatW.frz_dec]; generalize Go.Proofs.YgcoaaGreat.NatW.frzB _ = x__) | (rewrite [Go.Proofs.YgcoaaGreat.NatW.frz_beq]; generalize Go.Proofs.YgcoaaGreat.NatW.frzB _ = x__) | (rewrite [Go.Proofs.YgcoaaGreat.NatW.frz_not]; generalize Go.Proofs.YgcoaaGreat.NatW.frzB _ = x__) | (rewrite [Go.Proofs.YgcoaaGreat.NatW.frz_and]; generalize Go.Proofs.YgcoaaGreat.NatW.frzB _ = x__) | (rewrite [Go.Proofs.YgcoaaGreat.NatW.frz_or]; generalize Go.Proofs.YgcoaaGreat.NatW.frzB _ = x__) | (rewrite [show ∀ (a b : Int), Value.bool (a != b) = Value.bool (Go.Proofs.YgcoaaGreat.NatW.frzB (a != b)) from fun _ _ => rfl]; generalize Go.Proofs.YgcoaaGreat.NatW.frzB _ = x__)))
  refine Go.LaxS.region_gen _ 15 4 [(2, fun v => ∃ a c, v = .slice a (lim x1).length c), (5, fun v => ∃ a c, v = .slice a (lim x2).length c), (8, fun v => ∃ a c, v = .slice a (lim x3).length c)]
    [(2, fun v w' => ∃ a c, v = .slice a (lim x1).length c ∧ Res (w.heap.size + 2) w' a c x1), (5, fun v w' => ∃ a c, v = .slice a (lim x2).length c ∧ Res (w.heap.size + 2) w' a c x2), (8, fun v w' => ∃ a c, v = .slice a (lim x3).length c ∧ Res (w.heap.size + 2) w' a c x3)] [] (fun _ => True) (by kernel_rfl) (by kernel_rfl) (by kernel_rfl) (by kernel_rfl) trivial (fun _ _ _ _ => trivial)
    (List.forall_mem_cons.2 ⟨fun v w1 w2 h hb => (by
        obtain ⟨a, c, h1, h2⟩ := h
        exact ⟨a, c, h1, h2.later hb⟩), List.forall_mem_cons.2 ⟨fun v w1 w2 h hb => (by
        obtain ⟨a, c, h1, h2⟩ := h
        exact ⟨a, c, h1, h2.later hb⟩), List.forall_mem_cons.2 ⟨fun v w1 w2 h hb => (by
        obtain ⟨a, c, h1, h2⟩ := h
        exact ⟨a, c, h1, h2.later hb⟩), fun _ h => by cases h⟩⟩⟩) (List.forall_mem_cons.2 ⟨⟨_, none, 0, rfl⟩, List.forall_mem_cons.2 ⟨⟨_, none, 0, rfl⟩, List.forall_mem_cons.2 ⟨⟨_, none, 0, rfl⟩, fun _ h => by cases h⟩⟩⟩) ?_
  iterate 2 (refine Go.LaxS.walk_det rfl rfl rfl rfl ?_; go_big_quiet_want; go_big_quiet_op; go_big_quiet_on; refine wpQuiet_nil ?_)
  refine Go.LaxS.gen_call rfl rfl rfl (fun _ _ _ _ => trivial) ?_ (fun y K hI hG hK => by
    go_wp2_with fail
    refine (copied_r y.at_ (unhide HY y).r1 (unhide HY y).p1 (by omega)).mono ?_
    rintro e w' ⟨a, c, rfl, hr, hb⟩
    have hh := Go.Proofs.YgcoaaGreat.NatW.hide (hK _ w' ⟨a, c, rfl⟩ ⟨a, c, rfl, hr.lower (HZY y)⟩ hb)
    clear hK
    go_wp2_with fail
    exact Eq.mp (by kernel_rfl) (Go.Proofs.YgcoaaGreat.NatW.unhide hh))
  rintro v ⟨b1, d1, rfl⟩
  ((try dsimp only); go_big_quiet_want; go_big_quiet_op; go_big_quiet_on; refine wpQuiet_nil ?_)
  iterate 2 (refine Go.LaxS.walk_det rfl rfl rfl rfl ?_; go_big_quiet_want; go_big_quiet_op; go_big_quiet_on; refine wpQuiet_nil ?_)
  refine Go.LaxS.gen_call rfl rfl rfl (fun _ _ _ _ => trivial) ?_ (fun y K hI hG hK => by
    go_wp2_with fail
    refine (copied_r y.at_ (unhide HY y).r2 (unhide HY y).p2 (by omega)).mono ?_
    rintro e w' ⟨a, c, rfl, hr, hb⟩
    have hh := Go.Proofs.YgcoaaGreat.NatW.hide (hK _ w' ⟨a, c, rfl⟩ ⟨a, c, rfl, hr.lower (HZY y)⟩ hb)
    clear hK
    go_wp2_with fail
    exact Eq.mp (by kernel_rfl) (Go.Proofs.YgcoaaGreat.NatW.unhide hh))
  rintro v ⟨b2, d2, rfl⟩
  ((try dsimp only); go_big_quiet_want; go_big_quiet_op; go_big_quiet_on; refine wpQuiet_nil ?_)
  iterate 2 (refine Go.LaxS.walk_det rfl rfl rfl rfl ?_; go_big_quiet_want; go_big_quiet_op; go_big_quiet_on; refine wpQuiet_nil ?_)
  refine Go.LaxS.gen_call rfl rfl rfl (fun _ _ _ _ => trivial) ?_ (fun y K hI hG hK => by
    go_wp2_with fail
    refine (copied_r y.at_ (unhide HY y).r3 (by have := (unhide HY y).p1; have := (unhide HY y).le; omega) (by omega)).mono ?_
    rintro e w' ⟨a, c, rfl, hr, hb⟩
    have hh := Go.Proofs.YgcoaaGreat.NatW.hide (hK _ w' ⟨a, c, rfl⟩ ⟨a, c, rfl, hr.lower (HZY y)⟩ hb)
    clear hK
    go_wp2_with fail
    exact Eq.mp (by kernel_rfl) (Go.Proofs.YgcoaaGreat.NatW.unhide hh))
  rintro v ⟨b3, d3, rfl⟩
  ((try dsimp only); go_big_quiet_want; go_big_quiet_op; go_big_quiet_on; refine wpQuiet_nil ?_)
  iterate 6 (refine Go.LaxS.walk_det rfl rfl rfl rfl ?_; go_big_quiet_want; go_big_quiet_op; go_big_quiet_on; refine wpQuiet_nil ?_)
  refine Go.LaxS.gen_end ?_
  intro y hI hG
  obtain ⟨t1, u1, e1, g1⟩ : ∃ a c, _ = Value.slice a (lim x1).length c ∧ Res (w.heap.size + 2) y.at_ a c x1 := hG (2, _) (by (repeat (first | exact List.Mem.head _ | apply List.Mem.tail)))
  obtain ⟨t2, u2, e2, g2⟩ : ∃ a c, _ = Value.slice a (lim x2).length c ∧ Res (w.heap.size + 2) y.at_ a c x2 := hG (5, _) (by (repeat (first | exact List.Mem.head _ | apply List.Mem.tail)))
  obtain ⟨t3, u3, e3, g3⟩ : ∃ a c, _ = Value.slice a (lim x3).length c ∧ Res (w.heap.size + 2) y.at_ a c x3 := hG (8, _) (by (repeat (first | exact List.Mem.head _ | apply List.Mem.tail)))
  cases e1
  cases e2
  cases e3
  have G1 := hide g1
  have G2 := hide g2
  have G3 := hide g3
  clear hI hG g1 g2 g3
  go_wp2_with fail
  refine bodyPost_box rfl ?_
  intro r hr
  simp [results, Oaag.results118, go_sem, m0, m1, m2, m3, m4, m5] at hr
  subst hr
  have hW := unhide HY y
  refine ⟨_, rfl, b1, b2, b3, d1, d2, d3, rfl, ⟨?_, ?_, ?_, hW.len, hW.p1, hW.p2, hW.le, hW.hP, hW.hR, hW.hN⟩, ?_⟩
  · exact (away6 (unhide G1) (by omega)).lower (by omega)
  · exact (away6 (unhide G2) (by omega)).lower (by omega)
  · exact (away6 (unhide G3) (by omega)).lower (by omega)
  · exact below_store (below_store (below_store (below_store (below_store (below_store (unhide HBY y) (by omega) _) (by omega) _) (by omega) _) (by omega) _) (by omega) _) (by omega) _
end Go.Proofs.YgcoaaGreat.NatW
