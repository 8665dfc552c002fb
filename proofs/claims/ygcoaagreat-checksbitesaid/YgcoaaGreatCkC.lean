/-
  Package bound: Check.
-/
import Derived.Test.YgcoaaGreatCkB
set_option linter.unusedVariables false
set_option linter.unusedSimpArgs false
namespace Go.Proofs.YgcoaaGreat.NatW
attribute [local go_sem] Go.Instr.field Go.asAgg
open Go.RowKit
open Go.Proofs.YgcoaaGreat.Limbs

set_option maxRecDepth 20000 in
set_option maxHeartbeats 8000000 in
theorem check_0 (w : World) (a1 : Option Addr) (c1 : Nat) (l1 : List Nat) (h1 : Sl w a1 c1 l1) (a2 : Option Addr) (c2 : Nat) (l2 : List Nat) (h2 : Sl w a2 c2 l2) (a3 : Option Addr) (c3 : Nat) (l3 : List Nat) (h3 : Sl w a3 c3 l3) (hl1 : l1.length ≤ 1000000) (hl2 : l2.length ≤ 1000000) (hl3 : l3.length ≤ 1000000) (P R N : Int)
    (k0 : nrm a1 l1 = false) :
    Calls Oaag.prog 41 #[.agg (wk a1 a2 a3 c1 c2 c3 l1 l2 l3 P R N)] w fun e w' => e = .returned (.bool false) ∧ Below w.heap.size w w' := by
  have q24 := eqnil24
  have K0 := hide k0
  have hck : CkH w w a1 a2 a3 c1 c2 c3 l1 l2 l3 := ⟨h1, h2, h3, hl1, hl2, hl3, Below.refl _ _⟩
  have hb0 : Below w.heap.size w (w.alloc (.cells (wk a1 a2 a3 c1 c2 c3 l1 l2 l3 P R N) 81)) := (Below.refl _ _).alloc (Nat.le_refl _) _
  have HC0 := hide (hck.later hb0)
  clear h1 h2 h3 hl1 hl2 hl3 hck hb0 k0
  go_enter Oaag.func41, Oaag.ntmps41
  go_wp2_with fail
  have r0 := heap_alloc_new w (.cells (wk a1 a2 a3 c1 c2 c3 l1 l2 l3 P R N) 81)
  ((first | with_reducible refine Go.Proofs.YgcoaaGreat.NatW.gen_calls ?_ | with_reducible refine Go.Proofs.YgcoaaGreat.NatW.gen_wp ?_ | with_reducible refine Go.Proofs.YgcoaaGreat.NatW.gen_list ?_ | with_reducible refine Go.Proofs.YgcoaaGreat.NatW.gen_body ?_); intro W hW)
  rw [show w.alloc (.cells (wk a1 a2 a3 c1 c2 c3 l1 l2 l3 P R N) 81) = W from hW] at HC0 r0
  clear hW
  have hzl : w.heap.size < W.heap.size := (Array.getElem?_eq_some_iff.1 r0).1
  obtain ⟨wb, x0, hx, hsame⟩ : ∃ (wb : World) (x0 : Later wb), W = x0.at_ ∧ ∀ x : Later wb, Below W.heap.size W x.at_ := ⟨W, ⟨W, Below.refl _ _⟩, rfl, fun x => x.ok⟩
  have hne3 : Nonempty (Later wb) := ⟨x0⟩
  have d0 : ∀ y : Later wb, y.at_.cell? ⟨w.heap.size, 0, none⟩ = some (.slice a1 l1.length c1) := fun y => ((hsame y).cell (p := ⟨w.heap.size, 0, none⟩) hzl).trans (by rw [cell_of_row _ _ _ _ _ _ r0]; rfl)
  have d1 : ∀ y : Later wb, y.at_.cell? ⟨w.heap.size, 1, none⟩ = some (.slice a2 l2.length c2) := fun y => ((hsame y).cell (p := ⟨w.heap.size, 1, none⟩) hzl).trans (by rw [cell_of_row _ _ _ _ _ _ r0]; rfl)
  have d2 : ∀ y : Later wb, y.at_.cell? ⟨w.heap.size, 2, none⟩ = some (.slice a3 l3.length c3) := fun y => ((hsame y).cell (p := ⟨w.heap.size, 2, none⟩) hzl).trans (by rw [cell_of_row _ _ _ _ _ _ r0]; rfl)
  have d3 : ∀ y : Later wb, y.at_.cell? ⟨w.heap.size, 3, none⟩ = some (.int .u64 P) := fun y => ((hsame y).cell (p := ⟨w.heap.size, 3, none⟩) hzl).trans (by rw [cell_of_row _ _ _ _ _ _ r0]; rfl)
  have d4 : ∀ y : Later wb, y.at_.cell? ⟨w.heap.size, 4, none⟩ = some (.int .u64 R) := fun y => ((hsame y).cell (p := ⟨w.heap.size, 4, none⟩) hzl).trans (by rw [cell_of_row _ _ _ _ _ _ r0]; rfl)
  have d5 : ∀ y : Later wb, y.at_.cell? ⟨w.heap.size, 5, none⟩ = some (.int .u64 N) := fun y => ((hsame y).cell (p := ⟨w.heap.size, 5, none⟩) hzl).trans (by rw [cell_of_row _ _ _ _ _ _ r0]; rfl)
  have HCY := hide (fun y : Later wb => CkH.later HC0 (hsame y))
  rw [hx]
  clear hx hsame r0 HC0 hzl
  (repeat (first | (rewrite [Go.Proofs.YgcoaaGreat.NatW.frz_ite]; generalize Go.Proofs.YgcoaaGreat.NatW.frzI _ = x__) | (rewrite [Go.Proofs.YgcoaaGreat.NatW.frz_dec]; generalize Go.Proofs.YgcoaaGreat.NatW.frzB _ = x__) | (rewrite [Go.Proofs.YgcoaaGreat.NatW.frz_beq]; generalize Go.Proofs.YgcoaaGreat.NatW.frzB _ = x__) | (rewrite [Go.Proofs.YgcoaaGreat.NatW.frz_not]; generalize Go.Proofs.YgcoaaGreat.NatW.frzB _ = x__) | (rewrite [Go.Proofs.YgcoaaGreat.NatW.frz_and]; generalize Go.Proofs.YgcoaaGreat.NatW.frzB _ = x__) | (rewrite [Go.Proofs.YgcoaaGreat.NatW.frz_or]; generalize Go.Proofs.YgcoaaGreat.NatW.frzB _ = x__) | (rewrite [show ∀ (a b : Int), Value.bool (a != b) = Value.bool (Go.Proofs.YgcoaaGreat.NatW.frzB (a != b)) from fun _ _ => rfl]; generalize Go.Proofs.YgcoaaGreat.NatW.frzB _ = x__)))
  refine Go.LaxQ.region_guarded _ 58 2 [4, 5, 6, 9, 10, 11, 14, 15, 16, 19, 20, 21, 24, 25, 26, 27, 28, 29, 30, 31, 32, 35, 36, 37, 40, 41, 42, 43, 44, 47, 48, 49, 52, 53, 54, 55, 56] [(2, fun v => v = .bool false), (7, fun v => v = .bool false), (12, fun v => v = .bool false), (17, fun v => v = .bool false), (22, fun v => v = .bool false), (33, fun v => v = .bool false), (38, fun v => v = .bool false), (45, fun v => v = .bool false), (50, fun v => v = .bool false), (57, fun v => v = .bool false)] [] (fun _ => True) (by kernel_rfl) (by kernel_rfl) (by kernel_rfl) (by kernel_rfl) trivial (fun _ _ _ _ => trivial) (fun _ h => by cases h) (List.forall_mem_cons.2 ⟨⟨_, rfl⟩, List.forall_mem_cons.2 ⟨⟨_, rfl⟩, List.forall_mem_cons.2 ⟨⟨_, rfl⟩, List.forall_mem_cons.2 ⟨⟨_, rfl⟩, List.forall_mem_cons.2 ⟨⟨_, rfl⟩, List.forall_mem_cons.2 ⟨⟨_, rfl⟩, List.forall_mem_cons.2 ⟨⟨_, rfl⟩, List.forall_mem_cons.2 ⟨⟨_, rfl⟩, List.forall_mem_cons.2 ⟨⟨_, rfl⟩, List.forall_mem_cons.2 ⟨⟨_, rfl⟩, fun _ h => by cases h⟩⟩⟩⟩⟩⟩⟩⟩⟩⟩) ?_
  (refine Go.LaxQ.walk_det rfl rfl rfl rfl rfl ?_; go_big_quiet_want; go_big_quiet_op; go_big_quiet_on; refine wpQuiet_nil ?_)
  (refine Go.LaxQ.walk_det rfl rfl rfl rfl rfl ?_; go_big_quiet_want; go_big_quiet_op; go_big_quiet_on; refine wpQuiet_nil ?_)
  refine Go.LaxQ.q_call rfl rfl rfl rfl (fun _ _ _ _ => trivial) ?_ (fun y K hI hG hK => by
      go_wp2_with fail
      refine (ck_n1 (unhide HCY y) K0).mono ?_
      rintro e w' ⟨hw', rfl⟩
      have hb : Below y.at_.heap.size y.at_ w' := by rw [← hw']; exact Below.refl _ _
      have hh := Go.Proofs.YgcoaaGreat.NatW.hide (hK _ w' rfl trivial hb)
      clear hK
      go_wp2_with fail
      exact Eq.mp (by kernel_rfl) (Go.Proofs.YgcoaaGreat.NatW.unhide hh))
  rintro v9 rfl
  ((try dsimp only); go_big_quiet_want; go_big_quiet_op; go_big_quiet_on; refine wpQuiet_nil ?_)
  (refine Go.LaxQ.walk_det rfl rfl rfl rfl rfl ?_; go_big_quiet_want; go_big_quiet_op; go_big_quiet_on; refine wpQuiet_nil ?_)
  (refine Go.LaxQ.walk_skip_mv rfl rfl ?_; (try dsimp only); go_big_quiet_want; go_big_quiet_op; go_big_quiet_on; refine wpQuiet_nil ?_)
  (refine Go.LaxQ.walk_skip_mv rfl rfl ?_; (try dsimp only); go_big_quiet_want; go_big_quiet_op; go_big_quiet_on; refine wpQuiet_nil ?_)
  (refine Go.LaxQ.walk_skip_mv rfl rfl ?_; (try dsimp only); go_big_quiet_want; go_big_quiet_op; go_big_quiet_on; refine wpQuiet_nil ?_)
  refine Go.LaxQ.q_call rfl rfl rfl rfl (fun _ _ _ _ => trivial) ?_ (fun y K hI hG hK => by
      have HK := hide hK
      clear hK
      go_wp2_with fail
      exact unhide HK _ _ rfl trivial (Below.refl _ _))
  rintro v9 rfl
  ((try dsimp only); go_big_quiet_want; go_big_quiet_op; go_big_quiet_on; refine wpQuiet_nil ?_)
  (refine Go.LaxQ.walk_det rfl rfl rfl rfl rfl ?_; go_big_quiet_want; go_big_quiet_op; go_big_quiet_on; refine wpQuiet_nil ?_)
  (refine Go.LaxQ.walk_skip_mv rfl rfl ?_; (try dsimp only); go_big_quiet_want; go_big_quiet_op; go_big_quiet_on; refine wpQuiet_nil ?_)
  (refine Go.LaxQ.walk_skip_mv rfl rfl ?_; (try dsimp only); go_big_quiet_want; go_big_quiet_op; go_big_quiet_on; refine wpQuiet_nil ?_)
  (refine Go.LaxQ.walk_skip_mv rfl rfl ?_; (try dsimp only); go_big_quiet_want; go_big_quiet_op; go_big_quiet_on; refine wpQuiet_nil ?_)
  refine Go.LaxQ.q_call rfl rfl rfl rfl (fun _ _ _ _ => trivial) ?_ (fun y K hI hG hK => by
      have HK := hide hK
      clear hK
      go_wp2_with fail
      exact unhide HK _ _ rfl trivial (Below.refl _ _))
  rintro v9 rfl
  ((try dsimp only); go_big_quiet_want; go_big_quiet_op; go_big_quiet_on; refine wpQuiet_nil ?_)
  (refine Go.LaxQ.walk_det rfl rfl rfl rfl rfl ?_; go_big_quiet_want; go_big_quiet_op; go_big_quiet_on; refine wpQuiet_nil ?_)
  (refine Go.LaxQ.walk_skip_mv rfl rfl ?_; (try dsimp only); go_big_quiet_want; go_big_quiet_op; go_big_quiet_on; refine wpQuiet_nil ?_)
  (refine Go.LaxQ.walk_skip_mv rfl rfl ?_; (try dsimp only); go_big_quiet_want; go_big_quiet_op; go_big_quiet_on; refine wpQuiet_nil ?_)
  (refine Go.LaxQ.walk_skip_mv rfl rfl ?_; (try dsimp only); go_big_quiet_want; go_big_quiet_op; go_big_quiet_on; refine wpQuiet_nil ?_)
  refine Go.LaxQ.q_call rfl rfl rfl rfl (fun _ _ _ _ => trivial) ?_ (fun y K hI hG hK => by
      have HK := hide hK
      clear hK
      go_wp2_with fail
      exact unhide HK _ _ rfl trivial (Below.refl _ _))
  rintro v9 rfl
  ((try dsimp only); go_big_quiet_want; go_big_quiet_op; go_big_quiet_on; refine wpQuiet_nil ?_)
  (refine Go.LaxQ.walk_det rfl rfl rfl rfl rfl ?_; go_big_quiet_want; go_big_quiet_op; go_big_quiet_on; refine wpQuiet_nil ?_)
  (refine Go.LaxQ.walk_skip_mv rfl rfl ?_; (try dsimp only); go_big_quiet_want; go_big_quiet_op; go_big_quiet_on; refine wpQuiet_nil ?_)
  (refine Go.LaxQ.walk_skip_mv rfl rfl ?_; (try dsimp only); go_big_quiet_want; go_big_quiet_op; go_big_quiet_on; refine wpQuiet_nil ?_)
  (refine Go.LaxQ.walk_skip_mv rfl rfl ?_; (try dsimp only); go_big_quiet_want; go_big_quiet_op; go_big_quiet_on; refine wpQuiet_nil ?_)
  refine Go.LaxQ.q_call rfl rfl rfl rfl (fun _ _ _ _ => trivial) ?_ (fun y K hI hG hK => by
      have HK := hide hK
      clear hK
      go_wp2_with fail
      exact unhide HK _ _ rfl trivial (Below.refl _ _))
  rintro v9 rfl
  ((try dsimp only); go_big_quiet_want; go_big_quiet_op; go_big_quiet_on; refine wpQuiet_nil ?_)
  (refine Go.LaxQ.walk_det rfl rfl rfl rfl rfl ?_; go_big_quiet_want; go_big_quiet_op; go_big_quiet_on; refine wpQuiet_nil ?_)
  (refine Go.LaxQ.walk_skip_mv rfl rfl ?_; (try dsimp only); go_big_quiet_want; go_big_quiet_op; go_big_quiet_on; refine wpQuiet_nil ?_)
  (refine Go.LaxQ.walk_skip_mv rfl rfl ?_; (try dsimp only); go_big_quiet_want; go_big_quiet_op; go_big_quiet_on; refine wpQuiet_nil ?_)
  (refine Go.LaxQ.walk_skip_mv rfl rfl ?_; (try dsimp only); go_big_quiet_want; go_big_quiet_op; go_big_quiet_on; refine wpQuiet_nil ?_)
  (refine Go.LaxQ.walk_skip_mv rfl rfl ?_; (try dsimp only); go_big_quiet_want; go_big_quiet_op; go_big_quiet_on; refine wpQuiet_nil ?_)
  (refine Go.LaxQ.walk_skip_mv rfl rfl ?_; (try dsimp only); go_big_quiet_want; go_big_quiet_op; go_big_quiet_on; refine wpQuiet_nil ?_)
  (refine Go.LaxQ.walk_skip_mv rfl rfl ?_; (try dsimp only); go_big_quiet_want; go_big_quiet_op; go_big_quiet_on; refine wpQuiet_nil ?_)
  (refine Go.LaxQ.walk_skip_mv rfl rfl ?_; (try dsimp only); go_big_quiet_want; go_big_quiet_op; go_big_quiet_on; refine wpQuiet_nil ?_)
  (refine Go.LaxQ.walk_skip_mv rfl rfl ?_; (try dsimp only); go_big_quiet_want; go_big_quiet_op; go_big_quiet_on; refine wpQuiet_nil ?_)
  (refine Go.LaxQ.walk_skip_mv rfl rfl ?_; (try dsimp only); go_big_quiet_want; go_big_quiet_op; go_big_quiet_on; refine wpQuiet_nil ?_)
  refine Go.LaxQ.q_call rfl rfl rfl rfl (fun _ _ _ _ => trivial) ?_ (fun y K hI hG hK => by
      have HK := hide hK
      clear hK
      go_wp2_with fail
      exact unhide HK _ _ rfl trivial (Below.refl _ _))
  rintro v9 rfl
  ((try dsimp only); go_big_quiet_want; go_big_quiet_op; go_big_quiet_on; refine wpQuiet_nil ?_)
  (refine Go.LaxQ.walk_det rfl rfl rfl rfl rfl ?_; go_big_quiet_want; go_big_quiet_op; go_big_quiet_on; refine wpQuiet_nil ?_)
  (refine Go.LaxQ.walk_skip_mv rfl rfl ?_; (try dsimp only); go_big_quiet_want; go_big_quiet_op; go_big_quiet_on; refine wpQuiet_nil ?_)
  (refine Go.LaxQ.walk_skip_mv rfl rfl ?_; (try dsimp only); go_big_quiet_want; go_big_quiet_op; go_big_quiet_on; refine wpQuiet_nil ?_)
  (refine Go.LaxQ.walk_skip_mv rfl rfl ?_; (try dsimp only); go_big_quiet_want; go_big_quiet_op; go_big_quiet_on; refine wpQuiet_nil ?_)
  refine Go.LaxQ.q_call rfl rfl rfl rfl (fun _ _ _ _ => trivial) ?_ (fun y K hI hG hK => by
      have HK := hide hK
      clear hK
      go_wp2_with fail
      exact unhide HK _ _ rfl trivial (Below.refl _ _))
  rintro v9 rfl
  ((try dsimp only); go_big_quiet_want; go_big_quiet_op; go_big_quiet_on; refine wpQuiet_nil ?_)
  (refine Go.LaxQ.walk_det rfl rfl rfl rfl rfl ?_; go_big_quiet_want; go_big_quiet_op; go_big_quiet_on; refine wpQuiet_nil ?_)
  (refine Go.LaxQ.walk_skip_mv rfl rfl ?_; (try dsimp only); go_big_quiet_want; go_big_quiet_op; go_big_quiet_on; refine wpQuiet_nil ?_)
  (refine Go.LaxQ.walk_skip_mv rfl rfl ?_; (try dsimp only); go_big_quiet_want; go_big_quiet_op; go_big_quiet_on; refine wpQuiet_nil ?_)
  (refine Go.LaxQ.walk_skip_mv rfl rfl ?_; (try dsimp only); go_big_quiet_want; go_big_quiet_op; go_big_quiet_on; refine wpQuiet_nil ?_)
  (refine Go.LaxQ.walk_skip_mv rfl rfl ?_; (try dsimp only); go_big_quiet_want; go_big_quiet_op; go_big_quiet_on; refine wpQuiet_nil ?_)
  (refine Go.LaxQ.walk_skip_mv rfl rfl ?_; (try dsimp only); go_big_quiet_want; go_big_quiet_op; go_big_quiet_on; refine wpQuiet_nil ?_)
  refine Go.LaxQ.q_call rfl rfl rfl rfl (fun _ _ _ _ => trivial) ?_ (fun y K hI hG hK => by
      have HK := hide hK
      clear hK
      go_wp2_with fail
      exact unhide HK _ _ rfl trivial (Below.refl _ _))
  rintro v9 rfl
  ((try dsimp only); go_big_quiet_want; go_big_quiet_op; go_big_quiet_on; refine wpQuiet_nil ?_)
  (refine Go.LaxQ.walk_det rfl rfl rfl rfl rfl ?_; go_big_quiet_want; go_big_quiet_op; go_big_quiet_on; refine wpQuiet_nil ?_)
  (refine Go.LaxQ.walk_skip_mv rfl rfl ?_; (try dsimp only); go_big_quiet_want; go_big_quiet_op; go_big_quiet_on; refine wpQuiet_nil ?_)
  (refine Go.LaxQ.walk_skip_mv rfl rfl ?_; (try dsimp only); go_big_quiet_want; go_big_quiet_op; go_big_quiet_on; refine wpQuiet_nil ?_)
  (refine Go.LaxQ.walk_skip_mv rfl rfl ?_; (try dsimp only); go_big_quiet_want; go_big_quiet_op; go_big_quiet_on; refine wpQuiet_nil ?_)
  refine Go.LaxQ.q_call rfl rfl rfl rfl (fun _ _ _ _ => trivial) ?_ (fun y K hI hG hK => by
      have HK := hide hK
      clear hK
      go_wp2_with fail
      exact unhide HK _ _ rfl trivial (Below.refl _ _))
  rintro v9 rfl
  ((try dsimp only); go_big_quiet_want; go_big_quiet_op; go_big_quiet_on; refine wpQuiet_nil ?_)
  (refine Go.LaxQ.walk_det rfl rfl rfl rfl rfl ?_; go_big_quiet_want; go_big_quiet_op; go_big_quiet_on; refine wpQuiet_nil ?_)
  (refine Go.LaxQ.walk_skip_mv rfl rfl ?_; (try dsimp only); go_big_quiet_want; go_big_quiet_op; go_big_quiet_on; refine wpQuiet_nil ?_)
  (refine Go.LaxQ.walk_skip_mv rfl rfl ?_; (try dsimp only); go_big_quiet_want; go_big_quiet_op; go_big_quiet_on; refine wpQuiet_nil ?_)
  (refine Go.LaxQ.walk_skip_mv rfl rfl ?_; (try dsimp only); go_big_quiet_want; go_big_quiet_op; go_big_quiet_on; refine wpQuiet_nil ?_)
  (refine Go.LaxQ.walk_skip_mv rfl rfl ?_; (try dsimp only); go_big_quiet_want; go_big_quiet_op; go_big_quiet_on; refine wpQuiet_nil ?_)
  (refine Go.LaxQ.walk_skip_mv rfl rfl ?_; (try dsimp only); go_big_quiet_want; go_big_quiet_op; go_big_quiet_on; refine wpQuiet_nil ?_)
  refine Go.LaxQ.q_call rfl rfl rfl rfl (fun _ _ _ _ => trivial) ?_ (fun y K hI hG hK => by
      have HK := hide hK
      clear hK
      go_wp2_with fail
      exact unhide HK _ _ rfl trivial (Below.refl _ _))
  rintro v9 rfl
  ((try dsimp only); go_big_quiet_want; go_big_quiet_op; go_big_quiet_on; refine wpQuiet_nil ?_)
  refine Go.LaxQ.q_end ?_
  intro y hI hG
  clear hI hG
  go_wp2_with fail
  go_ret
  exact ⟨rfl, (unhide HCY y).b⟩

set_option maxRecDepth 20000 in
set_option maxHeartbeats 8000000 in
theorem check_1 (w : World) (a1 : Option Addr) (c1 : Nat) (l1 : List Nat) (h1 : Sl w a1 c1 l1) (a2 : Option Addr) (c2 : Nat) (l2 : List Nat) (h2 : Sl w a2 c2 l2) (a3 : Option Addr) (c3 : Nat) (l3 : List Nat) (h3 : Sl w a3 c3 l3) (hl1 : l1.length ≤ 1000000) (hl2 : l2.length ≤ 1000000) (hl3 : l3.length ≤ 1000000) (P R N : Int)
    (k0 : nrm a1 l1 = true) (k1 : nrm a2 l2 = false) :
    Calls Oaag.prog 41 #[.agg (wk a1 a2 a3 c1 c2 c3 l1 l2 l3 P R N)] w fun e w' => e = .returned (.bool false) ∧ Below w.heap.size w w' := by
  have q24 := eqnil24
  have K0 := hide k0
  have K1 := hide k1
  have hck : CkH w w a1 a2 a3 c1 c2 c3 l1 l2 l3 := ⟨h1, h2, h3, hl1, hl2, hl3, Below.refl _ _⟩
  have hb0 : Below w.heap.size w (w.alloc (.cells (wk a1 a2 a3 c1 c2 c3 l1 l2 l3 P R N) 81)) := (Below.refl _ _).alloc (Nat.le_refl _) _
  have HC0 := hide (hck.later hb0)
  clear h1 h2 h3 hl1 hl2 hl3 hck hb0 k0 k1
  go_enter Oaag.func41, Oaag.ntmps41
  go_wp2_with fail
  have r0 := heap_alloc_new w (.cells (wk a1 a2 a3 c1 c2 c3 l1 l2 l3 P R N) 81)
  ((first | with_reducible refine Go.Proofs.YgcoaaGreat.NatW.gen_calls ?_ | with_reducible refine Go.Proofs.YgcoaaGreat.NatW.gen_wp ?_ | with_reducible refine Go.Proofs.YgcoaaGreat.NatW.gen_list ?_ | with_reducible refine Go.Proofs.YgcoaaGreat.NatW.gen_body ?_); intro W hW)
  rw [show w.alloc (.cells (wk a1 a2 a3 c1 c2 c3 l1 l2 l3 P R N) 81) = W from hW] at HC0 r0
  clear hW
  have hzl : w.heap.size < W.heap.size := (Array.getElem?_eq_some_iff.1 r0).1
  obtain ⟨wb, x0, hx, hsame⟩ : ∃ (wb : World) (x0 : Later wb), W = x0.at_ ∧ ∀ x : Later wb, Below W.heap.size W x.at_ := ⟨W, ⟨W, Below.refl _ _⟩, rfl, fun x => x.ok⟩
  have hne3 : Nonempty (Later wb) := ⟨x0⟩
  have d0 : ∀ y : Later wb, y.at_.cell? ⟨w.heap.size, 0, none⟩ = some (.slice a1 l1.length c1) := fun y => ((hsame y).cell (p := ⟨w.heap.size, 0, none⟩) hzl).trans (by rw [cell_of_row _ _ _ _ _ _ r0]; rfl)
  have d1 : ∀ y : Later wb, y.at_.cell? ⟨w.heap.size, 1, none⟩ = some (.slice a2 l2.length c2) := fun y => ((hsame y).cell (p := ⟨w.heap.size, 1, none⟩) hzl).trans (by rw [cell_of_row _ _ _ _ _ _ r0]; rfl)
  have d2 : ∀ y : Later wb, y.at_.cell? ⟨w.heap.size, 2, none⟩ = some (.slice a3 l3.length c3) := fun y => ((hsame y).cell (p := ⟨w.heap.size, 2, none⟩) hzl).trans (by rw [cell_of_row _ _ _ _ _ _ r0]; rfl)
  have d3 : ∀ y : Later wb, y.at_.cell? ⟨w.heap.size, 3, none⟩ = some (.int .u64 P) := fun y => ((hsame y).cell (p := ⟨w.heap.size, 3, none⟩) hzl).trans (by rw [cell_of_row _ _ _ _ _ _ r0]; rfl)
  have d4 : ∀ y : Later wb, y.at_.cell? ⟨w.heap.size, 4, none⟩ = some (.int .u64 R) := fun y => ((hsame y).cell (p := ⟨w.heap.size, 4, none⟩) hzl).trans (by rw [cell_of_row _ _ _ _ _ _ r0]; rfl)
  have d5 : ∀ y : Later wb, y.at_.cell? ⟨w.heap.size, 5, none⟩ = some (.int .u64 N) := fun y => ((hsame y).cell (p := ⟨w.heap.size, 5, none⟩) hzl).trans (by rw [cell_of_row _ _ _ _ _ _ r0]; rfl)
  have HCY := hide (fun y : Later wb => CkH.later HC0 (hsame y))
  rw [hx]
  clear hx hsame r0 HC0 hzl
  (repeat (first | (rewrite [Go.Proofs.YgcoaaGreat.NatW.frz_ite]; generalize Go.Proofs.YgcoaaGreat.NatW.frzI _ = x__) | (rewrite [Go.Proofs.YgcoaaGreat.NatW.frz_dec]; generalize Go.Proofs.YgcoaaGreat.NatW.frzB _ = x__) | (rewrite [Go.Proofs.YgcoaaGreat.NatW.frz_beq]; generalize Go.Proofs.YgcoaaGreat.NatW.frzB _ = x__) | (rewrite [Go.Proofs.YgcoaaGreat.NatW.frz_not]; generalize Go.Proofs.YgcoaaGreat.NatW.frzB _ = x__) | (rewrite [Go.Proofs.YgcoaaGreat.NatW.frz_and]; generalize Go.Proofs.YgcoaaGreat.NatW.frzB _ = x__) | (rewrite [Go.Proofs.YgcoaaGreat.NatW.frz_or]; generalize Go.Proofs.YgcoaaGreat.NatW.frzB _ = x__) | (rewrite [show ∀ (a b : Int), Value.bool (a != b) = Value.bool (Go.Proofs.YgcoaaGreat.NatW.frzB (a != b)) from fun _ _ => rfl]; generalize Go.Proofs.YgcoaaGreat.NatW.frzB _ = x__)))
  refine Go.LaxQ.region_guarded _ 58 2 [9, 10, 11, 14, 15, 16, 19, 20, 21, 24, 25, 26, 27, 28, 29, 30, 31, 32, 35, 36, 37, 40, 41, 42, 43, 44, 47, 48, 49, 52, 53, 54, 55, 56] [(2, fun v => v = .bool true), (6, fun v => v = .bool false), (7, fun v => v = .bool false), (12, fun v => v = .bool false), (17, fun v => v = .bool false), (22, fun v => v = .bool false), (33, fun v => v = .bool false), (38, fun v => v = .bool false), (45, fun v => v = .bool false), (50, fun v => v = .bool false), (57, fun v => v = .bool false)] [] (fun _ => True) (by kernel_rfl) (by kernel_rfl) (by kernel_rfl) (by kernel_rfl) trivial (fun _ _ _ _ => trivial) (fun _ h => by cases h) (List.forall_mem_cons.2 ⟨⟨_, rfl⟩, List.forall_mem_cons.2 ⟨⟨_, rfl⟩, List.forall_mem_cons.2 ⟨⟨_, rfl⟩, List.forall_mem_cons.2 ⟨⟨_, rfl⟩, List.forall_mem_cons.2 ⟨⟨_, rfl⟩, List.forall_mem_cons.2 ⟨⟨_, rfl⟩, List.forall_mem_cons.2 ⟨⟨_, rfl⟩, List.forall_mem_cons.2 ⟨⟨_, rfl⟩, List.forall_mem_cons.2 ⟨⟨_, rfl⟩, List.forall_mem_cons.2 ⟨⟨_, rfl⟩, List.forall_mem_cons.2 ⟨⟨_, rfl⟩, fun _ h => by cases h⟩⟩⟩⟩⟩⟩⟩⟩⟩⟩⟩) ?_
  (refine Go.LaxQ.walk_det rfl rfl rfl rfl rfl ?_; go_big_quiet_want; go_big_quiet_op; go_big_quiet_on; refine wpQuiet_nil ?_)
  (refine Go.LaxQ.walk_det rfl rfl rfl rfl rfl ?_; go_big_quiet_want; go_big_quiet_op; go_big_quiet_on; refine wpQuiet_nil ?_)
  refine Go.LaxQ.q_call rfl rfl rfl rfl (fun _ _ _ _ => trivial) ?_ (fun y K hI hG hK => by
      go_wp2_with fail
      refine (ck_n1 (unhide HCY y) K0).mono ?_
      rintro e w' ⟨hw', rfl⟩
      have hb : Below y.at_.heap.size y.at_ w' := by rw [← hw']; exact Below.refl _ _
      have hh := Go.Proofs.YgcoaaGreat.NatW.hide (hK _ w' rfl trivial hb)
      clear hK
      go_wp2_with fail
      exact Eq.mp (by kernel_rfl) (Go.Proofs.YgcoaaGreat.NatW.unhide hh))
  rintro v9 rfl
  ((try dsimp only); go_big_quiet_want; go_big_quiet_op; go_big_quiet_on; refine wpQuiet_nil ?_)
  (refine Go.LaxQ.walk_det rfl rfl rfl rfl rfl ?_; go_big_quiet_want; go_big_quiet_op; go_big_quiet_on; refine wpQuiet_nil ?_)
  (refine Go.LaxQ.walk_det rfl rfl rfl rfl rfl ?_; go_big_quiet_want; go_big_quiet_op; go_big_quiet_on; refine wpQuiet_nil ?_)
  (refine Go.LaxQ.walk_det rfl rfl rfl rfl rfl ?_; go_big_quiet_want; go_big_quiet_op; go_big_quiet_on; refine wpQuiet_nil ?_)
  refine Go.LaxQ.q_call rfl rfl rfl rfl (fun _ _ _ _ => trivial) ?_ (fun y K hI hG hK => by
      go_wp2_with fail
      refine (ck_n2 (unhide HCY y) K1).mono ?_
      rintro e w' ⟨hw', rfl⟩
      have hb : Below y.at_.heap.size y.at_ w' := by rw [← hw']; exact Below.refl _ _
      have hh := Go.Proofs.YgcoaaGreat.NatW.hide (hK _ w' rfl trivial hb)
      clear hK
      go_wp2_with fail
      exact Eq.mp (by kernel_rfl) (Go.Proofs.YgcoaaGreat.NatW.unhide hh))
  rintro v9 rfl
  ((try dsimp only); go_big_quiet_want; go_big_quiet_op; go_big_quiet_on; refine wpQuiet_nil ?_)
  refine Go.LaxQ.q_call rfl rfl rfl rfl (fun _ _ _ _ => trivial) ?_ (fun y K hI hG hK => by
      have HK := hide hK
      clear hK
      go_wp2_with fail
      exact unhide HK _ _ rfl trivial (Below.refl _ _))
  rintro v9 rfl
  ((try dsimp only); go_big_quiet_want; go_big_quiet_op; go_big_quiet_on; refine wpQuiet_nil ?_)
  (refine Go.LaxQ.walk_det rfl rfl rfl rfl rfl ?_; go_big_quiet_want; go_big_quiet_op; go_big_quiet_on; refine wpQuiet_nil ?_)
  (refine Go.LaxQ.walk_skip_mv rfl rfl ?_; (try dsimp only); go_big_quiet_want; go_big_quiet_op; go_big_quiet_on; refine wpQuiet_nil ?_)
  (refine Go.LaxQ.walk_skip_mv rfl rfl ?_; (try dsimp only); go_big_quiet_want; go_big_quiet_op; go_big_quiet_on; refine wpQuiet_nil ?_)
  (refine Go.LaxQ.walk_skip_mv rfl rfl ?_; (try dsimp only); go_big_quiet_want; go_big_quiet_op; go_big_quiet_on; refine wpQuiet_nil ?_)
  refine Go.LaxQ.q_call rfl rfl rfl rfl (fun _ _ _ _ => trivial) ?_ (fun y K hI hG hK => by
      have HK := hide hK
      clear hK
      go_wp2_with fail
      exact unhide HK _ _ rfl trivial (Below.refl _ _))
  rintro v9 rfl
  ((try dsimp only); go_big_quiet_want; go_big_quiet_op; go_big_quiet_on; refine wpQuiet_nil ?_)
  (refine Go.LaxQ.walk_det rfl rfl rfl rfl rfl ?_; go_big_quiet_want; go_big_quiet_op; go_big_quiet_on; refine wpQuiet_nil ?_)
  (refine Go.LaxQ.walk_skip_mv rfl rfl ?_; (try dsimp only); go_big_quiet_want; go_big_quiet_op; go_big_quiet_on; refine wpQuiet_nil ?_)
  (refine Go.LaxQ.walk_skip_mv rfl rfl ?_; (try dsimp only); go_big_quiet_want; go_big_quiet_op; go_big_quiet_on; refine wpQuiet_nil ?_)
  (refine Go.LaxQ.walk_skip_mv rfl rfl ?_; (try dsimp only); go_big_quiet_want; go_big_quiet_op; go_big_quiet_on; refine wpQuiet_nil ?_)
  refine Go.LaxQ.q_call rfl rfl rfl rfl (fun _ _ _ _ => trivial) ?_ (fun y K hI hG hK => by
      have HK := hide hK
      clear hK
      go_wp2_with fail
      exact unhide HK _ _ rfl trivial (Below.refl _ _))
  rintro v9 rfl
  ((try dsimp only); go_big_quiet_want; go_big_quiet_op; go_big_quiet_on; refine wpQuiet_nil ?_)
  (refine Go.LaxQ.walk_det rfl rfl rfl rfl rfl ?_; go_big_quiet_want; go_big_quiet_op; go_big_quiet_on; refine wpQuiet_nil ?_)
  (refine Go.LaxQ.walk_skip_mv rfl rfl ?_; (try dsimp only); go_big_quiet_want; go_big_quiet_op; go_big_quiet_on; refine wpQuiet_nil ?_)
  (refine Go.LaxQ.walk_skip_mv rfl rfl ?_; (try dsimp only); go_big_quiet_want; go_big_quiet_op; go_big_quiet_on; refine wpQuiet_nil ?_)
  (refine Go.LaxQ.walk_skip_mv rfl rfl ?_; (try dsimp only); go_big_quiet_want; go_big_quiet_op; go_big_quiet_on; refine wpQuiet_nil ?_)
  refine Go.LaxQ.q_call rfl rfl rfl rfl (fun _ _ _ _ => trivial) ?_ (fun y K hI hG hK => by
      have HK := hide hK
      clear hK
      go_wp2_with fail
      exact unhide HK _ _ rfl trivial (Below.refl _ _))
  rintro v9 rfl
  ((try dsimp only); go_big_quiet_want; go_big_quiet_op; go_big_quiet_on; refine wpQuiet_nil ?_)
  (refine Go.LaxQ.walk_det rfl rfl rfl rfl rfl ?_; go_big_quiet_want; go_big_quiet_op; go_big_quiet_on; refine wpQuiet_nil ?_)
  (refine Go.LaxQ.walk_skip_mv rfl rfl ?_; (try dsimp only); go_big_quiet_want; go_big_quiet_op; go_big_quiet_on; refine wpQuiet_nil ?_)
  (refine Go.LaxQ.walk_skip_mv rfl rfl ?_; (try dsimp only); go_big_quiet_want; go_big_quiet_op; go_big_quiet_on; refine wpQuiet_nil ?_)
  (refine Go.LaxQ.walk_skip_mv rfl rfl ?_; (try dsimp only); go_big_quiet_want; go_big_quiet_op; go_big_quiet_on; refine wpQuiet_nil ?_)
  (refine Go.LaxQ.walk_skip_mv rfl rfl ?_; (try dsimp only); go_big_quiet_want; go_big_quiet_op; go_big_quiet_on; refine wpQuiet_nil ?_)
  (refine Go.LaxQ.walk_skip_mv rfl rfl ?_; (try dsimp only); go_big_quiet_want; go_big_quiet_op; go_big_quiet_on; refine wpQuiet_nil ?_)
  (refine Go.LaxQ.walk_skip_mv rfl rfl ?_; (try dsimp only); go_big_quiet_want; go_big_quiet_op; go_big_quiet_on; refine wpQuiet_nil ?_)
  (refine Go.LaxQ.walk_skip_mv rfl rfl ?_; (try dsimp only); go_big_quiet_want; go_big_quiet_op; go_big_quiet_on; refine wpQuiet_nil ?_)
  (refine Go.LaxQ.walk_skip_mv rfl rfl ?_; (try dsimp only); go_big_quiet_want; go_big_quiet_op; go_big_quiet_on; refine wpQuiet_nil ?_)
  (refine Go.LaxQ.walk_skip_mv rfl rfl ?_; (try dsimp only); go_big_quiet_want; go_big_quiet_op; go_big_quiet_on; refine wpQuiet_nil ?_)
  refine Go.LaxQ.q_call rfl rfl rfl rfl (fun _ _ _ _ => trivial) ?_ (fun y K hI hG hK => by
      have HK := hide hK
      clear hK
      go_wp2_with fail
      exact unhide HK _ _ rfl trivial (Below.refl _ _))
  rintro v9 rfl
  ((try dsimp only); go_big_quiet_want; go_big_quiet_op; go_big_quiet_on; refine wpQuiet_nil ?_)
  (refine Go.LaxQ.walk_det rfl rfl rfl rfl rfl ?_; go_big_quiet_want; go_big_quiet_op; go_big_quiet_on; refine wpQuiet_nil ?_)
  (refine Go.LaxQ.walk_skip_mv rfl rfl ?_; (try dsimp only); go_big_quiet_want; go_big_quiet_op; go_big_quiet_on; refine wpQuiet_nil ?_)
  (refine Go.LaxQ.walk_skip_mv rfl rfl ?_; (try dsimp only); go_big_quiet_want; go_big_quiet_op; go_big_quiet_on; refine wpQuiet_nil ?_)
  (refine Go.LaxQ.walk_skip_mv rfl rfl ?_; (try dsimp only); go_big_quiet_want; go_big_quiet_op; go_big_quiet_on; refine wpQuiet_nil ?_)
  refine Go.LaxQ.q_call rfl rfl rfl rfl (fun _ _ _ _ => trivial) ?_ (fun y K hI hG hK => by
      have HK := hide hK
      clear hK
      go_wp2_with fail
      exact unhide HK _ _ rfl trivial (Below.refl _ _))
  rintro v9 rfl
  ((try dsimp only); go_big_quiet_want; go_big_quiet_op; go_big_quiet_on; refine wpQuiet_nil ?_)
  (refine Go.LaxQ.walk_det rfl rfl rfl rfl rfl ?_; go_big_quiet_want; go_big_quiet_op; go_big_quiet_on; refine wpQuiet_nil ?_)
  (refine Go.LaxQ.walk_skip_mv rfl rfl ?_; (try dsimp only); go_big_quiet_want; go_big_quiet_op; go_big_quiet_on; refine wpQuiet_nil ?_)
  (refine Go.LaxQ.walk_skip_mv rfl rfl ?_; (try dsimp only); go_big_quiet_want; go_big_quiet_op; go_big_quiet_on; refine wpQuiet_nil ?_)
  (refine Go.LaxQ.walk_skip_mv rfl rfl ?_; (try dsimp only); go_big_quiet_want; go_big_quiet_op; go_big_quiet_on; refine wpQuiet_nil ?_)
  (refine Go.LaxQ.walk_skip_mv rfl rfl ?_; (try dsimp only); go_big_quiet_want; go_big_quiet_op; go_big_quiet_on; refine wpQuiet_nil ?_)
  (refine Go.LaxQ.walk_skip_mv rfl rfl ?_; (try dsimp only); go_big_quiet_want; go_big_quiet_op; go_big_quiet_on; refine wpQuiet_nil ?_)
  refine Go.LaxQ.q_call rfl rfl rfl rfl (fun _ _ _ _ => trivial) ?_ (fun y K hI hG hK => by
      have HK := hide hK
      clear hK
      go_wp2_with fail
      exact unhide HK _ _ rfl trivial (Below.refl _ _))
  rintro v9 rfl
  ((try dsimp only); go_big_quiet_want; go_big_quiet_op; go_big_quiet_on; refine wpQuiet_nil ?_)
  (refine Go.LaxQ.walk_det rfl rfl rfl rfl rfl ?_; go_big_quiet_want; go_big_quiet_op; go_big_quiet_on; refine wpQuiet_nil ?_)
  (refine Go.LaxQ.walk_skip_mv rfl rfl ?_; (try dsimp only); go_big_quiet_want; go_big_quiet_op; go_big_quiet_on; refine wpQuiet_nil ?_)
  (refine Go.LaxQ.walk_skip_mv rfl rfl ?_; (try dsimp only); go_big_quiet_want; go_big_quiet_op; go_big_quiet_on; refine wpQuiet_nil ?_)
  (refine Go.LaxQ.walk_skip_mv rfl rfl ?_; (try dsimp only); go_big_quiet_want; go_big_quiet_op; go_big_quiet_on; refine wpQuiet_nil ?_)
  refine Go.LaxQ.q_call rfl rfl rfl rfl (fun _ _ _ _ => trivial) ?_ (fun y K hI hG hK => by
      have HK := hide hK
      clear hK
      go_wp2_with fail
      exact unhide HK _ _ rfl trivial (Below.refl _ _))
  rintro v9 rfl
  ((try dsimp only); go_big_quiet_want; go_big_quiet_op; go_big_quiet_on; refine wpQuiet_nil ?_)
  (refine Go.LaxQ.walk_det rfl rfl rfl rfl rfl ?_; go_big_quiet_want; go_big_quiet_op; go_big_quiet_on; refine wpQuiet_nil ?_)
  (refine Go.LaxQ.walk_skip_mv rfl rfl ?_; (try dsimp only); go_big_quiet_want; go_big_quiet_op; go_big_quiet_on; refine wpQuiet_nil ?_)
  (refine Go.LaxQ.walk_skip_mv rfl rfl ?_; (try dsimp only); go_big_quiet_want; go_big_quiet_op; go_big_quiet_on; refine wpQuiet_nil ?_)
  (refine Go.LaxQ.walk_skip_mv rfl rfl ?_; (try dsimp only); go_big_quiet_want; go_big_quiet_op; go_big_quiet_on; refine wpQuiet_nil ?_)
  (refine Go.LaxQ.walk_skip_mv rfl rfl ?_; (try dsimp only); go_big_quiet_want; go_big_quiet_op; go_big_quiet_on; refine wpQuiet_nil ?_)
  (refine Go.LaxQ.walk_skip_mv rfl rfl ?_; (try dsimp only); go_big_quiet_want; go_big_quiet_op; go_big_quiet_on; refine wpQuiet_nil ?_)
  refine Go.LaxQ.q_call rfl rfl rfl rfl (fun _ _ _ _ => trivial) ?_ (fun y K hI hG hK => by
      have HK := hide hK
      clear hK
      go_wp2_with fail
      exact unhide HK _ _ rfl trivial (Below.refl _ _))
  rintro v9 rfl
  ((try dsimp only); go_big_quiet_want; go_big_quiet_op; go_big_quiet_on; refine wpQuiet_nil ?_)
  refine Go.LaxQ.q_end ?_
  intro y hI hG
  clear hI hG
  go_wp2_with fail
  go_ret
  exact ⟨rfl, (unhide HCY y).b⟩

set_option maxRecDepth 20000 in
set_option maxHeartbeats 8000000 in
theorem check_2 (w : World) (a1 : Option Addr) (c1 : Nat) (l1 : List Nat) (h1 : Sl w a1 c1 l1) (a2 : Option Addr) (c2 : Nat) (l2 : List Nat) (h2 : Sl w a2 c2 l2) (a3 : Option Addr) (c3 : Nat) (l3 : List Nat) (h3 : Sl w a3 c3 l3) (hl1 : l1.length ≤ 1000000) (hl2 : l2.length ≤ 1000000) (hl3 : l3.length ≤ 1000000) (P R N : Int)
    (k0 : nrm a1 l1 = true) (k1 : nrm a2 l2 = true) (k2 : nrm a3 l3 = false) :
    Calls Oaag.prog 41 #[.agg (wk a1 a2 a3 c1 c2 c3 l1 l2 l3 P R N)] w fun e w' => e = .returned (.bool false) ∧ Below w.heap.size w w' := by
  have q24 := eqnil24
  have K0 := hide k0
  have K1 := hide k1
  have K2 := hide k2
  have hck : CkH w w a1 a2 a3 c1 c2 c3 l1 l2 l3 := ⟨h1, h2, h3, hl1, hl2, hl3, Below.refl _ _⟩
  have hb0 : Below w.heap.size w (w.alloc (.cells (wk a1 a2 a3 c1 c2 c3 l1 l2 l3 P R N) 81)) := (Below.refl _ _).alloc (Nat.le_refl _) _
  have HC0 := hide (hck.later hb0)
  clear h1 h2 h3 hl1 hl2 hl3 hck hb0 k0 k1 k2
  go_enter Oaag.func41, Oaag.ntmps41
  go_wp2_with fail
  have r0 := heap_alloc_new w (.cells (wk a1 a2 a3 c1 c2 c3 l1 l2 l3 P R N) 81)
  ((first | with_reducible refine Go.Proofs.YgcoaaGreat.NatW.gen_calls ?_ | with_reducible refine Go.Proofs.YgcoaaGreat.NatW.gen_wp ?_ | with_reducible refine Go.Proofs.YgcoaaGreat.NatW.gen_list ?_ | with_reducible refine Go.Proofs.YgcoaaGreat.NatW.gen_body ?_); intro W hW)
  rw [show w.alloc (.cells (wk a1 a2 a3 c1 c2 c3 l1 l2 l3 P R N) 81) = W from hW] at HC0 r0
  clear hW
  have hzl : w.heap.size < W.heap.size := (Array.getElem?_eq_some_iff.1 r0).1
  obtain ⟨wb, x0, hx, hsame⟩ : ∃ (wb : World) (x0 : Later wb), W = x0.at_ ∧ ∀ x : Later wb, Below W.heap.size W x.at_ := ⟨W, ⟨W, Below.refl _ _⟩, rfl, fun x => x.ok⟩
  have hne3 : Nonempty (Later wb) := ⟨x0⟩
  have d0 : ∀ y : Later wb, y.at_.cell? ⟨w.heap.size, 0, none⟩ = some (.slice a1 l1.length c1) := fun y => ((hsame y).cell (p := ⟨w.heap.size, 0, none⟩) hzl).trans (by rw [cell_of_row _ _ _ _ _ _ r0]; rfl)
  have d1 : ∀ y : Later wb, y.at_.cell? ⟨w.heap.size, 1, none⟩ = some (.slice a2 l2.length c2) := fun y => ((hsame y).cell (p := ⟨w.heap.size, 1, none⟩) hzl).trans (by rw [cell_of_row _ _ _ _ _ _ r0]; rfl)
  have d2 : ∀ y : Later wb, y.at_.cell? ⟨w.heap.size, 2, none⟩ = some (.slice a3 l3.length c3) := fun y => ((hsame y).cell (p := ⟨w.heap.size, 2, none⟩) hzl).trans (by rw [cell_of_row _ _ _ _ _ _ r0]; rfl)
  have d3 : ∀ y : Later wb, y.at_.cell? ⟨w.heap.size, 3, none⟩ = some (.int .u64 P) := fun y => ((hsame y).cell (p := ⟨w.heap.size, 3, none⟩) hzl).trans (by rw [cell_of_row _ _ _ _ _ _ r0]; rfl)
  have d4 : ∀ y : Later wb, y.at_.cell? ⟨w.heap.size, 4, none⟩ = some (.int .u64 R) := fun y => ((hsame y).cell (p := ⟨w.heap.size, 4, none⟩) hzl).trans (by rw [cell_of_row _ _ _ _ _ _ r0]; rfl)
  have d5 : ∀ y : Later wb, y.at_.cell? ⟨w.heap.size, 5, none⟩ = some (.int .u64 N) := fun y => ((hsame y).cell (p := ⟨w.heap.size, 5, none⟩) hzl).trans (by rw [cell_of_row _ _ _ _ _ _ r0]; rfl)
  have HCY := hide (fun y : Later wb => CkH.later HC0 (hsame y))
  rw [hx]
  clear hx hsame r0 HC0 hzl
  (repeat (first | (rewrite [Go.Proofs.YgcoaaGreat.NatW.frz_ite]; generalize Go.Proofs.YgcoaaGreat.NatW.frzI _ = x__) | (rewrite [Go.Proofs.YgcoaaGreat.NatW.frz_dec]; generalize Go.Proofs.YgcoaaGreat.NatW.frzB _ = x__) | (rewrite [Go.Proofs.YgcoaaGreat.NatW.frz_beq]; generalize Go.Proofs.YgcoaaGreat.NatW.frzB _ = x__) | (rewrite [Go.Proofs.YgcoaaGreat.NatW.frz_not]; generalize Go.Proofs.YgcoaaGreat.NatW.frzB _ = x__) | (rewrite [Go.Proofs.YgcoaaGreat.NatW.frz_and]; generalize Go.Proofs.YgcoaaGreat.NatW.frzB _ = x__) | (rewrite [Go.Proofs.YgcoaaGreat.NatW.frz_or]; generalize Go.Proofs.YgcoaaGreat.NatW.frzB _ = x__) | (rewrite [show ∀ (a b : Int), Value.bool (a != b) = Value.bool (Go.Proofs.YgcoaaGreat.NatW.frzB (a != b)) from fun _ _ => rfl]; generalize Go.Proofs.YgcoaaGreat.NatW.frzB _ = x__)))
  refine Go.LaxQ.region_guarded _ 58 2 [14, 15, 16, 19, 20, 21, 24, 25, 26, 27, 28, 29, 30, 31, 32, 35, 36, 37, 40, 41, 42, 43, 44, 47, 48, 49, 52, 53, 54, 55, 56] [(2, fun v => v = .bool true), (6, fun v => v = .bool true), (11, fun v => v = .bool false), (7, fun v => v = .bool true), (12, fun v => v = .bool false), (17, fun v => v = .bool false), (22, fun v => v = .bool false), (33, fun v => v = .bool false), (38, fun v => v = .bool false), (45, fun v => v = .bool false), (50, fun v => v = .bool false), (57, fun v => v = .bool false)] [] (fun _ => True) (by kernel_rfl) (by kernel_rfl) (by kernel_rfl) (by kernel_rfl) trivial (fun _ _ _ _ => trivial) (fun _ h => by cases h) (List.forall_mem_cons.2 ⟨⟨_, rfl⟩, List.forall_mem_cons.2 ⟨⟨_, rfl⟩, List.forall_mem_cons.2 ⟨⟨_, rfl⟩, List.forall_mem_cons.2 ⟨⟨_, rfl⟩, List.forall_mem_cons.2 ⟨⟨_, rfl⟩, List.forall_mem_cons.2 ⟨⟨_, rfl⟩, List.forall_mem_cons.2 ⟨⟨_, rfl⟩, List.forall_mem_cons.2 ⟨⟨_, rfl⟩, List.forall_mem_cons.2 ⟨⟨_, rfl⟩, List.forall_mem_cons.2 ⟨⟨_, rfl⟩, List.forall_mem_cons.2 ⟨⟨_, rfl⟩, List.forall_mem_cons.2 ⟨⟨_, rfl⟩, fun _ h => by cases h⟩⟩⟩⟩⟩⟩⟩⟩⟩⟩⟩⟩) ?_
  (refine Go.LaxQ.walk_det rfl rfl rfl rfl rfl ?_; go_big_quiet_want; go_big_quiet_op; go_big_quiet_on; refine wpQuiet_nil ?_)
  (refine Go.LaxQ.walk_det rfl rfl rfl rfl rfl ?_; go_big_quiet_want; go_big_quiet_op; go_big_quiet_on; refine wpQuiet_nil ?_)
  refine Go.LaxQ.q_call rfl rfl rfl rfl (fun _ _ _ _ => trivial) ?_ (fun y K hI hG hK => by
      go_wp2_with fail
      refine (ck_n1 (unhide HCY y) K0).mono ?_
      rintro e w' ⟨hw', rfl⟩
      have hb : Below y.at_.heap.size y.at_ w' := by rw [← hw']; exact Below.refl _ _
      have hh := Go.Proofs.YgcoaaGreat.NatW.hide (hK _ w' rfl trivial hb)
      clear hK
      go_wp2_with fail
      exact Eq.mp (by kernel_rfl) (Go.Proofs.YgcoaaGreat.NatW.unhide hh))
  rintro v9 rfl
  ((try dsimp only); go_big_quiet_want; go_big_quiet_op; go_big_quiet_on; refine wpQuiet_nil ?_)
  (refine Go.LaxQ.walk_det rfl rfl rfl rfl rfl ?_; go_big_quiet_want; go_big_quiet_op; go_big_quiet_on; refine wpQuiet_nil ?_)
  (refine Go.LaxQ.walk_det rfl rfl rfl rfl rfl ?_; go_big_quiet_want; go_big_quiet_op; go_big_quiet_on; refine wpQuiet_nil ?_)
  (refine Go.LaxQ.walk_det rfl rfl rfl rfl rfl ?_; go_big_quiet_want; go_big_quiet_op; go_big_quiet_on; refine wpQuiet_nil ?_)
  refine Go.LaxQ.q_call rfl rfl rfl rfl (fun _ _ _ _ => trivial) ?_ (fun y K hI hG hK => by
      go_wp2_with fail
      refine (ck_n2 (unhide HCY y) K1).mono ?_
      rintro e w' ⟨hw', rfl⟩
      have hb : Below y.at_.heap.size y.at_ w' := by rw [← hw']; exact Below.refl _ _
      have hh := Go.Proofs.YgcoaaGreat.NatW.hide (hK _ w' rfl trivial hb)
      clear hK
      go_wp2_with fail
      exact Eq.mp (by kernel_rfl) (Go.Proofs.YgcoaaGreat.NatW.unhide hh))
  rintro v9 rfl
  ((try dsimp only); go_big_quiet_want; go_big_quiet_op; go_big_quiet_on; refine wpQuiet_nil ?_)
  refine Go.LaxQ.q_call rfl rfl rfl rfl (fun _ _ _ _ => trivial) ?_ (fun y K hI hG hK => by
      have HK := hide hK
      clear hK
      go_wp2_with fail
      exact unhide HK _ _ rfl trivial (Below.refl _ _))
  rintro v9 rfl
  ((try dsimp only); go_big_quiet_want; go_big_quiet_op; go_big_quiet_on; refine wpQuiet_nil ?_)
  (refine Go.LaxQ.walk_det rfl rfl rfl rfl rfl ?_; go_big_quiet_want; go_big_quiet_op; go_big_quiet_on; refine wpQuiet_nil ?_)
  (refine Go.LaxQ.walk_det rfl rfl rfl rfl rfl ?_; go_big_quiet_want; go_big_quiet_op; go_big_quiet_on; refine wpQuiet_nil ?_)
  (refine Go.LaxQ.walk_det rfl rfl rfl rfl rfl ?_; go_big_quiet_want; go_big_quiet_op; go_big_quiet_on; refine wpQuiet_nil ?_)
  refine Go.LaxQ.q_call rfl rfl rfl rfl (fun _ _ _ _ => trivial) ?_ (fun y K hI hG hK => by
      go_wp2_with fail
      refine (ck_n3 (unhide HCY y) K2).mono ?_
      rintro e w' ⟨hw', rfl⟩
      have hb : Below y.at_.heap.size y.at_ w' := by rw [← hw']; exact Below.refl _ _
      have hh := Go.Proofs.YgcoaaGreat.NatW.hide (hK _ w' rfl trivial hb)
      clear hK
      go_wp2_with fail
      exact Eq.mp (by kernel_rfl) (Go.Proofs.YgcoaaGreat.NatW.unhide hh))
  rintro v9 rfl
  ((try dsimp only); go_big_quiet_want; go_big_quiet_op; go_big_quiet_on; refine wpQuiet_nil ?_)
  refine Go.LaxQ.q_call rfl rfl rfl rfl (fun _ _ _ _ => trivial) ?_ (fun y K hI hG hK => by
      have HK := hide hK
      clear hK
      go_wp2_with fail
      exact unhide HK _ _ rfl trivial (Below.refl _ _))
  rintro v9 rfl
  ((try dsimp only); go_big_quiet_want; go_big_quiet_op; go_big_quiet_on; refine wpQuiet_nil ?_)
  (refine Go.LaxQ.walk_det rfl rfl rfl rfl rfl ?_; go_big_quiet_want; go_big_quiet_op; go_big_quiet_on; refine wpQuiet_nil ?_)
  (refine Go.LaxQ.walk_skip_mv rfl rfl ?_; (try dsimp only); go_big_quiet_want; go_big_quiet_op; go_big_quiet_on; refine wpQuiet_nil ?_)
  (refine Go.LaxQ.walk_skip_mv rfl rfl ?_; (try dsimp only); go_big_quiet_want; go_big_quiet_op; go_big_quiet_on; refine wpQuiet_nil ?_)
  (refine Go.LaxQ.walk_skip_mv rfl rfl ?_; (try dsimp only); go_big_quiet_want; go_big_quiet_op; go_big_quiet_on; refine wpQuiet_nil ?_)
  refine Go.LaxQ.q_call rfl rfl rfl rfl (fun _ _ _ _ => trivial) ?_ (fun y K hI hG hK => by
      have HK := hide hK
      clear hK
      go_wp2_with fail
      exact unhide HK _ _ rfl trivial (Below.refl _ _))
  rintro v9 rfl
  ((try dsimp only); go_big_quiet_want; go_big_quiet_op; go_big_quiet_on; refine wpQuiet_nil ?_)
  (refine Go.LaxQ.walk_det rfl rfl rfl rfl rfl ?_; go_big_quiet_want; go_big_quiet_op; go_big_quiet_on; refine wpQuiet_nil ?_)
  (refine Go.LaxQ.walk_skip_mv rfl rfl ?_; (try dsimp only); go_big_quiet_want; go_big_quiet_op; go_big_quiet_on; refine wpQuiet_nil ?_)
  (refine Go.LaxQ.walk_skip_mv rfl rfl ?_; (try dsimp only); go_big_quiet_want; go_big_quiet_op; go_big_quiet_on; refine wpQuiet_nil ?_)
  (refine Go.LaxQ.walk_skip_mv rfl rfl ?_; (try dsimp only); go_big_quiet_want; go_big_quiet_op; go_big_quiet_on; refine wpQuiet_nil ?_)
  refine Go.LaxQ.q_call rfl rfl rfl rfl (fun _ _ _ _ => trivial) ?_ (fun y K hI hG hK => by
      have HK := hide hK
      clear hK
      go_wp2_with fail
      exact unhide HK _ _ rfl trivial (Below.refl _ _))
  rintro v9 rfl
  ((try dsimp only); go_big_quiet_want; go_big_quiet_op; go_big_quiet_on; refine wpQuiet_nil ?_)
  (refine Go.LaxQ.walk_det rfl rfl rfl rfl rfl ?_; go_big_quiet_want; go_big_quiet_op; go_big_quiet_on; refine wpQuiet_nil ?_)
  (refine Go.LaxQ.walk_skip_mv rfl rfl ?_; (try dsimp only); go_big_quiet_want; go_big_quiet_op; go_big_quiet_on; refine wpQuiet_nil ?_)
  (refine Go.LaxQ.walk_skip_mv rfl rfl ?_; (try dsimp only); go_big_quiet_want; go_big_quiet_op; go_big_quiet_on; refine wpQuiet_nil ?_)
  (refine Go.LaxQ.walk_skip_mv rfl rfl ?_; (try dsimp only); go_big_quiet_want; go_big_quiet_op; go_big_quiet_on; refine wpQuiet_nil ?_)
  (refine Go.LaxQ.walk_skip_mv rfl rfl ?_; (try dsimp only); go_big_quiet_want; go_big_quiet_op; go_big_quiet_on; refine wpQuiet_nil ?_)
  (refine Go.LaxQ.walk_skip_mv rfl rfl ?_; (try dsimp only); go_big_quiet_want; go_big_quiet_op; go_big_quiet_on; refine wpQuiet_nil ?_)
  (refine Go.LaxQ.walk_skip_mv rfl rfl ?_; (try dsimp only); go_big_quiet_want; go_big_quiet_op; go_big_quiet_on; refine wpQuiet_nil ?_)
  (refine Go.LaxQ.walk_skip_mv rfl rfl ?_; (try dsimp only); go_big_quiet_want; go_big_quiet_op; go_big_quiet_on; refine wpQuiet_nil ?_)
  (refine Go.LaxQ.walk_skip_mv rfl rfl ?_; (try dsimp only); go_big_quiet_want; go_big_quiet_op; go_big_quiet_on; refine wpQuiet_nil ?_)
  (refine Go.LaxQ.walk_skip_mv rfl rfl ?_; (try dsimp only); go_big_quiet_want; go_big_quiet_op; go_big_quiet_on; refine wpQuiet_nil ?_)
  refine Go.LaxQ.q_call rfl rfl rfl rfl (fun _ _ _ _ => trivial) ?_ (fun y K hI hG hK => by
      have HK := hide hK
      clear hK
      go_wp2_with fail
      exact unhide HK _ _ rfl trivial (Below.refl _ _))
  rintro v9 rfl
  ((try dsimp only); go_big_quiet_want; go_big_quiet_op; go_big_quiet_on; refine wpQuiet_nil ?_)
  (refine Go.LaxQ.walk_det rfl rfl rfl rfl rfl ?_; go_big_quiet_want; go_big_quiet_op; go_big_quiet_on; refine wpQuiet_nil ?_)
  (refine Go.LaxQ.walk_skip_mv rfl rfl ?_; (try dsimp only); go_big_quiet_want; go_big_quiet_op; go_big_quiet_on; refine wpQuiet_nil ?_)
  (refine Go.LaxQ.walk_skip_mv rfl rfl ?_; (try dsimp only); go_big_quiet_want; go_big_quiet_op; go_big_quiet_on; refine wpQuiet_nil ?_)
  (refine Go.LaxQ.walk_skip_mv rfl rfl ?_; (try dsimp only); go_big_quiet_want; go_big_quiet_op; go_big_quiet_on; refine wpQuiet_nil ?_)
  refine Go.LaxQ.q_call rfl rfl rfl rfl (fun _ _ _ _ => trivial) ?_ (fun y K hI hG hK => by
      have HK := hide hK
      clear hK
      go_wp2_with fail
      exact unhide HK _ _ rfl trivial (Below.refl _ _))
  rintro v9 rfl
  ((try dsimp only); go_big_quiet_want; go_big_quiet_op; go_big_quiet_on; refine wpQuiet_nil ?_)
  (refine Go.LaxQ.walk_det rfl rfl rfl rfl rfl ?_; go_big_quiet_want; go_big_quiet_op; go_big_quiet_on; refine wpQuiet_nil ?_)
  (refine Go.LaxQ.walk_skip_mv rfl rfl ?_; (try dsimp only); go_big_quiet_want; go_big_quiet_op; go_big_quiet_on; refine wpQuiet_nil ?_)
  (refine Go.LaxQ.walk_skip_mv rfl rfl ?_; (try dsimp only); go_big_quiet_want; go_big_quiet_op; go_big_quiet_on; refine wpQuiet_nil ?_)
  (refine Go.LaxQ.walk_skip_mv rfl rfl ?_; (try dsimp only); go_big_quiet_want; go_big_quiet_op; go_big_quiet_on; refine wpQuiet_nil ?_)
  (refine Go.LaxQ.walk_skip_mv rfl rfl ?_; (try dsimp only); go_big_quiet_want; go_big_quiet_op; go_big_quiet_on; refine wpQuiet_nil ?_)
  (refine Go.LaxQ.walk_skip_mv rfl rfl ?_; (try dsimp only); go_big_quiet_want; go_big_quiet_op; go_big_quiet_on; refine wpQuiet_nil ?_)
  refine Go.LaxQ.q_call rfl rfl rfl rfl (fun _ _ _ _ => trivial) ?_ (fun y K hI hG hK => by
      have HK := hide hK
      clear hK
      go_wp2_with fail
      exact unhide HK _ _ rfl trivial (Below.refl _ _))
  rintro v9 rfl
  ((try dsimp only); go_big_quiet_want; go_big_quiet_op; go_big_quiet_on; refine wpQuiet_nil ?_)
  (refine Go.LaxQ.walk_det rfl rfl rfl rfl rfl ?_; go_big_quiet_want; go_big_quiet_op; go_big_quiet_on; refine wpQuiet_nil ?_)
  (refine Go.LaxQ.walk_skip_mv rfl rfl ?_; (try dsimp only); go_big_quiet_want; go_big_quiet_op; go_big_quiet_on; refine wpQuiet_nil ?_)
  (refine Go.LaxQ.walk_skip_mv rfl rfl ?_; (try dsimp only); go_big_quiet_want; go_big_quiet_op; go_big_quiet_on; refine wpQuiet_nil ?_)
  (refine Go.LaxQ.walk_skip_mv rfl rfl ?_; (try dsimp only); go_big_quiet_want; go_big_quiet_op; go_big_quiet_on; refine wpQuiet_nil ?_)
  refine Go.LaxQ.q_call rfl rfl rfl rfl (fun _ _ _ _ => trivial) ?_ (fun y K hI hG hK => by
      have HK := hide hK
      clear hK
      go_wp2_with fail
      exact unhide HK _ _ rfl trivial (Below.refl _ _))
  rintro v9 rfl
  ((try dsimp only); go_big_quiet_want; go_big_quiet_op; go_big_quiet_on; refine wpQuiet_nil ?_)
  (refine Go.LaxQ.walk_det rfl rfl rfl rfl rfl ?_; go_big_quiet_want; go_big_quiet_op; go_big_quiet_on; refine wpQuiet_nil ?_)
  (refine Go.LaxQ.walk_skip_mv rfl rfl ?_; (try dsimp only); go_big_quiet_want; go_big_quiet_op; go_big_quiet_on; refine wpQuiet_nil ?_)
  (refine Go.LaxQ.walk_skip_mv rfl rfl ?_; (try dsimp only); go_big_quiet_want; go_big_quiet_op; go_big_quiet_on; refine wpQuiet_nil ?_)
  (refine Go.LaxQ.walk_skip_mv rfl rfl ?_; (try dsimp only); go_big_quiet_want; go_big_quiet_op; go_big_quiet_on; refine wpQuiet_nil ?_)
  (refine Go.LaxQ.walk_skip_mv rfl rfl ?_; (try dsimp only); go_big_quiet_want; go_big_quiet_op; go_big_quiet_on; refine wpQuiet_nil ?_)
  (refine Go.LaxQ.walk_skip_mv rfl rfl ?_; (try dsimp only); go_big_quiet_want; go_big_quiet_op; go_big_quiet_on; refine wpQuiet_nil ?_)
  refine Go.LaxQ.q_call rfl rfl rfl rfl (fun _ _ _ _ => trivial) ?_ (fun y K hI hG hK => by
      have HK := hide hK
      clear hK
      go_wp2_with fail
      exact unhide HK _ _ rfl trivial (Below.refl _ _))
  rintro v9 rfl
  ((try dsimp only); go_big_quiet_want; go_big_quiet_op; go_big_quiet_on; refine wpQuiet_nil ?_)
  refine Go.LaxQ.q_end ?_
  intro y hI hG
  clear hI hG
  go_wp2_with fail
  go_ret
  exact ⟨rfl, (unhide HCY y).b⟩

end Go.Proofs.YgcoaaGreat.NatW
