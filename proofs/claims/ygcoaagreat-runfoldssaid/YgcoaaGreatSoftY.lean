/-
  Package soft: Sqrt.
-/
import Derived.Test.YgcoaaGreatTacB
import Derived.Test.YgcoaaGreatSoftK
import Derived.Test.YgcoaaGreatSoftU
set_option linter.unusedVariables false
set_option linter.unusedSimpArgs false
namespace Go.Proofs.YgcoaaGreat.NatW
attribute [local go_sem] Go.Instr.field Go.asAgg
open Go.RowKit
open Go.Proofs.YgcoaaGreat.Limbs Go.Proofs.YgcoaaGreat.Bits

theorem tdiv2 (z : Int) (h0 : -3000 ≤ z) (h1 : z ≤ 3000) : -1500 ≤ z.tdiv 2 ∧ z.tdiv 2 ≤ 1500 := by
  rcases Int.lt_or_le z 0 with h | h
  · have e : z = -(-z) := by omega
    have e2 : z.tdiv 2 = -((-z).tdiv 2) := by
      conv => lhs; rw [e]
      rw [Int.neg_tdiv]
    rw [e2, Int.tdiv_eq_ediv_of_nonneg (by omega)]
    omega
  · rw [Int.tdiv_eq_ediv_of_nonneg h]
    omega
theorem half_bd (z : Int) (h0 : -3000 ≤ z) (h1 : z ≤ 3000) : ∃ q, IntKind.i16.wrap (IntKind.i16.wrap (z.tdiv 2) - 32) = q ∧ -2000 ≤ q ∧ q ≤ 2000 := by
  obtain ⟨a, b⟩ := tdiv2 z h0 h1
  refine ⟨_, rfl, ?_⟩
  rw [wrap_i16 (z.tdiv 2) (by omega) (by omega), wrap_i16 _ (by omega) (by omega)]
  omega

set_option maxRecDepth 20000 in
set_option maxHeartbeats 4000000 in
theorem sqrtFlags_ret (E M : Nat) (hf : fok E M = true) (m a : Int) (ha : U64 a) : Ret 250 #[fmt E M, .int .u8 m, .int .u64 a] (fun v => ∃ r f, v = .tuple #[.int .u64 r, .int .u8 f] ∧ Snd E M r) := by
  obtain ⟨g1, g2, g3, g4⟩ := fok_bd hf
  intro w K hK
  have HK := hide hK
  clear hK
  obtain ⟨wb, x0, hwb, r0, hB, hZ⟩ := boxes1 w #[.int .u8 E, .int .u8 M] 23
  have c00 : ∀ x : Later wb, _ = some (.int .u8 E : Value) := Later.cell r0 0 _ rfl
  have c01 : ∀ x : Later wb, _ = some (.int .u8 M : Value) := Later.cell r0 1 _ rfl
  have R0 := hide r0
  clear r0
  have hne : Nonempty (Later wb) := ⟨x0⟩
  go_enter Oaag.func250, Oaag.ntmps250
  go_wp2_with (first
    | (
      (first | with_reducible refine Go.Proofs.YgcoaaGreat.NatW.at_alw ?_ | with_reducible refine Go.Proofs.YgcoaaGreat.NatW.at_alc ?_)
      ((first | with_reducible refine Go.Proofs.YgcoaaGreat.NatW.gen_calls ?_ | with_reducible refine Go.Proofs.YgcoaaGreat.NatW.gen_wp ?_ | with_reducible refine Go.Proofs.YgcoaaGreat.NatW.gen_list ?_ | with_reducible refine Go.Proofs.YgcoaaGreat.NatW.gen_body ?_); intro W hW)
      have hyW : Below wb.heap.size wb W := by rw [← hW]; exact y.ok.alloc y.ok.size _
      have qr := congrArg (fun z : World => z.heap[y.at_.heap.size]?) hW
      rw [heap_alloc_new, hnb] at qr
      clear hW hne
      obtain ⟨wb2, x9, hx, hup, hrow, hZ2⟩ := rebase3 wb W hyW
      replace c00 := fun x : Later wb2 => (show _ from (Exists.choose_spec (hup x)) ▸ c00 (Exists.choose (hup x)))
      replace c01 := fun x : Later wb2 => (show _ from (Exists.choose_spec (hup x)) ▸ c01 (Exists.choose (hup x)))
      replace hB := fun x : Later wb2 => (show _ from (Exists.choose_spec (hup x)) ▸ hB (Exists.choose (hup x)))
      have hne : Nonempty (Later wb2) := ⟨x9⟩
      have hz9 : ∀ x : Later wb2, nb + 1 ≤ x.at_.heap.size := fun x => Nat.le_trans (Array.getElem?_eq_some_iff.1 qr.symm).1 (hZ2 x)
      have r9 := hrow _ _ qr.symm
      have c90 := Later.cell r9 0 _ rfl
      have c91 := Later.cell r9 1 _ rfl
      have c92 := Later.cell r9 2 _ rfl
      have c93 := Later.cell r9 3 _ rfl
      clear hup hrow hyW qr r9 hZ2
      rw [hx]
      clear hx)
    | (
      (first | with_reducible refine Go.Proofs.YgcoaaGreat.NatW.at_alw ?_ | with_reducible refine Go.Proofs.YgcoaaGreat.NatW.at_alc ?_)
      ((first | with_reducible refine Go.Proofs.YgcoaaGreat.NatW.gen_calls ?_ | with_reducible refine Go.Proofs.YgcoaaGreat.NatW.gen_wp ?_ | with_reducible refine Go.Proofs.YgcoaaGreat.NatW.gen_list ?_ | with_reducible refine Go.Proofs.YgcoaaGreat.NatW.gen_body ?_); intro W hW)
      have hyW : Below wb2.heap.size wb2 W := by rw [← hW]; exact y2.ok.alloc y2.ok.size _
      have qr := congrArg (fun z : World => z.heap[y2.at_.heap.size]?) hW
      rw [heap_alloc_new, hnb2] at qr
      clear hW hne
      obtain ⟨wb3, x9, hx, hup, hrow, hZ2⟩ := rebase3 wb2 W hyW
      replace c00 := fun x : Later wb3 => (show _ from (Exists.choose_spec (hup x)) ▸ c00 (Exists.choose (hup x)))
      replace c01 := fun x : Later wb3 => (show _ from (Exists.choose_spec (hup x)) ▸ c01 (Exists.choose (hup x)))
      replace hB := fun x : Later wb3 => (show _ from (Exists.choose_spec (hup x)) ▸ hB (Exists.choose (hup x)))
      have hne : Nonempty (Later wb3) := ⟨x9⟩
      have hz8 : ∀ x : Later wb3, nb2 + 1 ≤ x.at_.heap.size := fun x => Nat.le_trans (Array.getElem?_eq_some_iff.1 qr.symm).1 (hZ2 x)
      have r9 := hrow _ _ qr.symm
      have c80 := Later.cell r9 0 _ rfl
      have f80 := Later.frz r9 0
      have c81 := Later.cell r9 1 _ rfl
      have f81 := Later.frz r9 1
      clear hup hrow hyW qr r9 hZ2
      rw [hx]
      clear hx)
    | (
      (first | with_reducible refine Go.Proofs.YgcoaaGreat.NatW.at_setw ?_ | with_reducible refine Go.Proofs.YgcoaaGreat.NatW.at_setc ?_)
      ((first | with_reducible refine Go.Proofs.YgcoaaGreat.NatW.gen_calls ?_ | with_reducible refine Go.Proofs.YgcoaaGreat.NatW.gen_wp ?_ | with_reducible refine Go.Proofs.YgcoaaGreat.NatW.gen_list ?_ | with_reducible refine Go.Proofs.YgcoaaGreat.NatW.gen_body ?_); intro W hW)
      have hBW : Below w.heap.size w W := by rw [← hW]; (repeat ((with_reducible refine Go.Proofs.YgcoaaGreat.NatW.at_setb ?_); refine below_store ?_ (by omega) _)); exact hB _
      have hzW : nb2 + 1 ≤ W.heap.size := by rw [← hW]; (try simp only [World.size_setCell]); exact hz8 _
      have qc00 := congrArg (fun z : World => z.cell? ⟨w.heap.size, 0, none⟩) hW
      simp [go_sem, c00, c01, c80, c81, nn4, nn5] at qc00
      have qc01 := congrArg (fun z : World => z.cell? ⟨w.heap.size, 1, none⟩) hW
      simp [go_sem, c00, c01, c80, c81, nn4, nn5] at qc01
      have qc80 := congrArg (fun z : World => z.cell? ⟨nb2, 0, none⟩) hW
      simp [go_sem, c00, c01, c80, c81, nn4, nn5] at qc80
      have qc81 := congrArg (fun z : World => z.cell? ⟨nb2, 1, none⟩) hW
      simp [go_sem, c00, c01, c80, c81, nn4, nn5] at qc81
      clear hW hB hne hz8 f80 f81 c00 c01 c80 c81
      obtain ⟨wb4, x8, hx, hcl, hfz, hB, hz8⟩ := rebase2 w W _ hBW hzW
      have hne : Nonempty (Later wb4) := ⟨x8⟩
      have c00 := hcl _ _ _ qc00.symm (by omega)
      have c01 := hcl _ _ _ qc01.symm (by omega)
      have c80 := hcl _ _ _ qc80.symm (by omega)
      have c81 := hcl _ _ _ qc81.symm (by omega)
      clear hcl hfz hBW hzW qc00 qc01 qc80 qc81
      rw [hx]
      clear hx)
    | (with_reducible refine Go.Proofs.YgcoaaGreat.NatW.at_later 67 ?_; refine Go.Proofs.YgcoaaGreat.NatW.Ret.run (fmtOk_ret E M hf) _ ?_; rintro _ y__ rfl)
    | (with_reducible refine Go.Proofs.YgcoaaGreat.NatW.at_later 45 ?_; refine Go.Proofs.YgcoaaGreat.NatW.Ret.run (nan_ret E M hf) _ ?_; rintro _ y__ rfl)
    | (with_reducible refine Go.Proofs.YgcoaaGreat.NatW.at_later 85 ?_; refine Go.Proofs.YgcoaaGreat.NatW.Ret.run (inf_ret E M hf _) _ ?_; rintro _ y__ rfl)
    | (with_reducible refine Go.Proofs.YgcoaaGreat.NatW.at_later 373 ?_; refine Go.Proofs.YgcoaaGreat.NatW.Ret.run (zero_ret E M hf _) _ ?_; rintro _ y__ rfl)
    | (with_reducible refine Go.Proofs.YgcoaaGreat.NatW.at_later 340 ?_; refine Go.Proofs.YgcoaaGreat.NatW.Ret.run (roundPack_ret E M hf _ _ _ _ (by omega) (by omega) (by (first | assumption | exact U64.wrap _ | exact U64.bits _ _ _ | exact U64.div (by first | assumption | exact U64.wrap _ | exact U64.bits _ _ _ | exact U64.div (by first | assumption | exact U64.wrap _ | exact U64.bits _ _ _ | exact U64.lit (by omega) (by omega)) _ | exact U64.ediv (by first | assumption | exact U64.wrap _ | exact U64.bits _ _ _ | exact U64.lit (by omega) (by omega)) _ (by omega) | exact U64.lit (by omega) (by omega) | exact U64.one _ (by first | assumption | exact U64.wrap _ | exact U64.bits _ _ _ | exact U64.lit (by omega) (by omega)) (by first | assumption | exact U64.wrap _ | exact U64.bits _ _ _ | exact U64.lit (by omega) (by omega))) _ | exact U64.ediv (by first | assumption | exact U64.wrap _ | exact U64.bits _ _ _ | exact U64.div (by first | assumption | exact U64.wrap _ | exact U64.bits _ _ _ | exact U64.lit (by omega) (by omega)) _ | exact U64.ediv (by first | assumption | exact U64.wrap _ | exact U64.bits _ _ _ | exact U64.lit (by omega) (by omega)) _ (by omega) | exact U64.lit (by omega) (by omega) | exact U64.one _ (by first | assumption | exact U64.wrap _ | exact U64.bits _ _ _ | exact U64.lit (by omega) (by omega)) (by first | assumption | exact U64.wrap _ | exact U64.bits _ _ _ | exact U64.lit (by omega) (by omega))) _ (by omega) | exact U64.lit (by omega) (by omega) | exact U64.one _ (by first | assumption | exact U64.wrap _ | exact U64.bits _ _ _ | exact U64.div (by first | assumption | exact U64.wrap _ | exact U64.bits _ _ _ | exact U64.lit (by omega) (by omega)) _ | exact U64.ediv (by first | assumption | exact U64.wrap _ | exact U64.bits _ _ _ | exact U64.lit (by omega) (by omega)) _ (by omega) | exact U64.lit (by omega) (by omega) | exact U64.one _ (by first | assumption | exact U64.wrap _ | exact U64.bits _ _ _ | exact U64.lit (by omega) (by omega)) (by first | assumption | exact U64.wrap _ | exact U64.bits _ _ _ | exact U64.lit (by omega) (by omega))) (by first | assumption | exact U64.wrap _ | exact U64.bits _ _ _ | exact U64.div (by first | assumption | exact U64.wrap _ | exact U64.bits _ _ _ | exact U64.lit (by omega) (by omega)) _ | exact U64.ediv (by first | assumption | exact U64.wrap _ | exact U64.bits _ _ _ | exact U64.lit (by omega) (by omega)) _ (by omega) | exact U64.lit (by omega) (by omega) | exact U64.one _ (by first | assumption | exact U64.wrap _ | exact U64.bits _ _ _ | exact U64.lit (by omega) (by omega)) (by first | assumption | exact U64.wrap _ | exact U64.bits _ _ _ | exact U64.lit (by omega) (by omega)))))) _ ?_; rintro _ y__ ⟨rr, ff, rfl, hrr⟩)
    | (with_reducible refine Go.Proofs.YgcoaaGreat.NatW.at_later 375 ?_
       refine Ret.run (top_ret E M hf _ _ _ _ (by omega) (by omega) (by (first | assumption | exact U64.wrap _ | exact U64.bits _ _ _ | exact U64.div (by first | assumption | exact U64.wrap _ | exact U64.bits _ _ _ | exact U64.div (by first | assumption | exact U64.wrap _ | exact U64.bits _ _ _ | exact U64.lit (by omega) (by omega)) _ | exact U64.ediv (by first | assumption | exact U64.wrap _ | exact U64.bits _ _ _ | exact U64.lit (by omega) (by omega)) _ (by omega) | exact U64.lit (by omega) (by omega) | exact U64.one _ (by first | assumption | exact U64.wrap _ | exact U64.bits _ _ _ | exact U64.lit (by omega) (by omega)) (by first | assumption | exact U64.wrap _ | exact U64.bits _ _ _ | exact U64.lit (by omega) (by omega))) _ | exact U64.ediv (by first | assumption | exact U64.wrap _ | exact U64.bits _ _ _ | exact U64.div (by first | assumption | exact U64.wrap _ | exact U64.bits _ _ _ | exact U64.lit (by omega) (by omega)) _ | exact U64.ediv (by first | assumption | exact U64.wrap _ | exact U64.bits _ _ _ | exact U64.lit (by omega) (by omega)) _ (by omega) | exact U64.lit (by omega) (by omega) | exact U64.one _ (by first | assumption | exact U64.wrap _ | exact U64.bits _ _ _ | exact U64.lit (by omega) (by omega)) (by first | assumption | exact U64.wrap _ | exact U64.bits _ _ _ | exact U64.lit (by omega) (by omega))) _ (by omega) | exact U64.lit (by omega) (by omega) | exact U64.one _ (by first | assumption | exact U64.wrap _ | exact U64.bits _ _ _ | exact U64.div (by first | assumption | exact U64.wrap _ | exact U64.bits _ _ _ | exact U64.lit (by omega) (by omega)) _ | exact U64.ediv (by first | assumption | exact U64.wrap _ | exact U64.bits _ _ _ | exact U64.lit (by omega) (by omega)) _ (by omega) | exact U64.lit (by omega) (by omega) | exact U64.one _ (by first | assumption | exact U64.wrap _ | exact U64.bits _ _ _ | exact U64.lit (by omega) (by omega)) (by first | assumption | exact U64.wrap _ | exact U64.bits _ _ _ | exact U64.lit (by omega) (by omega))) (by first | assumption | exact U64.wrap _ | exact U64.bits _ _ _ | exact U64.div (by first | assumption | exact U64.wrap _ | exact U64.bits _ _ _ | exact U64.lit (by omega) (by omega)) _ | exact U64.ediv (by first | assumption | exact U64.wrap _ | exact U64.bits _ _ _ | exact U64.lit (by omega) (by omega)) _ (by omega) | exact U64.lit (by omega) (by omega) | exact U64.one _ (by first | assumption | exact U64.wrap _ | exact U64.bits _ _ _ | exact U64.lit (by omega) (by omega)) (by first | assumption | exact U64.wrap _ | exact U64.bits _ _ _ | exact U64.lit (by omega) (by omega)))))) _ ?_
       rintro _ y2 ⟨ts, tx, rfl, uts, tq0, tq1⟩
       obtain ⟨nb2, hnb2⟩ : ∃ nb2, y2.at_.heap.size = nb2 := ⟨_, rfl⟩
       have bw2 : nb + 1 ≤ nb2 := by rw [← hnb2]; exact hz9 y2
       have nn4 : nb2 ≠ w.heap.size := by omega
       have nn5 : w.heap.size ≠ nb2 := by omega
       obtain ⟨q1, eq1, q10, q11⟩ := half_bd tx (by omega) (by omega)
       obtain ⟨q2, eq2, q20, q21⟩ := half_bd (tx + 1) (by omega) (by omega)
       have cb0 : ∀ o, (y2.at_.alloc o).cell? ⟨w.heap.size, 0, none⟩ = some (.int .u8 E) := fun o => c00 ⟨y2.at_.alloc o, y2.ok.alloc y2.ok.size o⟩
       have cb1 : ∀ o, (y2.at_.alloc o).cell? ⟨w.heap.size, 1, none⟩ = some (.int .u8 M) := fun o => c01 ⟨y2.at_.alloc o, y2.ok.alloc y2.ok.size o⟩)
    | (with_reducible refine Go.Proofs.YgcoaaGreat.NatW.at_later 68 ?_
       refine Ret.run (unpack_i E M hf a ha) _ ?_
       rintro _ y ⟨xn, xc, xe, xm, rfl, xp, xq⟩
       obtain ⟨xe0, xe1, uxm, xc0, xc1⟩ := Pb.bd g4 xp
       have XP := hide xp
       have XQ := hide xq
       clear xp xq
       obtain ⟨nb, hnb⟩ : ∃ nb, y.at_.heap.size = nb := ⟨_, rfl⟩
       have bw : w.heap.size + 1 ≤ nb := by have := hZ y; omega
       have nn0 : nb ≠ w.heap.size := by omega
       have nn1 : w.heap.size ≠ nb := by omega
       have ca0 : ∀ o, (y.at_.alloc o).cell? ⟨w.heap.size, 0, none⟩ = some (.int .u8 E) := fun o => c00 ⟨y.at_.alloc o, y.ok.alloc y.ok.size o⟩
       have ca1 : ∀ o, (y.at_.alloc o).cell? ⟨w.heap.size, 1, none⟩ = some (.int .u8 M) := fun o => c01 ⟨y.at_.alloc o, y.ok.alloc y.ok.size o⟩)
    | (
      with_reducible refine Go.Proofs.YgcoaaGreat.NatW.at_reg 7 ?_
      (repeat (first | (rewrite [Go.Proofs.YgcoaaGreat.NatW.frz_ite]; generalize Go.Proofs.YgcoaaGreat.NatW.frzI _ = x__) | (rewrite [Go.Proofs.YgcoaaGreat.NatW.frz_dec]; generalize Go.Proofs.YgcoaaGreat.NatW.frzB _ = x__) | (rewrite [Go.Proofs.YgcoaaGreat.NatW.frz_beq]; generalize Go.Proofs.YgcoaaGreat.NatW.frzB _ = x__) | (rewrite [Go.Proofs.YgcoaaGreat.NatW.frz_not]; generalize Go.Proofs.YgcoaaGreat.NatW.frzB _ = x__) | (rewrite [Go.Proofs.YgcoaaGreat.NatW.frz_and]; generalize Go.Proofs.YgcoaaGreat.NatW.frzB _ = x__) | (rewrite [Go.Proofs.YgcoaaGreat.NatW.frz_or]; generalize Go.Proofs.YgcoaaGreat.NatW.frzB _ = x__)))
      refine Go.Lax.region_calls _ 8 2 [(1, fun v => v = .int .u64 ((nanP E M : Nat) : Int)), (5, fun v => ∃ f, v = .int .u8 f)] (by kernel_rfl) (by kernel_rfl) (by kernel_rfl) (List.forall_mem_cons.2 ⟨⟨_, rfl⟩, List.forall_mem_cons.2 ⟨⟨_, 0, rfl⟩, fun _ h => by cases h⟩⟩) ?_
      iterate 1 (refine Go.Lax.walk_det rfl rfl rfl ?_; go_big_quiet_want; go_big_quiet_op; go_big_quiet_on; refine wpQuiet_nil ?_)
      refine Go.Lax.call_at rfl ?_ (fun y__ K__ hK__ => by (go_wp2_with fail; refine (nan_ret E M hf) _ _ ?_; intro v__ w__ hv__ hb__; have hh__ := Go.Proofs.YgcoaaGreat.NatW.hide (hK__ v__ w__ hv__ hb__); clear hK__ hv__; go_wp2_with fail; exact Eq.mp (by kernel_rfl) (Go.Proofs.YgcoaaGreat.NatW.unhide hh__)))
      rintro v rfl
      ((try dsimp only); go_big_quiet_want; go_big_quiet_op; go_big_quiet_on; refine wpQuiet_nil ?_)
      iterate 3 (refine Go.Lax.walk_det rfl rfl rfl ?_; go_big_quiet_want; go_big_quiet_op; go_big_quiet_on; refine wpQuiet_nil ?_)
      refine Go.Lax.call_at rfl ?_ (fun y__ K__ hK__ => by (go_wp2_with fail; refine (heard_ret E M hf a a ha ha) _ _ ?_; intro v__ w__ hv__ hb__; have hh__ := Go.Proofs.YgcoaaGreat.NatW.hide (hK__ v__ w__ hv__ hb__); clear hK__ hv__; go_wp2_with fail; exact Eq.mp (by kernel_rfl) (Go.Proofs.YgcoaaGreat.NatW.unhide hh__)))
      rintro v ⟨fl, rfl⟩
      ((try dsimp only); go_big_quiet_want; go_big_quiet_op; go_big_quiet_on; refine wpQuiet_nil ?_)
      iterate 2 (refine Go.Lax.walk_det rfl rfl rfl ?_; go_big_quiet_want; go_big_quiet_op; go_big_quiet_on; refine wpQuiet_nil ?_)
      refine Go.Lax.end_at ?_
      intro y)
    | (with_reducible refine Go.Proofs.YgcoaaGreat.NatW.at_later 342 ?_; refine Go.Proofs.YgcoaaGreat.NatW.Ret.run (shr_ret _ _ _ (by (first | assumption | exact U64.wrap _ | exact U64.bits _ _ _ | exact U64.div (by first | assumption | exact U64.wrap _ | exact U64.bits _ _ _ | exact U64.div (by first | assumption | exact U64.wrap _ | exact U64.bits _ _ _ | exact U64.lit (by omega) (by omega)) _ | exact U64.ediv (by first | assumption | exact U64.wrap _ | exact U64.bits _ _ _ | exact U64.lit (by omega) (by omega)) _ (by omega) | exact U64.lit (by omega) (by omega) | exact U64.one _ (by first | assumption | exact U64.wrap _ | exact U64.bits _ _ _ | exact U64.lit (by omega) (by omega)) (by first | assumption | exact U64.wrap _ | exact U64.bits _ _ _ | exact U64.lit (by omega) (by omega))) _ | exact U64.ediv (by first | assumption | exact U64.wrap _ | exact U64.bits _ _ _ | exact U64.div (by first | assumption | exact U64.wrap _ | exact U64.bits _ _ _ | exact U64.lit (by omega) (by omega)) _ | exact U64.ediv (by first | assumption | exact U64.wrap _ | exact U64.bits _ _ _ | exact U64.lit (by omega) (by omega)) _ (by omega) | exact U64.lit (by omega) (by omega) | exact U64.one _ (by first | assumption | exact U64.wrap _ | exact U64.bits _ _ _ | exact U64.lit (by omega) (by omega)) (by first | assumption | exact U64.wrap _ | exact U64.bits _ _ _ | exact U64.lit (by omega) (by omega))) _ (by omega) | exact U64.lit (by omega) (by omega) | exact U64.one _ (by first | assumption | exact U64.wrap _ | exact U64.bits _ _ _ | exact U64.div (by first | assumption | exact U64.wrap _ | exact U64.bits _ _ _ | exact U64.lit (by omega) (by omega)) _ | exact U64.ediv (by first | assumption | exact U64.wrap _ | exact U64.bits _ _ _ | exact U64.lit (by omega) (by omega)) _ (by omega) | exact U64.lit (by omega) (by omega) | exact U64.one _ (by first | assumption | exact U64.wrap _ | exact U64.bits _ _ _ | exact U64.lit (by omega) (by omega)) (by first | assumption | exact U64.wrap _ | exact U64.bits _ _ _ | exact U64.lit (by omega) (by omega))) (by first | assumption | exact U64.wrap _ | exact U64.bits _ _ _ | exact U64.div (by first | assumption | exact U64.wrap _ | exact U64.bits _ _ _ | exact U64.lit (by omega) (by omega)) _ | exact U64.ediv (by first | assumption | exact U64.wrap _ | exact U64.bits _ _ _ | exact U64.lit (by omega) (by omega)) _ (by omega) | exact U64.lit (by omega) (by omega) | exact U64.one _ (by first | assumption | exact U64.wrap _ | exact U64.bits _ _ _ | exact U64.lit (by omega) (by omega)) (by first | assumption | exact U64.wrap _ | exact U64.bits _ _ _ | exact U64.lit (by omega) (by omega))))) (by (first | assumption | exact U64.wrap _ | exact U64.bits _ _ _ | exact U64.div (by first | assumption | exact U64.wrap _ | exact U64.bits _ _ _ | exact U64.div (by first | assumption | exact U64.wrap _ | exact U64.bits _ _ _ | exact U64.lit (by omega) (by omega)) _ | exact U64.ediv (by first | assumption | exact U64.wrap _ | exact U64.bits _ _ _ | exact U64.lit (by omega) (by omega)) _ (by omega) | exact U64.lit (by omega) (by omega) | exact U64.one _ (by first | assumption | exact U64.wrap _ | exact U64.bits _ _ _ | exact U64.lit (by omega) (by omega)) (by first | assumption | exact U64.wrap _ | exact U64.bits _ _ _ | exact U64.lit (by omega) (by omega))) _ | exact U64.ediv (by first | assumption | exact U64.wrap _ | exact U64.bits _ _ _ | exact U64.div (by first | assumption | exact U64.wrap _ | exact U64.bits _ _ _ | exact U64.lit (by omega) (by omega)) _ | exact U64.ediv (by first | assumption | exact U64.wrap _ | exact U64.bits _ _ _ | exact U64.lit (by omega) (by omega)) _ (by omega) | exact U64.lit (by omega) (by omega) | exact U64.one _ (by first | assumption | exact U64.wrap _ | exact U64.bits _ _ _ | exact U64.lit (by omega) (by omega)) (by first | assumption | exact U64.wrap _ | exact U64.bits _ _ _ | exact U64.lit (by omega) (by omega))) _ (by omega) | exact U64.lit (by omega) (by omega) | exact U64.one _ (by first | assumption | exact U64.wrap _ | exact U64.bits _ _ _ | exact U64.div (by first | assumption | exact U64.wrap _ | exact U64.bits _ _ _ | exact U64.lit (by omega) (by omega)) _ | exact U64.ediv (by first | assumption | exact U64.wrap _ | exact U64.bits _ _ _ | exact U64.lit (by omega) (by omega)) _ (by omega) | exact U64.lit (by omega) (by omega) | exact U64.one _ (by first | assumption | exact U64.wrap _ | exact U64.bits _ _ _ | exact U64.lit (by omega) (by omega)) (by first | assumption | exact U64.wrap _ | exact U64.bits _ _ _ | exact U64.lit (by omega) (by omega))) (by first | assumption | exact U64.wrap _ | exact U64.bits _ _ _ | exact U64.div (by first | assumption | exact U64.wrap _ | exact U64.bits _ _ _ | exact U64.lit (by omega) (by omega)) _ | exact U64.ediv (by first | assumption | exact U64.wrap _ | exact U64.bits _ _ _ | exact U64.lit (by omega) (by omega)) _ (by omega) | exact U64.lit (by omega) (by omega) | exact U64.one _ (by first | assumption | exact U64.wrap _ | exact U64.bits _ _ _ | exact U64.lit (by omega) (by omega)) (by first | assumption | exact U64.wrap _ | exact U64.bits _ _ _ | exact U64.lit (by omega) (by omega))))) (by omega) (by omega)) _ ?_; rintro _ y__ ⟨h6, l6, rfl, uh6, ul6⟩)
    | (with_reducible refine Go.Proofs.YgcoaaGreat.NatW.at_later 376 ?_; refine Go.Proofs.YgcoaaGreat.NatW.Ret.run (wsqrt_ret _ _ (by (first | assumption | exact U64.wrap _ | exact U64.bits _ _ _ | exact U64.div (by first | assumption | exact U64.wrap _ | exact U64.bits _ _ _ | exact U64.div (by first | assumption | exact U64.wrap _ | exact U64.bits _ _ _ | exact U64.lit (by omega) (by omega)) _ | exact U64.ediv (by first | assumption | exact U64.wrap _ | exact U64.bits _ _ _ | exact U64.lit (by omega) (by omega)) _ (by omega) | exact U64.lit (by omega) (by omega) | exact U64.one _ (by first | assumption | exact U64.wrap _ | exact U64.bits _ _ _ | exact U64.lit (by omega) (by omega)) (by first | assumption | exact U64.wrap _ | exact U64.bits _ _ _ | exact U64.lit (by omega) (by omega))) _ | exact U64.ediv (by first | assumption | exact U64.wrap _ | exact U64.bits _ _ _ | exact U64.div (by first | assumption | exact U64.wrap _ | exact U64.bits _ _ _ | exact U64.lit (by omega) (by omega)) _ | exact U64.ediv (by first | assumption | exact U64.wrap _ | exact U64.bits _ _ _ | exact U64.lit (by omega) (by omega)) _ (by omega) | exact U64.lit (by omega) (by omega) | exact U64.one _ (by first | assumption | exact U64.wrap _ | exact U64.bits _ _ _ | exact U64.lit (by omega) (by omega)) (by first | assumption | exact U64.wrap _ | exact U64.bits _ _ _ | exact U64.lit (by omega) (by omega))) _ (by omega) | exact U64.lit (by omega) (by omega) | exact U64.one _ (by first | assumption | exact U64.wrap _ | exact U64.bits _ _ _ | exact U64.div (by first | assumption | exact U64.wrap _ | exact U64.bits _ _ _ | exact U64.lit (by omega) (by omega)) _ | exact U64.ediv (by first | assumption | exact U64.wrap _ | exact U64.bits _ _ _ | exact U64.lit (by omega) (by omega)) _ (by omega) | exact U64.lit (by omega) (by omega) | exact U64.one _ (by first | assumption | exact U64.wrap _ | exact U64.bits _ _ _ | exact U64.lit (by omega) (by omega)) (by first | assumption | exact U64.wrap _ | exact U64.bits _ _ _ | exact U64.lit (by omega) (by omega))) (by first | assumption | exact U64.wrap _ | exact U64.bits _ _ _ | exact U64.div (by first | assumption | exact U64.wrap _ | exact U64.bits _ _ _ | exact U64.lit (by omega) (by omega)) _ | exact U64.ediv (by first | assumption | exact U64.wrap _ | exact U64.bits _ _ _ | exact U64.lit (by omega) (by omega)) _ (by omega) | exact U64.lit (by omega) (by omega) | exact U64.one _ (by first | assumption | exact U64.wrap _ | exact U64.bits _ _ _ | exact U64.lit (by omega) (by omega)) (by first | assumption | exact U64.wrap _ | exact U64.bits _ _ _ | exact U64.lit (by omega) (by omega))))) (by (first | assumption | exact U64.wrap _ | exact U64.bits _ _ _ | exact U64.div (by first | assumption | exact U64.wrap _ | exact U64.bits _ _ _ | exact U64.div (by first | assumption | exact U64.wrap _ | exact U64.bits _ _ _ | exact U64.lit (by omega) (by omega)) _ | exact U64.ediv (by first | assumption | exact U64.wrap _ | exact U64.bits _ _ _ | exact U64.lit (by omega) (by omega)) _ (by omega) | exact U64.lit (by omega) (by omega) | exact U64.one _ (by first | assumption | exact U64.wrap _ | exact U64.bits _ _ _ | exact U64.lit (by omega) (by omega)) (by first | assumption | exact U64.wrap _ | exact U64.bits _ _ _ | exact U64.lit (by omega) (by omega))) _ | exact U64.ediv (by first | assumption | exact U64.wrap _ | exact U64.bits _ _ _ | exact U64.div (by first | assumption | exact U64.wrap _ | exact U64.bits _ _ _ | exact U64.lit (by omega) (by omega)) _ | exact U64.ediv (by first | assumption | exact U64.wrap _ | exact U64.bits _ _ _ | exact U64.lit (by omega) (by omega)) _ (by omega) | exact U64.lit (by omega) (by omega) | exact U64.one _ (by first | assumption | exact U64.wrap _ | exact U64.bits _ _ _ | exact U64.lit (by omega) (by omega)) (by first | assumption | exact U64.wrap _ | exact U64.bits _ _ _ | exact U64.lit (by omega) (by omega))) _ (by omega) | exact U64.lit (by omega) (by omega) | exact U64.one _ (by first | assumption | exact U64.wrap _ | exact U64.bits _ _ _ | exact U64.div (by first | assumption | exact U64.wrap _ | exact U64.bits _ _ _ | exact U64.lit (by omega) (by omega)) _ | exact U64.ediv (by first | assumption | exact U64.wrap _ | exact U64.bits _ _ _ | exact U64.lit (by omega) (by omega)) _ (by omega) | exact U64.lit (by omega) (by omega) | exact U64.one _ (by first | assumption | exact U64.wrap _ | exact U64.bits _ _ _ | exact U64.lit (by omega) (by omega)) (by first | assumption | exact U64.wrap _ | exact U64.bits _ _ _ | exact U64.lit (by omega) (by omega))) (by first | assumption | exact U64.wrap _ | exact U64.bits _ _ _ | exact U64.div (by first | assumption | exact U64.wrap _ | exact U64.bits _ _ _ | exact U64.lit (by omega) (by omega)) _ | exact U64.ediv (by first | assumption | exact U64.wrap _ | exact U64.bits _ _ _ | exact U64.lit (by omega) (by omega)) _ (by omega) | exact U64.lit (by omega) (by omega) | exact U64.one _ (by first | assumption | exact U64.wrap _ | exact U64.bits _ _ _ | exact U64.lit (by omega) (by omega)) (by first | assumption | exact U64.wrap _ | exact U64.bits _ _ _ | exact U64.lit (by omega) (by omega)))))) _ ?_; rintro _ y__ ⟨s6, b6, rfl, us6⟩))
  all_goals first
    | exact unhide HK _ _ ⟨_, _, rfl, by assumption⟩ (hB _)
    | exact unhide HK _ _ ⟨_, _, rfl, snd_nan E M (by omega)⟩ (hB _)
    | exact unhide HK _ _ ⟨_, _, rfl, snd_zero E M _ (by omega)⟩ (hB _)
    | exact unhide HK _ _ ⟨_, _, rfl, snd_inf E M _ (by omega)⟩ (hB _)
    | skip

set_option maxRecDepth 20000 in
set_option maxHeartbeats 4000000 in
theorem sqrt_ret (E M : Nat) (hf : fok E M = true) (m a : Int) (ha : U64 a) : Ret 139 #[fmt E M, .int .u8 m, .int .u64 a] (fun v => ∃ r, v = .int .u64 r ∧ Snd E M r) := by
  obtain ⟨g1, g2, g3, g4⟩ := fok_bd hf
  intro w K hK
  have HK := hide hK
  clear hK
  obtain ⟨wb, x0, hwb, r0, hB, hZ⟩ := boxes1 w #[.int .u8 E, .int .u8 M] 23
  have c00 : ∀ x : Later wb, _ = some (.int .u8 E : Value) := Later.cell r0 0 _ rfl
  have c01 : ∀ x : Later wb, _ = some (.int .u8 M : Value) := Later.cell r0 1 _ rfl
  have R0 := hide r0
  clear r0
  have hne : Nonempty (Later wb) := ⟨x0⟩
  go_enter Oaag.func139, Oaag.ntmps139
  go_wp2_with (first
    | (with_reducible refine Go.Proofs.YgcoaaGreat.NatW.at_later 250 ?_; refine Go.Proofs.YgcoaaGreat.NatW.Ret.run (sqrtFlags_ret E M hf m a ha) _ ?_; rintro _ y__ ⟨rr, ff, rfl, hrr⟩))
  all_goals first | exact unhide HK _ _ ⟨_, rfl, by assumption⟩ (hB _) | skip


end Go.Proofs.YgcoaaGreat.NatW
