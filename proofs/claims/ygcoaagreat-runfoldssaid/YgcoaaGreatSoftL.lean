/-
  Package soft: AddFlags.
-/
import Derived.Test.YgcoaaGreatTac
import Derived.Test.YgcoaaGreatSoftK
set_option linter.unusedVariables false
set_option linter.unusedSimpArgs false
namespace Go.Proofs.YgcoaaGreat.NatW
attribute [local go_sem] Go.Instr.field Go.asAgg
open Go.RowKit
open Go.Proofs.YgcoaaGreat.Limbs Go.Proofs.YgcoaaGreat.Bits

set_option maxRecDepth 20000 in
set_option maxHeartbeats 4000000 in
theorem addFlags_ret (E M : Nat) (hf : fok E M = true) (m a b : Int) (ha : U64 a) (hb : U64 b) : Ret 246 #[fmt E M, .int .u8 m, .int .u64 a, .int .u64 b] (fun v => ∃ r f, v = .tuple #[.int .u64 r, .int .u8 f] ∧ Snd E M r) := by
  obtain ⟨g1, g2, g3, g4⟩ := fok_bd hf
  intro w K hK
  have HK := hide hK
  clear hK
  obtain ⟨wb, x0, hwb, r0, hB, hZ⟩ := boxes1 w #[.int .u8 E, .int .u8 M] 23
  have c00 : ∀ x : Later wb, _ = some (.int .u8 E : Value) := Later.cell r0 0 _ rfl
  have c01 : ∀ x : Later wb, _ = some (.int .u8 M : Value) := Later.cell r0 1 _ rfl
  have R0 := hide r0
  clear r0
  have hne : Nonempty (Later wb) := ⟨x0⟩
  go_enter Oaag.func246, Oaag.ntmps246
  go_wp2_with (first
    | (
      (first | with_reducible refine Go.Proofs.YgcoaaGreat.NatW.at_setw ?_ | with_reducible refine Go.Proofs.YgcoaaGreat.NatW.at_setc ?_)
      ((first | with_reducible refine Go.Proofs.YgcoaaGreat.NatW.gen_calls ?_ | with_reducible refine Go.Proofs.YgcoaaGreat.NatW.gen_wp ?_ | with_reducible refine Go.Proofs.YgcoaaGreat.NatW.gen_list ?_ | with_reducible refine Go.Proofs.YgcoaaGreat.NatW.gen_body ?_); intro W hW)
      have hBW : Below w.heap.size w W := by rw [← hW]; (repeat ((with_reducible refine Go.Proofs.YgcoaaGreat.NatW.at_setb ?_); refine below_store ?_ (by omega) _)); exact hB _
      have hzW : w.heap.size + 1 ≤ W.heap.size := by rw [← hW]; (try simp only [World.size_setCell]); exact hZ _
      have hzW1 : b1 < W.heap.size := by rw [← hW]; simp only [World.size_setCell]; exact bs1
      have hzW2 : b2 < W.heap.size := by rw [← hW]; simp only [World.size_setCell]; exact bs2
      have qc00 := congrArg (fun z : World => z.cell? ⟨w.heap.size, 0, none⟩) hW
      simp [go_sem, c00, c01, c10, c11, c12, c13, c20, c21, c22, c23, nn0, nn1, nn2, nn3, nn4, nn5] at qc00
      have qc01 := congrArg (fun z : World => z.cell? ⟨w.heap.size, 1, none⟩) hW
      simp [go_sem, c00, c01, c10, c11, c12, c13, c20, c21, c22, c23, nn0, nn1, nn2, nn3, nn4, nn5] at qc01
      have qc10 := congrArg (fun z : World => z.cell? ⟨b1, 0, none⟩) hW
      simp [go_sem, c00, c01, c10, c11, c12, c13, c20, c21, c22, c23, nn0, nn1, nn2, nn3, nn4, nn5] at qc10
      have qc11 := congrArg (fun z : World => z.cell? ⟨b1, 1, none⟩) hW
      simp [go_sem, c00, c01, c10, c11, c12, c13, c20, c21, c22, c23, nn0, nn1, nn2, nn3, nn4, nn5] at qc11
      have qc12 := congrArg (fun z : World => z.cell? ⟨b1, 2, none⟩) hW
      simp [go_sem, c00, c01, c10, c11, c12, c13, c20, c21, c22, c23, nn0, nn1, nn2, nn3, nn4, nn5] at qc12
      have qc13 := congrArg (fun z : World => z.cell? ⟨b1, 3, none⟩) hW
      simp [go_sem, c00, c01, c10, c11, c12, c13, c20, c21, c22, c23, nn0, nn1, nn2, nn3, nn4, nn5] at qc13
      have qc20 := congrArg (fun z : World => z.cell? ⟨b2, 0, none⟩) hW
      simp [go_sem, c00, c01, c10, c11, c12, c13, c20, c21, c22, c23, nn0, nn1, nn2, nn3, nn4, nn5] at qc20
      have qc21 := congrArg (fun z : World => z.cell? ⟨b2, 1, none⟩) hW
      simp [go_sem, c00, c01, c10, c11, c12, c13, c20, c21, c22, c23, nn0, nn1, nn2, nn3, nn4, nn5] at qc21
      have qc22 := congrArg (fun z : World => z.cell? ⟨b2, 2, none⟩) hW
      simp [go_sem, c00, c01, c10, c11, c12, c13, c20, c21, c22, c23, nn0, nn1, nn2, nn3, nn4, nn5] at qc22
      have qc23 := congrArg (fun z : World => z.cell? ⟨b2, 3, none⟩) hW
      simp [go_sem, c00, c01, c10, c11, c12, c13, c20, c21, c22, c23, nn0, nn1, nn2, nn3, nn4, nn5] at qc23
      clear hW hB hZ hne c00 c01 c10 c11 c12 c13 c20 c21 c22 c23 f10  f11  f12  f13  f20  f21  f22  f23 bs1 bs2
      obtain ⟨wb, x0, hx, hcl, hfz, hB, hZ⟩ := rebase2 w W _ hBW hzW
      have hne : Nonempty (Later wb) := ⟨x0⟩
      have c00 := hcl _ _ _ qc00.symm (by omega)
      have c01 := hcl _ _ _ qc01.symm (by omega)
      have c10 := hcl _ _ _ qc10.symm (by omega)
      have c11 := hcl _ _ _ qc11.symm (by omega)
      have c12 := hcl _ _ _ qc12.symm (by omega)
      have c13 := hcl _ _ _ qc13.symm (by omega)
      have c20 := hcl _ _ _ qc20.symm (by omega)
      have c21 := hcl _ _ _ qc21.symm (by omega)
      have c22 := hcl _ _ _ qc22.symm (by omega)
      have c23 := hcl _ _ _ qc23.symm (by omega)
      clear hcl hfz hBW hzW qc00 qc01 qc10 qc11 qc12 qc13 qc20 qc21 qc22 qc23 hzW1 hzW2
      rw [hx]
      clear hx)
    | (with_reducible refine Go.Proofs.YgcoaaGreat.NatW.at_later 67 ?_; refine Go.Proofs.YgcoaaGreat.NatW.Ret.run (fmtOk_ret E M hf) _ ?_; rintro _ y__ rfl)
    | (with_reducible refine Go.Proofs.YgcoaaGreat.NatW.at_later 45 ?_; refine Go.Proofs.YgcoaaGreat.NatW.Ret.run (nan_ret E M hf) _ ?_; rintro _ y__ rfl)
    | (with_reducible refine Go.Proofs.YgcoaaGreat.NatW.at_later 85 ?_; refine Go.Proofs.YgcoaaGreat.NatW.Ret.run (inf_ret E M hf _) _ ?_; rintro _ y__ rfl)
    | (with_reducible refine Go.Proofs.YgcoaaGreat.NatW.at_later 372 ?_; refine Go.Proofs.YgcoaaGreat.NatW.Ret.run (addFinite_ret E M hf m _ _ _ _ _ _ _ _ (by omega) (by omega) (by omega) (by omega) (by (first | assumption | exact U64.wrap _ | exact U64.bits _ _ _ | exact U64.div (by first | assumption | exact U64.wrap _ | exact U64.bits _ _ _ | exact U64.div (by first | assumption | exact U64.wrap _ | exact U64.bits _ _ _ | exact U64.lit (by omega) (by omega)) _ | exact U64.ediv (by first | assumption | exact U64.wrap _ | exact U64.bits _ _ _ | exact U64.lit (by omega) (by omega)) _ (by omega) | exact U64.lit (by omega) (by omega) | exact U64.one _ (by first | assumption | exact U64.wrap _ | exact U64.bits _ _ _ | exact U64.lit (by omega) (by omega)) (by first | assumption | exact U64.wrap _ | exact U64.bits _ _ _ | exact U64.lit (by omega) (by omega))) _ | exact U64.ediv (by first | assumption | exact U64.wrap _ | exact U64.bits _ _ _ | exact U64.div (by first | assumption | exact U64.wrap _ | exact U64.bits _ _ _ | exact U64.lit (by omega) (by omega)) _ | exact U64.ediv (by first | assumption | exact U64.wrap _ | exact U64.bits _ _ _ | exact U64.lit (by omega) (by omega)) _ (by omega) | exact U64.lit (by omega) (by omega) | exact U64.one _ (by first | assumption | exact U64.wrap _ | exact U64.bits _ _ _ | exact U64.lit (by omega) (by omega)) (by first | assumption | exact U64.wrap _ | exact U64.bits _ _ _ | exact U64.lit (by omega) (by omega))) _ (by omega) | exact U64.lit (by omega) (by omega) | exact U64.one _ (by first | assumption | exact U64.wrap _ | exact U64.bits _ _ _ | exact U64.div (by first | assumption | exact U64.wrap _ | exact U64.bits _ _ _ | exact U64.lit (by omega) (by omega)) _ | exact U64.ediv (by first | assumption | exact U64.wrap _ | exact U64.bits _ _ _ | exact U64.lit (by omega) (by omega)) _ (by omega) | exact U64.lit (by omega) (by omega) | exact U64.one _ (by first | assumption | exact U64.wrap _ | exact U64.bits _ _ _ | exact U64.lit (by omega) (by omega)) (by first | assumption | exact U64.wrap _ | exact U64.bits _ _ _ | exact U64.lit (by omega) (by omega))) (by first | assumption | exact U64.wrap _ | exact U64.bits _ _ _ | exact U64.div (by first | assumption | exact U64.wrap _ | exact U64.bits _ _ _ | exact U64.lit (by omega) (by omega)) _ | exact U64.ediv (by first | assumption | exact U64.wrap _ | exact U64.bits _ _ _ | exact U64.lit (by omega) (by omega)) _ (by omega) | exact U64.lit (by omega) (by omega) | exact U64.one _ (by first | assumption | exact U64.wrap _ | exact U64.bits _ _ _ | exact U64.lit (by omega) (by omega)) (by first | assumption | exact U64.wrap _ | exact U64.bits _ _ _ | exact U64.lit (by omega) (by omega))))) (by (first | assumption | exact U64.wrap _ | exact U64.bits _ _ _ | exact U64.div (by first | assumption | exact U64.wrap _ | exact U64.bits _ _ _ | exact U64.div (by first | assumption | exact U64.wrap _ | exact U64.bits _ _ _ | exact U64.lit (by omega) (by omega)) _ | exact U64.ediv (by first | assumption | exact U64.wrap _ | exact U64.bits _ _ _ | exact U64.lit (by omega) (by omega)) _ (by omega) | exact U64.lit (by omega) (by omega) | exact U64.one _ (by first | assumption | exact U64.wrap _ | exact U64.bits _ _ _ | exact U64.lit (by omega) (by omega)) (by first | assumption | exact U64.wrap _ | exact U64.bits _ _ _ | exact U64.lit (by omega) (by omega))) _ | exact U64.ediv (by first | assumption | exact U64.wrap _ | exact U64.bits _ _ _ | exact U64.div (by first | assumption | exact U64.wrap _ | exact U64.bits _ _ _ | exact U64.lit (by omega) (by omega)) _ | exact U64.ediv (by first | assumption | exact U64.wrap _ | exact U64.bits _ _ _ | exact U64.lit (by omega) (by omega)) _ (by omega) | exact U64.lit (by omega) (by omega) | exact U64.one _ (by first | assumption | exact U64.wrap _ | exact U64.bits _ _ _ | exact U64.lit (by omega) (by omega)) (by first | assumption | exact U64.wrap _ | exact U64.bits _ _ _ | exact U64.lit (by omega) (by omega))) _ (by omega) | exact U64.lit (by omega) (by omega) | exact U64.one _ (by first | assumption | exact U64.wrap _ | exact U64.bits _ _ _ | exact U64.div (by first | assumption | exact U64.wrap _ | exact U64.bits _ _ _ | exact U64.lit (by omega) (by omega)) _ | exact U64.ediv (by first | assumption | exact U64.wrap _ | exact U64.bits _ _ _ | exact U64.lit (by omega) (by omega)) _ (by omega) | exact U64.lit (by omega) (by omega) | exact U64.one _ (by first | assumption | exact U64.wrap _ | exact U64.bits _ _ _ | exact U64.lit (by omega) (by omega)) (by first | assumption | exact U64.wrap _ | exact U64.bits _ _ _ | exact U64.lit (by omega) (by omega))) (by first | assumption | exact U64.wrap _ | exact U64.bits _ _ _ | exact U64.div (by first | assumption | exact U64.wrap _ | exact U64.bits _ _ _ | exact U64.lit (by omega) (by omega)) _ | exact U64.ediv (by first | assumption | exact U64.wrap _ | exact U64.bits _ _ _ | exact U64.lit (by omega) (by omega)) _ (by omega) | exact U64.lit (by omega) (by omega) | exact U64.one _ (by first | assumption | exact U64.wrap _ | exact U64.bits _ _ _ | exact U64.lit (by omega) (by omega)) (by first | assumption | exact U64.wrap _ | exact U64.bits _ _ _ | exact U64.lit (by omega) (by omega)))))) _ ?_; rintro _ y__ ⟨rr, ff, rfl, hrr⟩)
    | (
      with_reducible refine Go.Proofs.YgcoaaGreat.NatW.at_reg 5 ?_
      (repeat (first | (rewrite [Go.Proofs.YgcoaaGreat.NatW.frz_ite]; generalize Go.Proofs.YgcoaaGreat.NatW.frzI _ = x__) | (rewrite [Go.Proofs.YgcoaaGreat.NatW.frz_dec]; generalize Go.Proofs.YgcoaaGreat.NatW.frzB _ = x__) | (rewrite [Go.Proofs.YgcoaaGreat.NatW.frz_beq]; generalize Go.Proofs.YgcoaaGreat.NatW.frzB _ = x__) | (rewrite [Go.Proofs.YgcoaaGreat.NatW.frz_not]; generalize Go.Proofs.YgcoaaGreat.NatW.frzB _ = x__) | (rewrite [Go.Proofs.YgcoaaGreat.NatW.frz_and]; generalize Go.Proofs.YgcoaaGreat.NatW.frzB _ = x__) | (rewrite [Go.Proofs.YgcoaaGreat.NatW.frz_or]; generalize Go.Proofs.YgcoaaGreat.NatW.frzB _ = x__)))
      refine Go.Lax.region_calls _ 8 2 [(1, fun v => v = .int .u64 ((nanP E M : Nat) : Int)), (5, fun v => ∃ f, v = .int .u8 f)] (by kernel_rfl) (by kernel_rfl) (by kernel_rfl) (List.forall_mem_cons.2 ⟨⟨_, rfl⟩, List.forall_mem_cons.2 ⟨⟨_, 0, rfl⟩, fun _ h => by cases h⟩⟩) ?_
      iterate 1 (refine Go.Lax.walk_det rfl rfl rfl ?_; go_big_quiet_want; go_big_quiet_op; go_big_quiet_on; refine wpQuiet_nil ?_)
      refine Go.Lax.call_at rfl ?_ (fun y__ K__ hK__ => by (go_wp2_with fail; refine (nan_ret E M hf) _ _ ?_; intro v__ w__ hv__ hb__; have hh__ := Go.Proofs.YgcoaaGreat.NatW.hide (hK__ v__ w__ hv__ hb__); clear hK__ hv__; go_wp2_with fail; exact Eq.mp (by kernel_rfl) (Go.Proofs.YgcoaaGreat.NatW.unhide hh__)))
      rintro v rfl
      ((try dsimp only); go_big_quiet_want; go_big_quiet_op; go_big_quiet_on; refine wpQuiet_nil ?_)
      iterate 3 (refine Go.Lax.walk_det rfl rfl rfl ?_; go_big_quiet_want; go_big_quiet_op; go_big_quiet_on; refine wpQuiet_nil ?_)
      refine Go.Lax.call_at rfl ?_ (fun y__ K__ hK__ => by (go_wp2_with fail; refine (heard_ret E M hf a b ha hb) _ _ ?_; intro v__ w__ hv__ hb__; have hh__ := Go.Proofs.YgcoaaGreat.NatW.hide (hK__ v__ w__ hv__ hb__); clear hK__ hv__; go_wp2_with fail; exact Eq.mp (by kernel_rfl) (Go.Proofs.YgcoaaGreat.NatW.unhide hh__)))
      rintro v ⟨fl, rfl⟩
      ((try dsimp only); go_big_quiet_want; go_big_quiet_op; go_big_quiet_on; refine wpQuiet_nil ?_)
      iterate 2 (refine Go.Lax.walk_det rfl rfl rfl ?_; go_big_quiet_want; go_big_quiet_op; go_big_quiet_on; refine wpQuiet_nil ?_)
      refine Go.Lax.end_at ?_
      intro y)
    | (
      with_reducible refine Go.Proofs.YgcoaaGreat.NatW.at_reg 3 ?_
      (repeat (first | (rewrite [Go.Proofs.YgcoaaGreat.NatW.frz_ite]; generalize Go.Proofs.YgcoaaGreat.NatW.frzI _ = x__) | (rewrite [Go.Proofs.YgcoaaGreat.NatW.frz_dec]; generalize Go.Proofs.YgcoaaGreat.NatW.frzB _ = x__) | (rewrite [Go.Proofs.YgcoaaGreat.NatW.frz_beq]; generalize Go.Proofs.YgcoaaGreat.NatW.frzB _ = x__) | (rewrite [Go.Proofs.YgcoaaGreat.NatW.frz_not]; generalize Go.Proofs.YgcoaaGreat.NatW.frzB _ = x__) | (rewrite [Go.Proofs.YgcoaaGreat.NatW.frz_and]; generalize Go.Proofs.YgcoaaGreat.NatW.frzB _ = x__) | (rewrite [Go.Proofs.YgcoaaGreat.NatW.frz_or]; generalize Go.Proofs.YgcoaaGreat.NatW.frzB _ = x__)))
      refine Go.LaxA.region_allocs _ 8 2 [(2, fun v => ∃ neg c e m, v = .agg #[.bool neg, .int .i8 c, .int .i16 e, .int .u64 m] ∧ Pb M c e m ∧ c = cls E M (Int.toNat a)), (5, fun v => ∃ neg c e m, v = .agg #[.bool neg, .int .i8 c, .int .i16 e, .int .u64 m] ∧ Pb M c e m ∧ c = cls E M (Int.toNat b))] [6, 7] (.cells #[.bool false, .int .i8 0, .int .i16 0, .int .u64 0] 113 (0, 0)) (by kernel_rfl) (by kernel_rfl) (by kernel_rfl) (List.forall_mem_cons.2 ⟨(unpack_i E M hf a ha).ex, List.forall_mem_cons.2 ⟨(unpack_i E M hf b hb).ex, fun _ h => by cases h⟩⟩) ?_
      iterate 2 (refine Go.Lax.walk_det rfl rfl rfl ?_; go_big_quiet_want; go_big_quiet_op; go_big_quiet_on; refine wpQuiet_nil ?_)
      refine Go.LaxA.call_at rfl rfl ?_ (fun y__ K__ hK__ => by (go_wp2_with fail; refine (unpack_i E M hf a ha) _ _ ?_; intro v__ w__ hv__ hb__; have hh__ := Go.Proofs.YgcoaaGreat.NatW.hide (hK__ v__ w__ hv__ hb__); clear hK__ hv__; go_wp2_with fail; exact Eq.mp (by kernel_rfl) (Go.Proofs.YgcoaaGreat.NatW.unhide hh__)))
      rintro v ⟨xn, xc, xe, xm, rfl, xp, xq⟩
      ((try dsimp only); go_big_quiet_want; go_big_quiet_op; go_big_quiet_on; refine wpQuiet_nil ?_)
      obtain ⟨xe0, xe1, uxm, xc0, xc1⟩ := Pb.bd g4 xp
      have XP := hide xp
      clear xp xq
      iterate 2 (refine Go.Lax.walk_det rfl rfl rfl ?_; go_big_quiet_want; go_big_quiet_op; go_big_quiet_on; refine wpQuiet_nil ?_)
      refine Go.LaxA.call_at rfl rfl ?_ (fun y__ K__ hK__ => by (go_wp2_with fail; refine (unpack_i E M hf b hb) _ _ ?_; intro v__ w__ hv__ hb__; have hh__ := Go.Proofs.YgcoaaGreat.NatW.hide (hK__ v__ w__ hv__ hb__); clear hK__ hv__; go_wp2_with fail; exact Eq.mp (by kernel_rfl) (Go.Proofs.YgcoaaGreat.NatW.unhide hh__)))
      rintro v ⟨yn, yc, ye, ym, rfl, yp, yq⟩
      ((try dsimp only); go_big_quiet_want; go_big_quiet_op; go_big_quiet_on; refine wpQuiet_nil ?_)
      obtain ⟨ye0, ye1, uym, yc0, yc1⟩ := Pb.bd g4 yp
      have YP := hide yp
      clear yp yq
      refine Go.LaxA.alloc_at rfl ?_ (fun y__ K__ hK__ => by (have HK__ := Go.Proofs.YgcoaaGreat.NatW.hide hK__; clear hK__; go_wp2_with fail; exact Eq.mp (by kernel_rfl) (Go.Proofs.YgcoaaGreat.NatW.unhide HK__)))
      intro b1
      ((try dsimp only); go_big_quiet_want; go_big_quiet_op; go_big_quiet_on; refine wpQuiet_nil ?_)
      refine Go.LaxA.alloc_at rfl ?_ (fun y__ K__ hK__ => by (have HK__ := Go.Proofs.YgcoaaGreat.NatW.hide hK__; clear hK__; go_wp2_with fail; exact Eq.mp (by kernel_rfl) (Go.Proofs.YgcoaaGreat.NatW.unhide HK__)))
      intro b2
      ((try dsimp only); go_big_quiet_want; go_big_quiet_op; go_big_quiet_on; refine wpQuiet_nil ?_)
      refine Go.LaxA.end_at ?_
      intro y hG hD
      simp only [List.forall_mem_cons] at hG
      obtain ⟨gg2, gg1, -⟩ := hG
      simp at hD
      have hzb := hZ ⟨wb, Below.refl _ _⟩
      simp only at hzb
      obtain ⟨bz1, br1⟩ := Go.LaxA.thtA_ptr gg1 rfl
      have bs1 : b1 < y.at_.heap.size := (Array.getElem?_eq_some_iff.1 br1).1
      have c10 : y.at_.cell? ⟨b1, 0, none⟩ = some (.bool false) := by rw [cell_of_row _ _ _ _ _ _ br1]; rfl
      have f10 := frozen_of_row y.at_ b1 0 _ _ br1
      have c11 : y.at_.cell? ⟨b1, 1, none⟩ = some (.int .i8 0) := by rw [cell_of_row _ _ _ _ _ _ br1]; rfl
      have f11 := frozen_of_row y.at_ b1 1 _ _ br1
      have c12 : y.at_.cell? ⟨b1, 2, none⟩ = some (.int .i16 0) := by rw [cell_of_row _ _ _ _ _ _ br1]; rfl
      have f12 := frozen_of_row y.at_ b1 2 _ _ br1
      have c13 : y.at_.cell? ⟨b1, 3, none⟩ = some (.int .u64 0) := by rw [cell_of_row _ _ _ _ _ _ br1]; rfl
      have f13 := frozen_of_row y.at_ b1 3 _ _ br1
      obtain ⟨bz2, br2⟩ := Go.LaxA.thtA_ptr gg2 rfl
      have bs2 : b2 < y.at_.heap.size := (Array.getElem?_eq_some_iff.1 br2).1
      have c20 : y.at_.cell? ⟨b2, 0, none⟩ = some (.bool false) := by rw [cell_of_row _ _ _ _ _ _ br2]; rfl
      have f20 := frozen_of_row y.at_ b2 0 _ _ br2
      have c21 : y.at_.cell? ⟨b2, 1, none⟩ = some (.int .i8 0) := by rw [cell_of_row _ _ _ _ _ _ br2]; rfl
      have f21 := frozen_of_row y.at_ b2 1 _ _ br2
      have c22 : y.at_.cell? ⟨b2, 2, none⟩ = some (.int .i16 0) := by rw [cell_of_row _ _ _ _ _ _ br2]; rfl
      have f22 := frozen_of_row y.at_ b2 2 _ _ br2
      have c23 : y.at_.cell? ⟨b2, 3, none⟩ = some (.int .u64 0) := by rw [cell_of_row _ _ _ _ _ _ br2]; rfl
      have f23 := frozen_of_row y.at_ b2 3 _ _ br2
      have bw1 : w.heap.size + 1 ≤ b1 := by omega
      have bw2 : w.heap.size + 1 ≤ b2 := by omega
      have nn0 : b1 ≠ b2 := by omega
      have nn1 : b1 ≠ w.heap.size := by omega
      have nn2 : b2 ≠ b1 := by omega
      have nn3 : b2 ≠ w.heap.size := by omega
      have nn4 : w.heap.size ≠ b1 := by omega
      have nn5 : w.heap.size ≠ b2 := by omega
      clear hD hzb gg1 br1 bz1 gg2 br2 bz2))
  all_goals first
    | exact unhide HK _ _ ⟨_, _, rfl, by assumption⟩ (hB _)
    | exact unhide HK _ _ ⟨_, _, rfl, snd_nan E M (by omega)⟩ (hB _)
    | exact unhide HK _ _ ⟨_, _, rfl, snd_zero E M _ (by omega)⟩ (hB _)
    | exact unhide HK _ _ ⟨_, _, rfl, snd_inf E M _ (by omega)⟩ (hB _)
    | skip


end Go.Proofs.YgcoaaGreat.NatW
