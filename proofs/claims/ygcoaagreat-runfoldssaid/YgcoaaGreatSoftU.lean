/-
  Package soft: ScaleB, RoundInt.
-/
import Derived.Test.YgcoaaGreatTacB
import Derived.Test.YgcoaaGreatSoftK
set_option linter.unusedVariables false
set_option linter.unusedSimpArgs false
namespace Go.Proofs.YgcoaaGreat.NatW
attribute [local go_sem] Go.Instr.field Go.asAgg
open Go.RowKit
open Go.Proofs.YgcoaaGreat.Limbs Go.Proofs.YgcoaaGreat.Bits

set_option maxRecDepth 20000 in
set_option maxHeartbeats 2000000 in
theorem scaleBFlags_ret (E M : Nat) (hf : fok E M = true) (m a n : Int) (ha : U64 a) : Ret 185 #[fmt E M, .int .u8 m, .int .u64 a, .int .i64 n] (fun v => ∃ r f, v = .tuple #[.int .u64 r, .int .u8 f] ∧ Snd E M r) := by
  obtain ⟨g1, g2, g3, g4⟩ := fok_bd hf
  intro w K hK
  have HK := hide hK
  clear hK
  obtain ⟨wb, x0, hwb, r0, hB, hZ⟩ := boxes1 w #[.int .u8 E, .int .u8 M] 23
  have c00 : ∀ x : Later wb, _ = some (.int .u8 E : Value) := Later.cell r0 0 _ rfl
  have c01 : ∀ x : Later wb, _ = some (.int .u8 M : Value) := Later.cell r0 1 _ rfl
  have R0 := hide r0
  clear r0
  have hne : Nonempty (Later wb) := ⟨x0⟩
  go_enter Oaag.func185, Oaag.ntmps185
  go_wp2_with (first
    | (
      (first | with_reducible refine Go.Proofs.YgcoaaGreat.NatW.at_alw ?_ | with_reducible refine Go.Proofs.YgcoaaGreat.NatW.at_alc ?_)
      ((first | with_reducible refine Go.Proofs.YgcoaaGreat.NatW.gen_calls ?_ | with_reducible refine Go.Proofs.YgcoaaGreat.NatW.gen_wp ?_ | with_reducible refine Go.Proofs.YgcoaaGreat.NatW.gen_list ?_ | with_reducible refine Go.Proofs.YgcoaaGreat.NatW.gen_body ?_); intro W hW)
      have hyW : Below wb.heap.size wb W := by rw [← hW]; exact y.ok.alloc y.ok.size _
      have qr := congrArg (fun z : World => z.heap[y.at_.heap.size]?) hW
      rw [heap_alloc_new, hnb] at qr
      clear hW hne
      obtain ⟨wb2, x9, hx, hup, hrow, hZ2⟩ := rebase3 wb W hyW
      replace c00 := fun x : Later wb2 => (show _ from (Exists.choose_spec (hup x)) ▸ c00 (Exists.choose (hup x)))
      replace c01 := fun x : Later wb2 => (show _ from (Exists.choose_spec (hup x)) ▸ c01 (Exists.choose (hup x)))
      replace hB := fun x : Later wb2 => (show _ from (Exists.choose_spec (hup x)) ▸ hB (Exists.choose (hup x)))
      have hne : Nonempty (Later wb2) := ⟨x9⟩
      have r9 := hrow _ _ qr.symm
      have c90 := Later.cell r9 0 _ rfl
      have c91 := Later.cell r9 1 _ rfl
      have c92 := Later.cell r9 2 _ rfl
      have c93 := Later.cell r9 3 _ rfl
      skip
      skip
      skip
      skip
      clear hup hrow hyW qr r9
      rw [hx]
      clear hx)
    | (with_reducible refine Go.Proofs.YgcoaaGreat.NatW.at_later 67 ?_; refine Go.Proofs.YgcoaaGreat.NatW.Ret.run (fmtOk_ret E M hf) _ ?_; rintro _ y__ rfl)
    | (with_reducible refine Go.Proofs.YgcoaaGreat.NatW.at_later 45 ?_; refine Go.Proofs.YgcoaaGreat.NatW.Ret.run (nan_ret E M hf) _ ?_; rintro _ y__ rfl)
    | (with_reducible refine Go.Proofs.YgcoaaGreat.NatW.at_later 85 ?_; refine Go.Proofs.YgcoaaGreat.NatW.Ret.run (inf_ret E M hf _) _ ?_; rintro _ y__ rfl)
    | (with_reducible refine Go.Proofs.YgcoaaGreat.NatW.at_later 373 ?_; refine Go.Proofs.YgcoaaGreat.NatW.Ret.run (zero_ret E M hf _) _ ?_; rintro _ y__ rfl)
    | (with_reducible refine Go.Proofs.YgcoaaGreat.NatW.at_later 340 ?_; refine Go.Proofs.YgcoaaGreat.NatW.Ret.run (roundPack_ret E M hf _ _ _ _ (by omega) (by omega) (by (first | assumption | exact U64.wrap _ | exact U64.bits _ _ _ | exact U64.div (by first | assumption | exact U64.wrap _ | exact U64.bits _ _ _ | exact U64.div (by first | assumption | exact U64.wrap _ | exact U64.bits _ _ _ | exact U64.lit (by omega) (by omega)) _ | exact U64.ediv (by first | assumption | exact U64.wrap _ | exact U64.bits _ _ _ | exact U64.lit (by omega) (by omega)) _ (by omega) | exact U64.lit (by omega) (by omega) | exact U64.one _ (by first | assumption | exact U64.wrap _ | exact U64.bits _ _ _ | exact U64.lit (by omega) (by omega)) (by first | assumption | exact U64.wrap _ | exact U64.bits _ _ _ | exact U64.lit (by omega) (by omega))) _ | exact U64.ediv (by first | assumption | exact U64.wrap _ | exact U64.bits _ _ _ | exact U64.div (by first | assumption | exact U64.wrap _ | exact U64.bits _ _ _ | exact U64.lit (by omega) (by omega)) _ | exact U64.ediv (by first | assumption | exact U64.wrap _ | exact U64.bits _ _ _ | exact U64.lit (by omega) (by omega)) _ (by omega) | exact U64.lit (by omega) (by omega) | exact U64.one _ (by first | assumption | exact U64.wrap _ | exact U64.bits _ _ _ | exact U64.lit (by omega) (by omega)) (by first | assumption | exact U64.wrap _ | exact U64.bits _ _ _ | exact U64.lit (by omega) (by omega))) _ (by omega) | exact U64.lit (by omega) (by omega) | exact U64.one _ (by first | assumption | exact U64.wrap _ | exact U64.bits _ _ _ | exact U64.div (by first | assumption | exact U64.wrap _ | exact U64.bits _ _ _ | exact U64.lit (by omega) (by omega)) _ | exact U64.ediv (by first | assumption | exact U64.wrap _ | exact U64.bits _ _ _ | exact U64.lit (by omega) (by omega)) _ (by omega) | exact U64.lit (by omega) (by omega) | exact U64.one _ (by first | assumption | exact U64.wrap _ | exact U64.bits _ _ _ | exact U64.lit (by omega) (by omega)) (by first | assumption | exact U64.wrap _ | exact U64.bits _ _ _ | exact U64.lit (by omega) (by omega))) (by first | assumption | exact U64.wrap _ | exact U64.bits _ _ _ | exact U64.div (by first | assumption | exact U64.wrap _ | exact U64.bits _ _ _ | exact U64.lit (by omega) (by omega)) _ | exact U64.ediv (by first | assumption | exact U64.wrap _ | exact U64.bits _ _ _ | exact U64.lit (by omega) (by omega)) _ (by omega) | exact U64.lit (by omega) (by omega) | exact U64.one _ (by first | assumption | exact U64.wrap _ | exact U64.bits _ _ _ | exact U64.lit (by omega) (by omega)) (by first | assumption | exact U64.wrap _ | exact U64.bits _ _ _ | exact U64.lit (by omega) (by omega)))))) _ ?_; rintro _ y__ ⟨rr, ff, rfl, hrr⟩)
    | (with_reducible refine Go.Proofs.YgcoaaGreat.NatW.at_later 68 ?_
       refine Ret.run (unpack_i E M hf a ha) _ ?_
       rintro _ y ⟨xn, xc, xe, xm, rfl, xp, xq⟩
       obtain ⟨xe0, xe1, uxm, xc0, xc1⟩ := Pb.bd g4 xp
       have XP := hide xp
       have XQ := hide xq
       clear xp xq
       obtain ⟨nb, hnb⟩ : ∃ nb, y.at_.heap.size = nb := ⟨_, rfl⟩
       have bw : w.heap.size + 1 ≤ nb := by rw [← hnb]; exact hZ y
       have nn0 : nb ≠ w.heap.size := by omega
       have nn1 : w.heap.size ≠ nb := by omega
       have ca0 : ∀ o, (y.at_.alloc o).cell? ⟨w.heap.size, 0, none⟩ = some (.int .u8 E) := fun o => c00 ⟨y.at_.alloc o, y.ok.alloc y.ok.size o⟩
       have ca1 : ∀ o, (y.at_.alloc o).cell? ⟨w.heap.size, 1, none⟩ = some (.int .u8 M) := fun o => c01 ⟨y.at_.alloc o, y.ok.alloc y.ok.size o⟩)
    | (
      with_reducible refine Go.Proofs.YgcoaaGreat.NatW.at_reg 6 ?_
      (repeat (first | (rewrite [Go.Proofs.YgcoaaGreat.NatW.frz_ite]; generalize Go.Proofs.YgcoaaGreat.NatW.frzI _ = x__) | (rewrite [Go.Proofs.YgcoaaGreat.NatW.frz_dec]; generalize Go.Proofs.YgcoaaGreat.NatW.frzB _ = x__) | (rewrite [Go.Proofs.YgcoaaGreat.NatW.frz_beq]; generalize Go.Proofs.YgcoaaGreat.NatW.frzB _ = x__) | (rewrite [Go.Proofs.YgcoaaGreat.NatW.frz_not]; generalize Go.Proofs.YgcoaaGreat.NatW.frzB _ = x__) | (rewrite [Go.Proofs.YgcoaaGreat.NatW.frz_and]; generalize Go.Proofs.YgcoaaGreat.NatW.frzB _ = x__) | (rewrite [Go.Proofs.YgcoaaGreat.NatW.frz_or]; generalize Go.Proofs.YgcoaaGreat.NatW.frzB _ = x__)))
      refine Go.Lax.region_calls _ 8 2 [(1, fun v => v = .int .u64 ((nanP E M : Nat) : Int)), (5, fun v => ∃ f, v = .int .u8 f)] (by kernel_rfl) (by kernel_rfl) (by kernel_rfl) (List.forall_mem_cons.2 ⟨⟨_, rfl⟩, List.forall_mem_cons.2 ⟨⟨_, 0, rfl⟩, fun _ h => by cases h⟩⟩) ?_
      iterate 1 (refine Go.Lax.walk_det rfl rfl rfl ?_; go_big_quiet_want; go_big_quiet_op; go_big_quiet_on; refine wpQuiet_nil ?_)
      refine Go.Lax.call_at rfl ?_ (fun y__ K__ hK__ => by (go_wp2_with fail; refine (nan_ret E M hf) _ _ ?_; intro v__ w__ hv__ hb__; have hh__ := Go.Proofs.YgcoaaGreat.NatW.hide (hK__ v__ w__ hv__ hb__); clear hK__ hv__; go_wp2_with fail; exact Eq.mp (by kernel_rfl) (Go.Proofs.YgcoaaGreat.NatW.unhide hh__)))
      rintro v rfl
      ((try dsimp only); go_big_quiet_want; go_big_quiet_op; go_big_quiet_on; refine wpQuiet_nil ?_)
      iterate 3 (refine Go.Lax.walk_det rfl rfl rfl ?_; go_big_quiet_want; go_big_quiet_op; go_big_quiet_on; refine wpQuiet_nil ?_)
      refine Go.Lax.call_at rfl ?_ (fun y__ K__ hK__ => by (go_wp2_with fail; refine (heard_ret E M hf a a ha ha) _ _ ?_; intro v__ w__ hv__ hb__; have hh__ := Go.Proofs.YgcoaaGreat.NatW.hide (hK__ v__ w__ hv__ hb__); clear hK__ hv__; go_wp2_with fail; exact Eq.mp (by kernel_rfl) (Go.Proofs.YgcoaaGreat.NatW.unhide hh__)))
      rintro v ⟨fl, rfl⟩
      ((try dsimp only); go_big_quiet_want; go_big_quiet_op; go_big_quiet_on; refine wpQuiet_nil ?_)
      iterate 2 (refine Go.Lax.walk_det rfl rfl rfl ?_; go_big_quiet_want; go_big_quiet_op; go_big_quiet_on; refine wpQuiet_nil ?_)
      refine Go.Lax.end_at ?_
      intro y))
  all_goals first
    | exact unhide HK _ _ ⟨_, _, rfl, by assumption⟩ (hB _)
    | exact unhide HK _ _ ⟨_, _, rfl, snd_nan E M (by omega)⟩ (hB _)
    | exact unhide HK _ _ ⟨_, _, rfl, snd_zero E M _ (by omega)⟩ (hB _)
    | exact unhide HK _ _ ⟨_, _, rfl, snd_inf E M _ (by omega)⟩ (hB _)
    | skip

set_option maxRecDepth 20000 in
set_option maxHeartbeats 2000000 in
theorem roundIntFlags_ret (E M : Nat) (hf : fok E M = true) (m a : Int) (ha : U64 a) : Ret 311 #[fmt E M, .int .u8 m, .int .u64 a] (fun v => ∃ r f, v = .tuple #[.int .u64 r, .int .u8 f] ∧ Snd E M r) := by
  obtain ⟨g1, g2, g3, g4⟩ := fok_bd hf
  intro w K hK
  have HK := hide hK
  clear hK
  obtain ⟨wb, x0, hwb, r0, hB, hZ⟩ := boxes1 w #[.int .u8 E, .int .u8 M] 23
  have c00 : ∀ x : Later wb, _ = some (.int .u8 E : Value) := Later.cell r0 0 _ rfl
  have c01 : ∀ x : Later wb, _ = some (.int .u8 M : Value) := Later.cell r0 1 _ rfl
  have R0 := hide r0
  clear r0
  have hne : Nonempty (Later wb) := ⟨x0⟩
  go_enter Oaag.func311, Oaag.ntmps311
  go_wp2_with (first
    | (
      (first | with_reducible refine Go.Proofs.YgcoaaGreat.NatW.at_alw ?_ | with_reducible refine Go.Proofs.YgcoaaGreat.NatW.at_alc ?_)
      ((first | with_reducible refine Go.Proofs.YgcoaaGreat.NatW.gen_calls ?_ | with_reducible refine Go.Proofs.YgcoaaGreat.NatW.gen_wp ?_ | with_reducible refine Go.Proofs.YgcoaaGreat.NatW.gen_list ?_ | with_reducible refine Go.Proofs.YgcoaaGreat.NatW.gen_body ?_); intro W hW)
      have hyW : Below wb.heap.size wb W := by rw [← hW]; exact y.ok.alloc y.ok.size _
      have qr := congrArg (fun z : World => z.heap[y.at_.heap.size]?) hW
      rw [heap_alloc_new, hnb] at qr
      clear hW hne
      obtain ⟨wb2, x9, hx, hup, hrow, hZ2⟩ := rebase3 wb W hyW
      replace c00 := fun x : Later wb2 => (show _ from (Exists.choose_spec (hup x)) ▸ c00 (Exists.choose (hup x)))
      replace c01 := fun x : Later wb2 => (show _ from (Exists.choose_spec (hup x)) ▸ c01 (Exists.choose (hup x)))
      replace hB := fun x : Later wb2 => (show _ from (Exists.choose_spec (hup x)) ▸ hB (Exists.choose (hup x)))
      have hne : Nonempty (Later wb2) := ⟨x9⟩
      have r9 := hrow _ _ qr.symm
      have c90 := Later.cell r9 0 _ rfl
      have c91 := Later.cell r9 1 _ rfl
      have c92 := Later.cell r9 2 _ rfl
      have c93 := Later.cell r9 3 _ rfl
      skip
      skip
      skip
      skip
      clear hup hrow hyW qr r9
      rw [hx]
      clear hx)
    | (with_reducible refine Go.Proofs.YgcoaaGreat.NatW.at_later 67 ?_; refine Go.Proofs.YgcoaaGreat.NatW.Ret.run (fmtOk_ret E M hf) _ ?_; rintro _ y__ rfl)
    | (with_reducible refine Go.Proofs.YgcoaaGreat.NatW.at_later 45 ?_; refine Go.Proofs.YgcoaaGreat.NatW.Ret.run (nan_ret E M hf) _ ?_; rintro _ y__ rfl)
    | (with_reducible refine Go.Proofs.YgcoaaGreat.NatW.at_later 85 ?_; refine Go.Proofs.YgcoaaGreat.NatW.Ret.run (inf_ret E M hf _) _ ?_; rintro _ y__ rfl)
    | (with_reducible refine Go.Proofs.YgcoaaGreat.NatW.at_later 373 ?_; refine Go.Proofs.YgcoaaGreat.NatW.Ret.run (zero_ret E M hf _) _ ?_; rintro _ y__ rfl)
    | (with_reducible refine Go.Proofs.YgcoaaGreat.NatW.at_later 340 ?_; refine Go.Proofs.YgcoaaGreat.NatW.Ret.run (roundPack_ret E M hf _ _ _ _ (by omega) (by omega) (by (first | assumption | exact U64.wrap _ | exact U64.bits _ _ _ | exact U64.div (by first | assumption | exact U64.wrap _ | exact U64.bits _ _ _ | exact U64.div (by first | assumption | exact U64.wrap _ | exact U64.bits _ _ _ | exact U64.lit (by omega) (by omega)) _ | exact U64.ediv (by first | assumption | exact U64.wrap _ | exact U64.bits _ _ _ | exact U64.lit (by omega) (by omega)) _ (by omega) | exact U64.lit (by omega) (by omega) | exact U64.one _ (by first | assumption | exact U64.wrap _ | exact U64.bits _ _ _ | exact U64.lit (by omega) (by omega)) (by first | assumption | exact U64.wrap _ | exact U64.bits _ _ _ | exact U64.lit (by omega) (by omega))) _ | exact U64.ediv (by first | assumption | exact U64.wrap _ | exact U64.bits _ _ _ | exact U64.div (by first | assumption | exact U64.wrap _ | exact U64.bits _ _ _ | exact U64.lit (by omega) (by omega)) _ | exact U64.ediv (by first | assumption | exact U64.wrap _ | exact U64.bits _ _ _ | exact U64.lit (by omega) (by omega)) _ (by omega) | exact U64.lit (by omega) (by omega) | exact U64.one _ (by first | assumption | exact U64.wrap _ | exact U64.bits _ _ _ | exact U64.lit (by omega) (by omega)) (by first | assumption | exact U64.wrap _ | exact U64.bits _ _ _ | exact U64.lit (by omega) (by omega))) _ (by omega) | exact U64.lit (by omega) (by omega) | exact U64.one _ (by first | assumption | exact U64.wrap _ | exact U64.bits _ _ _ | exact U64.div (by first | assumption | exact U64.wrap _ | exact U64.bits _ _ _ | exact U64.lit (by omega) (by omega)) _ | exact U64.ediv (by first | assumption | exact U64.wrap _ | exact U64.bits _ _ _ | exact U64.lit (by omega) (by omega)) _ (by omega) | exact U64.lit (by omega) (by omega) | exact U64.one _ (by first | assumption | exact U64.wrap _ | exact U64.bits _ _ _ | exact U64.lit (by omega) (by omega)) (by first | assumption | exact U64.wrap _ | exact U64.bits _ _ _ | exact U64.lit (by omega) (by omega))) (by first | assumption | exact U64.wrap _ | exact U64.bits _ _ _ | exact U64.div (by first | assumption | exact U64.wrap _ | exact U64.bits _ _ _ | exact U64.lit (by omega) (by omega)) _ | exact U64.ediv (by first | assumption | exact U64.wrap _ | exact U64.bits _ _ _ | exact U64.lit (by omega) (by omega)) _ (by omega) | exact U64.lit (by omega) (by omega) | exact U64.one _ (by first | assumption | exact U64.wrap _ | exact U64.bits _ _ _ | exact U64.lit (by omega) (by omega)) (by first | assumption | exact U64.wrap _ | exact U64.bits _ _ _ | exact U64.lit (by omega) (by omega)))))) _ ?_; rintro _ y__ ⟨rr, ff, rfl, hrr⟩)
    | (with_reducible refine Go.Proofs.YgcoaaGreat.NatW.at_later 68 ?_
       refine Ret.run (unpack_i E M hf a ha) _ ?_
       rintro _ y ⟨xn, xc, xe, xm, rfl, xp, xq⟩
       obtain ⟨xe0, xe1, uxm, xc0, xc1⟩ := Pb.bd g4 xp
       have XP := hide xp
       have XQ := hide xq
       clear xp xq
       obtain ⟨nb, hnb⟩ : ∃ nb, y.at_.heap.size = nb := ⟨_, rfl⟩
       have bw : w.heap.size + 1 ≤ nb := by rw [← hnb]; exact hZ y
       have nn0 : nb ≠ w.heap.size := by omega
       have nn1 : w.heap.size ≠ nb := by omega
       have ca0 : ∀ o, (y.at_.alloc o).cell? ⟨w.heap.size, 0, none⟩ = some (.int .u8 E) := fun o => c00 ⟨y.at_.alloc o, y.ok.alloc y.ok.size o⟩
       have ca1 : ∀ o, (y.at_.alloc o).cell? ⟨w.heap.size, 1, none⟩ = some (.int .u8 M) := fun o => c01 ⟨y.at_.alloc o, y.ok.alloc y.ok.size o⟩)
    | (
      with_reducible refine Go.Proofs.YgcoaaGreat.NatW.at_reg 5 ?_
      (repeat (first | (rewrite [Go.Proofs.YgcoaaGreat.NatW.frz_ite]; generalize Go.Proofs.YgcoaaGreat.NatW.frzI _ = x__) | (rewrite [Go.Proofs.YgcoaaGreat.NatW.frz_dec]; generalize Go.Proofs.YgcoaaGreat.NatW.frzB _ = x__) | (rewrite [Go.Proofs.YgcoaaGreat.NatW.frz_beq]; generalize Go.Proofs.YgcoaaGreat.NatW.frzB _ = x__) | (rewrite [Go.Proofs.YgcoaaGreat.NatW.frz_not]; generalize Go.Proofs.YgcoaaGreat.NatW.frzB _ = x__) | (rewrite [Go.Proofs.YgcoaaGreat.NatW.frz_and]; generalize Go.Proofs.YgcoaaGreat.NatW.frzB _ = x__) | (rewrite [Go.Proofs.YgcoaaGreat.NatW.frz_or]; generalize Go.Proofs.YgcoaaGreat.NatW.frzB _ = x__)))
      refine Go.Lax.region_calls _ 8 2 [(1, fun v => v = .int .u64 ((nanP E M : Nat) : Int)), (5, fun v => ∃ f, v = .int .u8 f)] (by kernel_rfl) (by kernel_rfl) (by kernel_rfl) (List.forall_mem_cons.2 ⟨⟨_, rfl⟩, List.forall_mem_cons.2 ⟨⟨_, 0, rfl⟩, fun _ h => by cases h⟩⟩) ?_
      iterate 1 (refine Go.Lax.walk_det rfl rfl rfl ?_; go_big_quiet_want; go_big_quiet_op; go_big_quiet_on; refine wpQuiet_nil ?_)
      refine Go.Lax.call_at rfl ?_ (fun y__ K__ hK__ => by (go_wp2_with fail; refine (nan_ret E M hf) _ _ ?_; intro v__ w__ hv__ hb__; have hh__ := Go.Proofs.YgcoaaGreat.NatW.hide (hK__ v__ w__ hv__ hb__); clear hK__ hv__; go_wp2_with fail; exact Eq.mp (by kernel_rfl) (Go.Proofs.YgcoaaGreat.NatW.unhide hh__)))
      rintro v rfl
      ((try dsimp only); go_big_quiet_want; go_big_quiet_op; go_big_quiet_on; refine wpQuiet_nil ?_)
      iterate 3 (refine Go.Lax.walk_det rfl rfl rfl ?_; go_big_quiet_want; go_big_quiet_op; go_big_quiet_on; refine wpQuiet_nil ?_)
      refine Go.Lax.call_at rfl ?_ (fun y__ K__ hK__ => by (go_wp2_with fail; refine (heard_ret E M hf a a ha ha) _ _ ?_; intro v__ w__ hv__ hb__; have hh__ := Go.Proofs.YgcoaaGreat.NatW.hide (hK__ v__ w__ hv__ hb__); clear hK__ hv__; go_wp2_with fail; exact Eq.mp (by kernel_rfl) (Go.Proofs.YgcoaaGreat.NatW.unhide hh__)))
      rintro v ⟨fl, rfl⟩
      ((try dsimp only); go_big_quiet_want; go_big_quiet_op; go_big_quiet_on; refine wpQuiet_nil ?_)
      iterate 2 (refine Go.Lax.walk_det rfl rfl rfl ?_; go_big_quiet_want; go_big_quiet_op; go_big_quiet_on; refine wpQuiet_nil ?_)
      refine Go.Lax.end_at ?_
      intro y)
    | (with_reducible refine Go.Proofs.YgcoaaGreat.NatW.at_later 399 ?_; refine Go.Proofs.YgcoaaGreat.NatW.Ret.run (cut_ret _ _ (by (first | assumption | exact U64.wrap _ | exact U64.bits _ _ _ | exact U64.div (by first | assumption | exact U64.wrap _ | exact U64.bits _ _ _ | exact U64.div (by first | assumption | exact U64.wrap _ | exact U64.bits _ _ _ | exact U64.lit (by omega) (by omega)) _ | exact U64.ediv (by first | assumption | exact U64.wrap _ | exact U64.bits _ _ _ | exact U64.lit (by omega) (by omega)) _ (by omega) | exact U64.lit (by omega) (by omega) | exact U64.one _ (by first | assumption | exact U64.wrap _ | exact U64.bits _ _ _ | exact U64.lit (by omega) (by omega)) (by first | assumption | exact U64.wrap _ | exact U64.bits _ _ _ | exact U64.lit (by omega) (by omega))) _ | exact U64.ediv (by first | assumption | exact U64.wrap _ | exact U64.bits _ _ _ | exact U64.div (by first | assumption | exact U64.wrap _ | exact U64.bits _ _ _ | exact U64.lit (by omega) (by omega)) _ | exact U64.ediv (by first | assumption | exact U64.wrap _ | exact U64.bits _ _ _ | exact U64.lit (by omega) (by omega)) _ (by omega) | exact U64.lit (by omega) (by omega) | exact U64.one _ (by first | assumption | exact U64.wrap _ | exact U64.bits _ _ _ | exact U64.lit (by omega) (by omega)) (by first | assumption | exact U64.wrap _ | exact U64.bits _ _ _ | exact U64.lit (by omega) (by omega))) _ (by omega) | exact U64.lit (by omega) (by omega) | exact U64.one _ (by first | assumption | exact U64.wrap _ | exact U64.bits _ _ _ | exact U64.div (by first | assumption | exact U64.wrap _ | exact U64.bits _ _ _ | exact U64.lit (by omega) (by omega)) _ | exact U64.ediv (by first | assumption | exact U64.wrap _ | exact U64.bits _ _ _ | exact U64.lit (by omega) (by omega)) _ (by omega) | exact U64.lit (by omega) (by omega) | exact U64.one _ (by first | assumption | exact U64.wrap _ | exact U64.bits _ _ _ | exact U64.lit (by omega) (by omega)) (by first | assumption | exact U64.wrap _ | exact U64.bits _ _ _ | exact U64.lit (by omega) (by omega))) (by first | assumption | exact U64.wrap _ | exact U64.bits _ _ _ | exact U64.div (by first | assumption | exact U64.wrap _ | exact U64.bits _ _ _ | exact U64.lit (by omega) (by omega)) _ | exact U64.ediv (by first | assumption | exact U64.wrap _ | exact U64.bits _ _ _ | exact U64.lit (by omega) (by omega)) _ (by omega) | exact U64.lit (by omega) (by omega) | exact U64.one _ (by first | assumption | exact U64.wrap _ | exact U64.bits _ _ _ | exact U64.lit (by omega) (by omega)) (by first | assumption | exact U64.wrap _ | exact U64.bits _ _ _ | exact U64.lit (by omega) (by omega))))) (by omega) (by omega)) _ ?_; rintro _ y__ ⟨n7, r7, rfl, un7, ur7⟩)
    | (with_reducible refine Go.Proofs.YgcoaaGreat.NatW.at_later 400 ?_; refine Go.Proofs.YgcoaaGreat.NatW.Ret.run (raises_ret _ _ _ _) _ ?_; rintro _ y__ ⟨b7, rfl⟩))
  all_goals first
    | exact unhide HK _ _ ⟨_, _, rfl, by assumption⟩ (hB _)
    | exact unhide HK _ _ ⟨_, _, rfl, snd_nan E M (by omega)⟩ (hB _)
    | exact unhide HK _ _ ⟨_, _, rfl, snd_zero E M _ (by omega)⟩ (hB _)
    | exact unhide HK _ _ ⟨_, _, rfl, snd_inf E M _ (by omega)⟩ (hB _)
    | skip


end Go.Proofs.YgcoaaGreat.NatW
