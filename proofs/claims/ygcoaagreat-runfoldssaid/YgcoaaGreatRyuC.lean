/-
  Package ryu: Shortest at a table of zeros.
-/
import Derived.Test.YgcoaaGreatTabF
import Derived.Test.YgcoaaGreatSoD
set_option linter.unusedVariables false
set_option linter.unusedSimpArgs false
namespace Go.Proofs.YgcoaaGreat.NatW
attribute [local go_sem] Go.Instr.field Go.asAgg
open Go.RowKit
open Go.Proofs.YgcoaaGreat.Limbs Go.Proofs.YgcoaaGreat.Bits

/-- A store of what is there already. -/
theorem setCell_id {w : World} {b i : Nat} {v : Value} (h : w.cell? ⟨b, i, none⟩ = some v) : w.setCell ⟨b, i, none⟩ v = w := by
  have hb : (w.setCell ⟨b, i, none⟩ v).heap = w.heap := by
    apply Array.ext_getElem?
    intro k
    rw [heap_set]
    split
    · rename_i hk
      subst hk
      cases hr : w.heap[b]? with
      | none => rfl
      | some o =>
        simp only [Option.map_some]
        congr 1
        cases o with
        | cells vs t f =>
          rw [cell_of_row _ _ _ _ _ _ hr] at h
          have h' : vs[i]? = some v := by simpa using h
          obtain ⟨hlt, hv⟩ := Array.getElem?_eq_some_iff.1 h'
          simp only [setc]
          congr 1
          apply Array.ext_getElem?
          intro j
          rw [Array.getElem?_setIfInBounds]
          split
          · rename_i e; subst e; simp [hlt, hv]
          · rfl
        | _ => rfl
    · rfl
  have : w.setCell ⟨b, i, none⟩ v = { w with heap := (w.setCell ⟨b, i, none⟩ v).heap } := rfl
  rw [this, hb]

set_option maxRecDepth 20000 in
set_option maxHeartbeats 4000000 in
theorem spanDigits_cells (w : World) (b : Nat) (ends : Bool) (k0 : w.cell? ⟨b, 0, none⟩ = some (.int .u64 0)) (k1 : w.cell? ⟨b, 1, none⟩ = some (.int .u64 0)) (k2 : w.cell? ⟨b, 2, none⟩ = some (.int .u64 0)) (k3 : w.cell? ⟨b, 3, none⟩ = some (.bool false)) (k4 : w.cell? ⟨b, 4, none⟩ = some (.bool false)) (k5 : w.cell? ⟨b, 5, none⟩ = some (.bool ends)) (k6 : w.cell? ⟨b, 6, none⟩ = some (.int .u64 0)) :
    Calls Oaag.prog 307 #[.pointer (some ⟨b, 0, none⟩)] w fun e w' => e = .returned (.tuple #[.int .u64 1, .int .i16 0]) ∧ Below w.heap.size w w' := by
  go_enter Oaag.func307, Oaag.ntmps307
  go_wp2_with fail
  go_loop [3] (fun d => d = .int .i16 0) (fun d => 0)
  case atStart => rfl
  case round =>
    subst hrel
    cases ends
    all_goals go_wp2_with (go_quiet (fail))
    all_goals
      go_ret2
      exact ⟨rfl, rfl, rfl, rfl, Nat.le_refl _, fun _ _ => rfl⟩

theorem wr64 (x : Int) : U64 (IntKind.u64.wrap x) := by
  constructor <;> simp [IntKind.wrap, IntKind.bits, IntKind.signed] <;> omega
theorem u64_zero : U64 0 := ⟨by decide, by decide⟩
theorem u64_two : U64 2 := ⟨by decide, by decide⟩
theorem wr16 (x : Int) : -32768 ≤ IntKind.i16.wrap x ∧ IntKind.i16.wrap x ≤ 32767 := by
  simp [IntKind.wrap, IntKind.bits, IntKind.signed]
  omega

set_option maxRecDepth 20000 in
set_option maxHeartbeats 4000000 in
theorem shortest_zero (tb E M : Nat) (hf : fok E M = true) (X : Nat) (hX : X < 18446744073709551616) : RetT tb 171 #[.pointer (some ⟨tb, 0, none⟩), fmt E M, .int .u64 (X : Nat)] (fun v => ∃ n d e, v = .agg #[.bool n, .string d, .int .i16 e] ∧ Canon d e) := by
  obtain ⟨g1, g2, g3, g4⟩ := fok_bd hf
  intro w K hT hK
  have HK := hide hK
  clear hK
  obtain ⟨wb, x0, hwb, r0, r1, hB, hZ⟩ := boxes2 w #[.int .u8 E, .int .u8 M] #[.bool false, .string ⟨#[]⟩, .int .i16 0] 23 74
  have c00 : ∀ x : Later wb, _ = some (.int .u8 E : Value) := Later.cell r0 0 _ rfl
  have c01 : ∀ x : Later wb, _ = some (.int .u8 M : Value) := Later.cell r0 1 _ rfl
  have c10 : ∀ x : Later wb, _ = some (.bool false : Value) := Later.cell r1 0 _ rfl
  have f10 := Later.frz r1 0
  have c11 : ∀ x : Later wb, _ = some (.string ⟨#[]⟩ : Value) := Later.cell r1 1 _ rfl
  have f11 := Later.frz r1 1
  have c12 : ∀ x : Later wb, _ = some (.int .i16 0 : Value) := Later.cell r1 2 _ rfl
  have f12 := Later.frz r1 2
  have R0 := hide r0
  have R1 := hide r1
  clear r0 r1
  have hne : Nonempty (Later wb) := ⟨x0⟩
  go_enter Oaag.func171, Oaag.ntmps171
  have hT' : ∀ x : Later wb, TabZ tb x.at_ := fun x => hT.kept (hB x) hT.lt
  clear hT
  have hT := hT'
  clear hT'
  have q1 := mask_int E (by omega)
  have q2 := fE_int E M X (by omega) hX
  have q3 := fM_int M X (by omega) hX
  go_wp2_with (first
    | (with_reducible refine Go.Proofs.YgcoaaGreat.NatW.at_later 67 ?_; refine Go.Proofs.YgcoaaGreat.NatW.Ret.run (fmtOk_ret E M hf) _ ?_; rintro _ y__ rfl)
    | (with_reducible refine Go.Proofs.YgcoaaGreat.NatW.at_later 104 ?_; refine Go.Proofs.YgcoaaGreat.NatW.Ret.run (signBit_ret E M hf) _ ?_; rintro _ y__ rfl)
    | (
      with_reducible refine Go.Proofs.YgcoaaGreat.NatW.at_reg 10 ?_
      (repeat (first | (rewrite [Go.Proofs.YgcoaaGreat.NatW.frz_ite]; generalize Go.Proofs.YgcoaaGreat.NatW.frzI _ = x__) | (rewrite [Go.Proofs.YgcoaaGreat.NatW.frz_dec]; generalize Go.Proofs.YgcoaaGreat.NatW.frzB _ = x__) | (rewrite [Go.Proofs.YgcoaaGreat.NatW.frz_beq]; generalize Go.Proofs.YgcoaaGreat.NatW.frzB _ = x__) | (rewrite [Go.Proofs.YgcoaaGreat.NatW.frz_not]; generalize Go.Proofs.YgcoaaGreat.NatW.frzB _ = x__) | (rewrite [Go.Proofs.YgcoaaGreat.NatW.frz_and]; generalize Go.Proofs.YgcoaaGreat.NatW.frzB _ = x__) | (rewrite [Go.Proofs.YgcoaaGreat.NatW.frz_or]; generalize Go.Proofs.YgcoaaGreat.NatW.frzB _ = x__) | (rewrite [show ∀ (a b : Int), Value.bool (a != b) = Value.bool (Go.Proofs.YgcoaaGreat.NatW.frzB (a != b)) from fun _ _ => rfl]; generalize Go.Proofs.YgcoaaGreat.NatW.frzB _ = x__)))
      refine Go.Lax.region_calls _ 12 2 [(2, fun v => ∃ k, v = .int .i16 k), (4, fun u => u = .int .i16 (((2 ^ (E - 1) : Nat) : Int) - 1))] (by kernel_rfl) (by kernel_rfl) (by kernel_rfl) (List.forall_mem_cons.2 ⟨⟨_, 0, rfl⟩, List.forall_mem_cons.2 ⟨⟨_, rfl⟩, fun _ h => by cases h⟩⟩) ?_
      iterate 2 (refine Go.Lax.walk_det rfl rfl rfl ?_; go_big_quiet_want; go_big_quiet_op; go_big_quiet_on; refine wpQuiet_nil ?_)
      refine Go.Lax.call_at rfl ?_ (fun y K hK => by
        have HK := hide hK
        clear hK
        go_wp2_with fail
        all_goals exact unhide HK _ _ ⟨_, rfl⟩ (Below.refl _ _))
      rintro v ⟨mx, rfl⟩
      ((try dsimp only); go_big_quiet_want; go_big_quiet_op; go_big_quiet_on; refine wpQuiet_nil ?_)
      (refine Go.Lax.walk_det rfl rfl rfl ?_; go_big_quiet_want; go_big_quiet_op; go_big_quiet_on; refine wpQuiet_nil ?_)
      refine Go.Lax.call_at rfl ?_ (fun y__ K__ hK__ => by (go_wp2_with fail; refine (bias_ret E M hf) _ _ ?_; intro v__ w__ hv__ hb__; have hh__ := Go.Proofs.YgcoaaGreat.NatW.hide (hK__ v__ w__ hv__ hb__); clear hK__ hv__; go_wp2_with fail; exact Eq.mp (by kernel_rfl) (Go.Proofs.YgcoaaGreat.NatW.unhide hh__)))
      rintro v rfl
      ((try dsimp only); go_big_quiet_want; go_big_quiet_op; go_big_quiet_on; refine wpQuiet_nil ?_)
      iterate 7 (refine Go.Lax.walk_det rfl rfl rfl ?_; go_big_quiet_want; go_big_quiet_op; go_big_quiet_on; refine wpQuiet_nil ?_)
      refine Go.Lax.end_at ?_
      intro y
      obtain ⟨nb, hnb⟩ : ∃ nb, y.at_.heap.size = nb := ⟨_, rfl⟩
      have bw : w.heap.size + 2 ≤ nb := by have := hZ y; omega
      have nn0 : nb ≠ w.heap.size + 1 := by omega
      have nn1 : w.heap.size + 1 ≠ nb := by omega)
    | (
      (first | with_reducible refine Go.Proofs.YgcoaaGreat.NatW.at_alw ?_ | with_reducible refine Go.Proofs.YgcoaaGreat.NatW.at_alc ?_)
      ((first | with_reducible refine Go.Proofs.YgcoaaGreat.NatW.gen_calls ?_ | with_reducible refine Go.Proofs.YgcoaaGreat.NatW.gen_wp ?_ | with_reducible refine Go.Proofs.YgcoaaGreat.NatW.gen_list ?_ | with_reducible refine Go.Proofs.YgcoaaGreat.NatW.gen_body ?_); intro W hW)
      have hyW : Below wb.heap.size wb W := by rw [← hW]; exact y.ok.alloc y.ok.size _
      have qr := congrArg (fun z : World => z.heap[y.at_.heap.size]?) hW
      rw [heap_alloc_new, hnb] at qr
      clear hW hne
      obtain ⟨wb2, x9, hx, hup, hrow, hZ2⟩ := rebase3 wb W hyW
      replace c10 := fun x : Later wb2 => (show _ from (Exists.choose_spec (hup x)) ▸ c10 (Exists.choose (hup x)))
      replace c11 := fun x : Later wb2 => (show _ from (Exists.choose_spec (hup x)) ▸ c11 (Exists.choose (hup x)))
      replace c12 := fun x : Later wb2 => (show _ from (Exists.choose_spec (hup x)) ▸ c12 (Exists.choose (hup x)))
      replace f10 := fun x : Later wb2 => (show _ from (Exists.choose_spec (hup x)) ▸ f10 (Exists.choose (hup x)))
      replace f11 := fun x : Later wb2 => (show _ from (Exists.choose_spec (hup x)) ▸ f11 (Exists.choose (hup x)))
      replace f12 := fun x : Later wb2 => (show _ from (Exists.choose_spec (hup x)) ▸ f12 (Exists.choose (hup x)))
      replace hB := fun x : Later wb2 => (show _ from (Exists.choose_spec (hup x)) ▸ hB (Exists.choose (hup x)))
      replace hT := fun x : Later wb2 => (show _ from (Exists.choose_spec (hup x)) ▸ hT (Exists.choose (hup x)))
      have hne : Nonempty (Later wb2) := ⟨x9⟩
      have hz9 : ∀ x : Later wb2, nb + 1 ≤ x.at_.heap.size := fun x => Nat.le_trans (Array.getElem?_eq_some_iff.1 qr.symm).1 (hZ2 x)
      have r9 := hrow _ _ qr.symm
      have c90 := Later.cell r9 0 _ rfl
      have f90 := Later.frz r9 0
      have c91 := Later.cell r9 1 _ rfl
      have f91 := Later.frz r9 1
      have c92 := Later.cell r9 2 _ rfl
      have f92 := Later.frz r9 2
      have c93 := Later.cell r9 3 _ rfl
      have f93 := Later.frz r9 3
      have c94 := Later.cell r9 4 _ rfl
      have f94 := Later.frz r9 4
      have c95 := Later.cell r9 5 _ rfl
      have f95 := Later.frz r9 5
      have c96 := Later.cell r9 6 _ rfl
      have f96 := Later.frz r9 6
      clear hup hrow hyW qr r9 hZ2
      rw [hx]
      clear hx
      have s90 : ∀ x : Later wb2, x.at_.setCell ⟨nb, 0, none⟩ (.int .u64 0) = x.at_ := fun x => setCell_id (c90 x)
      have s91 : ∀ x : Later wb2, x.at_.setCell ⟨nb, 1, none⟩ (.int .u64 0) = x.at_ := fun x => setCell_id (c91 x)
      have s92 : ∀ x : Later wb2, x.at_.setCell ⟨nb, 2, none⟩ (.int .u64 0) = x.at_ := fun x => setCell_id (c92 x)
      have s93 : ∀ x : Later wb2, x.at_.setCell ⟨nb, 3, none⟩ (.bool false) = x.at_ := fun x => setCell_id (c93 x)
      have s94 : ∀ x : Later wb2, x.at_.setCell ⟨nb, 4, none⟩ (.bool false) = x.at_ := fun x => setCell_id (c94 x))
    | ((first | with_reducible refine Go.Proofs.YgcoaaGreat.NatW.at_setw ?_ | with_reducible refine Go.Proofs.YgcoaaGreat.NatW.at_setc ?_); simp only [s90, s91, s92, s93, s94])
    | (
      (first | with_reducible refine Go.Proofs.YgcoaaGreat.NatW.at_setw ?_ | with_reducible refine Go.Proofs.YgcoaaGreat.NatW.at_setc ?_)
      ((first | with_reducible refine Go.Proofs.YgcoaaGreat.NatW.gen_calls ?_ | with_reducible refine Go.Proofs.YgcoaaGreat.NatW.gen_wp ?_ | with_reducible refine Go.Proofs.YgcoaaGreat.NatW.gen_list ?_ | with_reducible refine Go.Proofs.YgcoaaGreat.NatW.gen_body ?_); intro W hW)
      have hBW : Below w.heap.size w W := by rw [← hW]; (repeat ((with_reducible refine Go.Proofs.YgcoaaGreat.NatW.at_setb ?_); refine below_store ?_ (by omega) _)); exact hB _
      have hzW : nb + 1 ≤ W.heap.size := by rw [← hW]; (try simp only [World.size_setCell]); exact hz9 _
      have qc10 := congrArg (fun z : World => z.cell? ⟨(w.heap.size + 1), 0, none⟩) hW
      simp [go_sem, c10, c11, c12, c90, c91, c92, c93, c94, c95, c96, nn0, nn1] at qc10
      have qf10 : W.frozen? ⟨(w.heap.size + 1), 0, none⟩ = false := by rw [← hW]; (try simp only [World.frozen?_setCell]); exact f10 _
      have qc11 := congrArg (fun z : World => z.cell? ⟨(w.heap.size + 1), 1, none⟩) hW
      simp [go_sem, c10, c11, c12, c90, c91, c92, c93, c94, c95, c96, nn0, nn1] at qc11
      have qf11 : W.frozen? ⟨(w.heap.size + 1), 1, none⟩ = false := by rw [← hW]; (try simp only [World.frozen?_setCell]); exact f11 _
      have qc12 := congrArg (fun z : World => z.cell? ⟨(w.heap.size + 1), 2, none⟩) hW
      simp [go_sem, c10, c11, c12, c90, c91, c92, c93, c94, c95, c96, nn0, nn1] at qc12
      have qf12 : W.frozen? ⟨(w.heap.size + 1), 2, none⟩ = false := by rw [← hW]; (try simp only [World.frozen?_setCell]); exact f12 _
      have qc90 := congrArg (fun z : World => z.cell? ⟨nb, 0, none⟩) hW
      simp [go_sem, c10, c11, c12, c90, c91, c92, c93, c94, c95, c96, nn0, nn1] at qc90
      have qc91 := congrArg (fun z : World => z.cell? ⟨nb, 1, none⟩) hW
      simp [go_sem, c10, c11, c12, c90, c91, c92, c93, c94, c95, c96, nn0, nn1] at qc91
      have qc92 := congrArg (fun z : World => z.cell? ⟨nb, 2, none⟩) hW
      simp [go_sem, c10, c11, c12, c90, c91, c92, c93, c94, c95, c96, nn0, nn1] at qc92
      have qc93 := congrArg (fun z : World => z.cell? ⟨nb, 3, none⟩) hW
      simp [go_sem, c10, c11, c12, c90, c91, c92, c93, c94, c95, c96, nn0, nn1] at qc93
      have qc94 := congrArg (fun z : World => z.cell? ⟨nb, 4, none⟩) hW
      simp [go_sem, c10, c11, c12, c90, c91, c92, c93, c94, c95, c96, nn0, nn1] at qc94
      have qc95 := congrArg (fun z : World => z.cell? ⟨nb, 5, none⟩) hW
      simp [go_sem, c10, c11, c12, c90, c91, c92, c93, c94, c95, c96, nn0, nn1] at qc95
      have qc96 := congrArg (fun z : World => z.cell? ⟨nb, 6, none⟩) hW
      simp [go_sem, c10, c11, c12, c90, c91, c92, c93, c94, c95, c96, nn0, nn1] at qc96
      clear hW hB hne hz9 hT s90 s91 s92 s93 s94 f10 f11 f12 f90 f91 f92 f93 f94 f95 f96 c10 c11 c12 c90 c91 c92 c93 c94 c95 c96
      obtain ⟨wb4, x8, hx, hcl, hfz, hB, hz9⟩ := rebase2 w W _ hBW hzW
      have hne : Nonempty (Later wb4) := ⟨x8⟩
      have c10 := hcl _ _ _ qc10.symm (by omega)
      have f10 := hfz _ _ qf10 (by omega)
      have c11 := hcl _ _ _ qc11.symm (by omega)
      have f11 := hfz _ _ qf11 (by omega)
      have c12 := hcl _ _ _ qc12.symm (by omega)
      have f12 := hfz _ _ qf12 (by omega)
      have c90 := hcl _ _ _ qc90.symm (by omega)
      have c91 := hcl _ _ _ qc91.symm (by omega)
      have c92 := hcl _ _ _ qc92.symm (by omega)
      have c93 := hcl _ _ _ qc93.symm (by omega)
      have c94 := hcl _ _ _ qc94.symm (by omega)
      have c95 := hcl _ _ _ qc95.symm (by omega)
      have c96 := hcl _ _ _ qc96.symm (by omega)
      clear hcl hfz hBW hzW qc10 qc11 qc12 qc90 qc91 qc92 qc93 qc94 qc95 qc96 qf10 qf11 qf12
      rw [hx]
      clear hx)
    | (with_reducible refine Go.Proofs.YgcoaaGreat.NatW.at_later 192 ?_
       refine RetT.run (scale_zero tb _ _ ?_ ?_ ?_) hT _ ?_
       · first | with_reducible exact wr64 _ | with_reducible exact u64_zero | with_reducible exact u64_two | exact ⟨by decide, by decide⟩
       · with_reducible exact (wr16 _).1
       · with_reducible exact (wr16 _).2
       rintro _ y rfl)
    | (with_reducible refine Go.Proofs.YgcoaaGreat.NatW.at_later 307 ?_
       refine Calls.mono (spanDigits_cells _ nb _ (c90 _) (c91 _) (c92 _) (c93 _) (c94 _) (c95 _) (c96 _)) ?_
       rintro _ w9 ⟨rfl, hb9⟩
       obtain ⟨y9, rfl⟩ : ∃ y9 : Later wb4, w9 = y9.at_ := ⟨⟨w9, (Later.ok _).trans (hb9.mono (Later.ok _).size)⟩, rfl⟩
       clear hb9)
    | (with_reducible refine Go.Proofs.YgcoaaGreat.NatW.at_later 36 ?_; refine Go.Proofs.YgcoaaGreat.NatW.Ret.run (itoa_ret _ (by omega) (by omega)) _ ?_; rintro _ y__ ⟨sI, rfl, hsI⟩)
    | (with_reducible refine Go.Proofs.YgcoaaGreat.NatW.at_later 308 ?_; refine Go.Proofs.YgcoaaGreat.NatW.Ret.run (log10_ret _ (wr16 _).1 (wr16 _).2) _ ?_; rintro _ y__ ⟨rl, rfl, hl1, hl2⟩)
    | (with_reducible refine Go.Proofs.YgcoaaGreat.NatW.at_later 35 ?_
       refine Ret.run (make_ret _ _ _ (by omega) (by omega) (by omega)) _ ?_
       rintro _ y ⟨mn, md, me, mo, rfl, hcn⟩
       have HCN := hide hcn
       clear hcn
       have cb0 : ∀ o, (y.at_.alloc o).cell? ⟨w.heap.size + 1, 0, none⟩ = some (.bool false) := fun o => c10 ⟨y.at_.alloc o, y.ok.alloc y.ok.size o⟩
       have cb1 : ∀ o, (y.at_.alloc o).cell? ⟨w.heap.size + 1, 1, none⟩ = some (.string ⟨#[]⟩) := fun o => c11 ⟨y.at_.alloc o, y.ok.alloc y.ok.size o⟩
       have cb2 : ∀ o, (y.at_.alloc o).cell? ⟨w.heap.size + 1, 2, none⟩ = some (.int .i16 0) := fun o => c12 ⟨y.at_.alloc o, y.ok.alloc y.ok.size o⟩
       have fb0 : ∀ o, (y.at_.alloc o).frozen? ⟨w.heap.size + 1, 0, none⟩ = false := fun o => f10 ⟨y.at_.alloc o, y.ok.alloc y.ok.size o⟩
       have fb1 : ∀ o, (y.at_.alloc o).frozen? ⟨w.heap.size + 1, 1, none⟩ = false := fun o => f11 ⟨y.at_.alloc o, y.ok.alloc y.ok.size o⟩
       have fb2 : ∀ o, (y.at_.alloc o).frozen? ⟨w.heap.size + 1, 2, none⟩ = false := fun o => f12 ⟨y.at_.alloc o, y.ok.alloc y.ok.size o⟩
       have hBa : ∀ o, Below w.heap.size w (y.at_.alloc o) := fun o => hB ⟨y.at_.alloc o, y.ok.alloc y.ok.size o⟩
       have HBa := hide hBa
       clear hBa))
  all_goals first
    | (refine bodyPost_box rfl ?_; intro r hr; simp [results, Oaag.results171, go_sem, c10, c11, c12] at hr; subst hr; refine ⟨_, rfl, ?_⟩; exact unhide HK _ _ ⟨_, _, _, rfl, .inl ⟨rfl, rfl⟩⟩ (by (repeat ((with_reducible refine Go.Proofs.YgcoaaGreat.NatW.at_setb ?_); refine below_store ?_ (by omega) _)); exact hB _))
    | (refine bodyPost_box rfl ?_; intro r hr; simp [results, Oaag.results171, go_sem, cb0, cb1, cb2] at hr; subst hr; refine ⟨_, rfl, ?_⟩; exact unhide HK _ _ ⟨_, _, _, rfl, unhide HCN⟩ (by (repeat ((with_reducible refine Go.Proofs.YgcoaaGreat.NatW.at_setb ?_); refine below_store ?_ (by omega) _)); exact unhide HBa _))
    | skip


end Go.Proofs.YgcoaaGreat.NatW
