/-
  Package expand: round, the walk.
-/
import Derived.Test.YgcoaaGreatExpE
set_option linter.unusedVariables false
set_option linter.unusedSimpArgs false
namespace Go.Proofs.YgcoaaGreat.NatW
attribute [local go_sem] Go.Instr.field Go.asAgg
open Go.RowKit

def RndX (n : Nat) (t8 t9 : Value) : Prop := ∃ (b : Bool) (i : Nat), t8 = .bool b ∧ t9 = .int .i64 i ∧ i ≤ n
def RndU (w : World) (d n : Nat) (top sig prec : Int) (N : Nat) (t7 t11 : Value) (wr : World) : Prop := ∃ (b : Bool) (j : Nat), t7 = .bool b ∧ t11 = .int .i64 ((j : Int) - 1) ∧ j ≤ N + 1 ∧ RR w d n top sig prec wr

theorem RR.bk' {w wr : World} {d n : Nat} {top sig prec : Int} (h : RR w d n top sig prec wr) (off i : Nat) (hi : off + i < 1442) : ∃ v, wr.cell? ⟨w.heap.size, off + i, none⟩ = some (.int .u8 v) ∧ True := h.bk.cell (off + i) hi
theorem bytes_string_all (w0 : World) (b off len cap : Nat) (p : Int → Prop) (h : Bank w0 b off len .u8 p) (hb : b < w0.heap.size) :
    ∃ s : ByteArray, s.size = len ∧ ∀ w', Below w0.heap.size w0 w' → (convert 119 9 (.slice (some ⟨b, off, none⟩) len cap)).run Oaag.prog w' = .ok (.string s) w' := by
  obtain ⟨xs, hl, hc, _⟩ := bank_list h
  exact ⟨strOfNums xs, by rw [strOfNums_size, hl], fun w' hw => run_convert_bytes_arg w' 119 5 NatW.u119 NatW.u5 b off len cap xs hl (fun i hi => (hw.cell (p := ⟨b, off + i, none⟩) hb).trans (hc i hi)) 9 NatW.u9⟩
theorem size3791 : (1 : Nat) < 1442 := by decide

set_option maxRecDepth 20000 in
set_option maxHeartbeats 8000000 in
theorem round_any (d n : Nat) (top sig prec keep : Int) (hk : I64 keep) (w : World) (h : Exps w d n top sig prec) (K : Ending → World → Prop)
    (hK : ∀ s w', s.size ≤ 6000 → Below w.heap.size w w' → K (.returned (.string s)) w') : Calls Oaag.prog 331 #[.pointer (some ⟨d, 0, none⟩), .int .i64 keep] w K := by
  have hn := h.le
  have hdl := h.own.1
  have HK := hide hK
  have H := hide h
  obtain ⟨hk1, hk2⟩ := hk
  clear hK h
  go_enter Oaag.func331, Oaag.ntmps331
  by_cases hneg : keep < 0
  · go_wp2_with fail
    exact unhide HK _ _ (by decide) (Below.refl _ _)
  obtain ⟨kp, rfl⟩ : ∃ kp : Nat, keep = (kp : Int) := ⟨keep.toNat, by omega⟩
  go_wp2_with (refine wpList_newc 379 _ z379 rfl rfl ?_; refine unhide ?_)
  obtain ⟨w2, hw2⟩ : ∃ w2, w2 = w.alloc (.cells (Array.replicate 1442 (.int .u8 0)) 379) := ⟨_, rfl⟩
  have hrr : RR w d n top sig prec w2 := by
    refine ⟨hdl, ?_, ?_, ?_, ?_⟩
    · rw [hw2]; exact (unhide H).kept ((Below.refl _ _).alloc (Nat.le_refl _) _)
    · rw [hw2]; exact Mine.new w _ _
    · rw [hw2]; exact Bank.new w _ _ _ _ _ _ fun i hi => ⟨0, by rw [Nat.zero_add, Array.getElem?_replicate, if_pos hi], trivial⟩
    · rw [hw2]; exact (Below.refl _ _).alloc (Nat.le_refl _) _
  rw [← hw2]
  clear hw2 H
  refine hide ?_
  obtain ⟨v0, c0, -⟩ := hrr.bk.cell 0 (by omega)
  have f0 := hrr.own.2 0
  have hrr1 := hrr.set 0 48
  have kn := hrr1.ex.n_
  have HR := hide hrr1
  clear hrr hrr1
  by_cases hc1 : n < kp
  · go_wp2_with fail
    ((first | with_reducible refine Go.Proofs.YgcoaaGreat.NatW.gen_calls ?_ | with_reducible refine Go.Proofs.YgcoaaGreat.NatW.gen_wp ?_ | with_reducible refine Go.Proofs.YgcoaaGreat.NatW.gen_list ?_ | with_reducible refine Go.Proofs.YgcoaaGreat.NatW.gen_body ?_); intro W hW)
    have hrrW : RR w d n top sig prec W := by rw [← hW]; exact unhide HR
    clear hW HR kn c0 f0
    obtain ⟨wb, x0, hwb, hB⟩ := boxes0 W
    have hr' : ∀ x : Later wb, RR w d n top sig prec x.at_ := fun x => by subst hwb; exact hrrW.later (hB x)
    subst hwb
    clear hrrW
    have hne : Nonempty (Later wb) := ⟨x0⟩
    have sl1 : ∀ x : Later wb, (Instr.sliceAt 379 (.pointer (some ⟨w.heap.size, 0, none⟩)) (some (.int .i64 1)) none none).run Oaag.prog x.at_ = .ok (.slice (some ⟨w.heap.size, 1, none⟩) 1441 1441) x.at_ := fun x => slice_arr_l 379 5 1442 NatW.u379 NatW.s5 w.heap.size 1 1 rfl (by omega) _
    have sl2 : ∀ x : Later wb, (Instr.sliceAt 298 (.pointer (some ⟨d, 0, none⟩)) none (some (.int .i64 n)) none).run Oaag.prog x.at_ = .ok (.slice (some ⟨d, 0, none⟩) n 1441) x.at_ := fun x => slice_arr_h 298 5 1441 NatW.u298 NatW.s5 d n n rfl (by omega) _
    have HRR := hide hr'
    clear hr'
    with_reducible refine Go.Proofs.YgcoaaGreat.NatW.at_reg 6 ?_
    (repeat (first | (rewrite [Go.Proofs.YgcoaaGreat.NatW.frz_ite]; generalize Go.Proofs.YgcoaaGreat.NatW.frzI _ = x__) | (rewrite [Go.Proofs.YgcoaaGreat.NatW.frz_dec]; generalize Go.Proofs.YgcoaaGreat.NatW.frzB _ = x__) | (rewrite [Go.Proofs.YgcoaaGreat.NatW.frz_beq]; generalize Go.Proofs.YgcoaaGreat.NatW.frzB _ = x__) | (rewrite [Go.Proofs.YgcoaaGreat.NatW.frz_not]; generalize Go.Proofs.YgcoaaGreat.NatW.frzB _ = x__) | (rewrite [Go.Proofs.YgcoaaGreat.NatW.frz_and]; generalize Go.Proofs.YgcoaaGreat.NatW.frzB _ = x__) | (rewrite [Go.Proofs.YgcoaaGreat.NatW.frz_or]; generalize Go.Proofs.YgcoaaGreat.NatW.frzB _ = x__)))
    (refine region_then _ 6 4 (by kernel_rfl) (by kernel_rfl) (by kernel_rfl) ?_; simp only [List.take, List.drop]; (repeat (first | go_big_quiet_skip | (go_big_quiet_want; go_big_quiet_op; go_big_quiet_on))); refine wpQuiet_nil ?_)
    intro y
    refine wpList_cpB (unhide HRR y) rfl _ _ rfl n (by omega) rfl rfl ?_
    intro w5 hr5
    have kn := hr5.ex.n_
    have HR := hide hr5
    clear hr5 sl1 sl2 HRR
    go_wp2_with fail
    go_loopw [7, 11] (RndU w d n top sig prec n) (fun _ t11 _ => (intOf t11 + 1).toNat)
    case atStart => exact ⟨_, n + 1, rfl, by simp, by omega, unhide HR⟩
    case round =>
      clear HR
      obtain ⟨b, j, rfl, rfl, hj, hr⟩ := hrel
      cases b
      · obtain ⟨v0, c0, -⟩ := hr.bk.cell 0 (by omega)
        have kn := hr.ex.n_
        have sl3 := slice_arr_lh 379 5 1442 NatW.u379 NatW.s5 w.heap.size 1 (n + 1) 1 ((n : Int) + 1) rfl (by omega) (by omega) (by omega) (by omega)
        have sl4 := slice_arr_h 379 5 1442 NatW.u379 NatW.s5 w.heap.size (n + 1) ((n : Int) + 1) (by omega) (by omega)
        have HR := hide hr
        clear hr
        obtain ⟨bq, e0⟩ : ∃ bq, (v0 != 48) = bq := ⟨_, rfl⟩
        obtain ⟨bn, en⟩ : ∃ bn, ((n : Int) == 0) = bn := ⟨_, rfl⟩
        cases bq
        · cases bn
          · go_wp2_with fail
            have HR2 := HR
            obtain ⟨wb, x0, hwb, hB⟩ := boxes0 wr
            have hr' : ∀ x : Later wb, RR w d n top sig prec x.at_ := fun x => by subst hwb; exact (unhide HR).later (hB x)
            obtain ⟨s1, hs1, hcv1⟩ := bytes_string_all wr w.heap.size 1 n 1441 (fun _ => True) (fun i hi => (unhide HR).bk' 1 i (by omega)) (unhide HR).own.1
            have hcv : ∀ x : Later wb, (convert 119 9 (.slice (some ⟨w.heap.size, 1, none⟩) (n) 1441)).run Oaag.prog x.at_ = .ok (.string s1) x.at_ := fun x => by subst hwb; exact hcv1 _ (hB x)
            clear hcv1
            subst hwb
            have hne : Nonempty (Later wb) := ⟨x0⟩
            have kn2 := fun x => (hr' x).ex.n_
            have HRR := hide hr'
            clear hr' HR HR2 kn sl3 sl4 c0 e0 en
            with_reducible refine Go.Proofs.YgcoaaGreat.NatW.at_reg 26 ?_
            (repeat (first | (rewrite [Go.Proofs.YgcoaaGreat.NatW.frz_ite]; generalize Go.Proofs.YgcoaaGreat.NatW.frzI _ = x__) | (rewrite [Go.Proofs.YgcoaaGreat.NatW.frz_dec]; generalize Go.Proofs.YgcoaaGreat.NatW.frzB _ = x__) | (rewrite [Go.Proofs.YgcoaaGreat.NatW.frz_beq]; generalize Go.Proofs.YgcoaaGreat.NatW.frzB _ = x__) | (rewrite [Go.Proofs.YgcoaaGreat.NatW.frz_not]; generalize Go.Proofs.YgcoaaGreat.NatW.frzB _ = x__) | (rewrite [Go.Proofs.YgcoaaGreat.NatW.frz_and]; generalize Go.Proofs.YgcoaaGreat.NatW.frzB _ = x__) | (rewrite [Go.Proofs.YgcoaaGreat.NatW.frz_or]; generalize Go.Proofs.YgcoaaGreat.NatW.frzB _ = x__)))
            refine Go.Lax.region_calls _ 10 4 [(4, fun v => v = .pointer (some ⟨d, 0, none⟩)), (8, fun v => ∃ s : ByteArray, v = .string s ∧ s.size ≤ 4096)] (by kernel_rfl) (by kernel_rfl) (by kernel_rfl) (List.forall_mem_cons.2 ⟨⟨_, rfl⟩, List.forall_mem_cons.2 ⟨⟨_, ByteArray.empty, rfl, by decide⟩, fun _ h => by cases h⟩⟩) ?_
            iterate 4 (refine Go.Lax.walk_det rfl rfl rfl ?_; go_big_quiet_want; go_big_quiet_op; go_big_quiet_on; refine wpQuiet_nil ?_)
            refine Go.Lax.call_at rfl ?_ (fun y__ K__ hK__ => by (have HK__ := Go.Proofs.YgcoaaGreat.NatW.hide hK__; clear hK__; go_wp2_with fail; exact Go.Proofs.YgcoaaGreat.NatW.unhide HK__ _ _ rfl (Below.refl _ _)))
            rintro v rfl
            ((try dsimp only); go_big_quiet_want; go_big_quiet_op; go_big_quiet_on; refine wpQuiet_nil ?_)
            iterate 3 (refine Go.Lax.walk_det rfl rfl rfl ?_; go_big_quiet_want; go_big_quiet_op; go_big_quiet_on; refine wpQuiet_nil ?_)
            refine Go.Lax.call_at rfl ?_ (fun y__ K__ hK__ => by (go_wp2_with fail; refine (zeros_ret _ (by first | omega | exact (wri64 _).1 | exact (wr64i _).1) (by first | omega | exact (wri64 _).2 | exact (wr64i _).2)) _ _ ?_; intro v__ w__ hv__ hb__; have hh__ := Go.Proofs.YgcoaaGreat.NatW.hide (hK__ v__ w__ hv__ hb__); clear hK__ hv__; go_wp2_with fail; exact Eq.mp (by kernel_rfl) (Go.Proofs.YgcoaaGreat.NatW.unhide hh__)))
            rintro v ⟨zs, rfl, hzs⟩
            ((try dsimp only); go_big_quiet_want; go_big_quiet_op; go_big_quiet_on; refine wpQuiet_nil ?_)
            (refine Go.Lax.walk_det rfl rfl rfl ?_; go_big_quiet_want; go_big_quiet_op; go_big_quiet_on; refine wpQuiet_nil ?_)
            refine Go.Lax.end_at ?_
            intro y
            go_wp2_with fail
            exact unhide HK _ _ (by rw [ByteArray.size_append]; omega) (unhide HRR y).bl
          · go_wp2_with fail
            have HR2 := HR
            obtain ⟨wb, x0, hwb, hB⟩ := boxes0 wr
            have hr' : ∀ x : Later wb, RR w d n top sig prec x.at_ := fun x => by subst hwb; exact (unhide HR).later (hB x)
            obtain ⟨s1, hs1, hcv1⟩ := bytes_string_all wr w.heap.size 0 (n + 1) 1442 (fun _ => True) (fun i hi => (unhide HR).bk' 0 i (by omega)) (unhide HR).own.1
            have hcv : ∀ x : Later wb, (convert 119 9 (.slice (some ⟨w.heap.size, 0, none⟩) ((n + 1)) 1442)).run Oaag.prog x.at_ = .ok (.string s1) x.at_ := fun x => by subst hwb; exact hcv1 _ (hB x)
            clear hcv1
            subst hwb
            have hne : Nonempty (Later wb) := ⟨x0⟩
            have kn2 := fun x => (hr' x).ex.n_
            have HRR := hide hr'
            clear hr' HR HR2 kn sl3 sl4 c0 e0 en
            with_reducible refine Go.Proofs.YgcoaaGreat.NatW.at_reg 26 ?_
            (repeat (first | (rewrite [Go.Proofs.YgcoaaGreat.NatW.frz_ite]; generalize Go.Proofs.YgcoaaGreat.NatW.frzI _ = x__) | (rewrite [Go.Proofs.YgcoaaGreat.NatW.frz_dec]; generalize Go.Proofs.YgcoaaGreat.NatW.frzB _ = x__) | (rewrite [Go.Proofs.YgcoaaGreat.NatW.frz_beq]; generalize Go.Proofs.YgcoaaGreat.NatW.frzB _ = x__) | (rewrite [Go.Proofs.YgcoaaGreat.NatW.frz_not]; generalize Go.Proofs.YgcoaaGreat.NatW.frzB _ = x__) | (rewrite [Go.Proofs.YgcoaaGreat.NatW.frz_and]; generalize Go.Proofs.YgcoaaGreat.NatW.frzB _ = x__) | (rewrite [Go.Proofs.YgcoaaGreat.NatW.frz_or]; generalize Go.Proofs.YgcoaaGreat.NatW.frzB _ = x__)))
            refine Go.Lax.region_calls _ 10 4 [(4, fun v => v = .pointer (some ⟨d, 0, none⟩)), (8, fun v => ∃ s : ByteArray, v = .string s ∧ s.size ≤ 4096)] (by kernel_rfl) (by kernel_rfl) (by kernel_rfl) (List.forall_mem_cons.2 ⟨⟨_, rfl⟩, List.forall_mem_cons.2 ⟨⟨_, ByteArray.empty, rfl, by decide⟩, fun _ h => by cases h⟩⟩) ?_
            iterate 4 (refine Go.Lax.walk_det rfl rfl rfl ?_; go_big_quiet_want; go_big_quiet_op; go_big_quiet_on; refine wpQuiet_nil ?_)
            refine Go.Lax.call_at rfl ?_ (fun y__ K__ hK__ => by (have HK__ := Go.Proofs.YgcoaaGreat.NatW.hide hK__; clear hK__; go_wp2_with fail; exact Go.Proofs.YgcoaaGreat.NatW.unhide HK__ _ _ rfl (Below.refl _ _)))
            rintro v rfl
            ((try dsimp only); go_big_quiet_want; go_big_quiet_op; go_big_quiet_on; refine wpQuiet_nil ?_)
            iterate 3 (refine Go.Lax.walk_det rfl rfl rfl ?_; go_big_quiet_want; go_big_quiet_op; go_big_quiet_on; refine wpQuiet_nil ?_)
            refine Go.Lax.call_at rfl ?_ (fun y__ K__ hK__ => by (go_wp2_with fail; refine (zeros_ret _ (by first | omega | exact (wri64 _).1 | exact (wr64i _).1) (by first | omega | exact (wri64 _).2 | exact (wr64i _).2)) _ _ ?_; intro v__ w__ hv__ hb__; have hh__ := Go.Proofs.YgcoaaGreat.NatW.hide (hK__ v__ w__ hv__ hb__); clear hK__ hv__; go_wp2_with fail; exact Eq.mp (by kernel_rfl) (Go.Proofs.YgcoaaGreat.NatW.unhide hh__)))
            rintro v ⟨zs, rfl, hzs⟩
            ((try dsimp only); go_big_quiet_want; go_big_quiet_op; go_big_quiet_on; refine wpQuiet_nil ?_)
            (refine Go.Lax.walk_det rfl rfl rfl ?_; go_big_quiet_want; go_big_quiet_op; go_big_quiet_on; refine wpQuiet_nil ?_)
            refine Go.Lax.end_at ?_
            intro y
            go_wp2_with fail
            exact unhide HK _ _ (by rw [ByteArray.size_append]; omega) (unhide HRR y).bl
        · go_wp2_with fail
          have HR2 := HR
          obtain ⟨wb, x0, hwb, hB⟩ := boxes0 wr
          have hr' : ∀ x : Later wb, RR w d n top sig prec x.at_ := fun x => by subst hwb; exact (unhide HR).later (hB x)
          obtain ⟨s1, hs1, hcv1⟩ := bytes_string_all wr w.heap.size 0 (n + 1) 1442 (fun _ => True) (fun i hi => (unhide HR).bk' 0 i (by omega)) (unhide HR).own.1
          have hcv : ∀ x : Later wb, (convert 119 9 (.slice (some ⟨w.heap.size, 0, none⟩) ((n + 1)) 1442)).run Oaag.prog x.at_ = .ok (.string s1) x.at_ := fun x => by subst hwb; exact hcv1 _ (hB x)
          clear hcv1
          subst hwb
          have hne : Nonempty (Later wb) := ⟨x0⟩
          have kn2 := fun x => (hr' x).ex.n_
          have HRR := hide hr'
          clear hr' HR HR2 kn sl3 sl4 c0 e0 en
          with_reducible refine Go.Proofs.YgcoaaGreat.NatW.at_reg 26 ?_
          (repeat (first | (rewrite [Go.Proofs.YgcoaaGreat.NatW.frz_ite]; generalize Go.Proofs.YgcoaaGreat.NatW.frzI _ = x__) | (rewrite [Go.Proofs.YgcoaaGreat.NatW.frz_dec]; generalize Go.Proofs.YgcoaaGreat.NatW.frzB _ = x__) | (rewrite [Go.Proofs.YgcoaaGreat.NatW.frz_beq]; generalize Go.Proofs.YgcoaaGreat.NatW.frzB _ = x__) | (rewrite [Go.Proofs.YgcoaaGreat.NatW.frz_not]; generalize Go.Proofs.YgcoaaGreat.NatW.frzB _ = x__) | (rewrite [Go.Proofs.YgcoaaGreat.NatW.frz_and]; generalize Go.Proofs.YgcoaaGreat.NatW.frzB _ = x__) | (rewrite [Go.Proofs.YgcoaaGreat.NatW.frz_or]; generalize Go.Proofs.YgcoaaGreat.NatW.frzB _ = x__)))
          refine Go.Lax.region_calls _ 10 4 [(4, fun v => v = .pointer (some ⟨d, 0, none⟩)), (8, fun v => ∃ s : ByteArray, v = .string s ∧ s.size ≤ 4096)] (by kernel_rfl) (by kernel_rfl) (by kernel_rfl) (List.forall_mem_cons.2 ⟨⟨_, rfl⟩, List.forall_mem_cons.2 ⟨⟨_, ByteArray.empty, rfl, by decide⟩, fun _ h => by cases h⟩⟩) ?_
          iterate 4 (refine Go.Lax.walk_det rfl rfl rfl ?_; go_big_quiet_want; go_big_quiet_op; go_big_quiet_on; refine wpQuiet_nil ?_)
          refine Go.Lax.call_at rfl ?_ (fun y__ K__ hK__ => by (have HK__ := Go.Proofs.YgcoaaGreat.NatW.hide hK__; clear hK__; go_wp2_with fail; exact Go.Proofs.YgcoaaGreat.NatW.unhide HK__ _ _ rfl (Below.refl _ _)))
          rintro v rfl
          ((try dsimp only); go_big_quiet_want; go_big_quiet_op; go_big_quiet_on; refine wpQuiet_nil ?_)
          iterate 3 (refine Go.Lax.walk_det rfl rfl rfl ?_; go_big_quiet_want; go_big_quiet_op; go_big_quiet_on; refine wpQuiet_nil ?_)
          refine Go.Lax.call_at rfl ?_ (fun y__ K__ hK__ => by (go_wp2_with fail; refine (zeros_ret _ (by first | omega | exact (wri64 _).1 | exact (wr64i _).1) (by first | omega | exact (wri64 _).2 | exact (wr64i _).2)) _ _ ?_; intro v__ w__ hv__ hb__; have hh__ := Go.Proofs.YgcoaaGreat.NatW.hide (hK__ v__ w__ hv__ hb__); clear hK__ hv__; go_wp2_with fail; exact Eq.mp (by kernel_rfl) (Go.Proofs.YgcoaaGreat.NatW.unhide hh__)))
          rintro v ⟨zs, rfl, hzs⟩
          ((try dsimp only); go_big_quiet_want; go_big_quiet_op; go_big_quiet_on; refine wpQuiet_nil ?_)
          (refine Go.Lax.walk_det rfl rfl rfl ?_; go_big_quiet_want; go_big_quiet_op; go_big_quiet_on; refine wpQuiet_nil ?_)
          refine Go.Lax.end_at ?_
          intro y
          go_wp2_with fail
          exact unhide HK _ _ (by rw [ByteArray.size_append]; omega) (unhide HRR y).bl
      · rcases Nat.eq_zero_or_pos j with hj0 | hj0
        · subst hj0
          obtain ⟨v0, c0, -⟩ := hr.bk.cell 0 (by omega)
          have kn := hr.ex.n_
          have sl3 := slice_arr_lh 379 5 1442 NatW.u379 NatW.s5 w.heap.size 1 (n + 1) 1 ((n : Int) + 1) rfl (by omega) (by omega) (by omega) (by omega)
          have sl4 := slice_arr_h 379 5 1442 NatW.u379 NatW.s5 w.heap.size (n + 1) ((n : Int) + 1) (by omega) (by omega)
          have HR := hide hr
          clear hr
          obtain ⟨bq, e0⟩ : ∃ bq, (v0 != 48) = bq := ⟨_, rfl⟩
          obtain ⟨bn, en⟩ : ∃ bn, ((n : Int) == 0) = bn := ⟨_, rfl⟩
          cases bq
          · cases bn
            · go_wp2_with fail
              have HR2 := HR
              obtain ⟨wb, x0, hwb, hB⟩ := boxes0 wr
              have hr' : ∀ x : Later wb, RR w d n top sig prec x.at_ := fun x => by subst hwb; exact (unhide HR).later (hB x)
              obtain ⟨s1, hs1, hcv1⟩ := bytes_string_all wr w.heap.size 1 n 1441 (fun _ => True) (fun i hi => (unhide HR).bk' 1 i (by omega)) (unhide HR).own.1
              have hcv : ∀ x : Later wb, (convert 119 9 (.slice (some ⟨w.heap.size, 1, none⟩) (n) 1441)).run Oaag.prog x.at_ = .ok (.string s1) x.at_ := fun x => by subst hwb; exact hcv1 _ (hB x)
              clear hcv1
              subst hwb
              have hne : Nonempty (Later wb) := ⟨x0⟩
              have kn2 := fun x => (hr' x).ex.n_
              have HRR := hide hr'
              clear hr' HR HR2 kn sl3 sl4 c0 e0 en
              with_reducible refine Go.Proofs.YgcoaaGreat.NatW.at_reg 26 ?_
              (repeat (first | (rewrite [Go.Proofs.YgcoaaGreat.NatW.frz_ite]; generalize Go.Proofs.YgcoaaGreat.NatW.frzI _ = x__) | (rewrite [Go.Proofs.YgcoaaGreat.NatW.frz_dec]; generalize Go.Proofs.YgcoaaGreat.NatW.frzB _ = x__) | (rewrite [Go.Proofs.YgcoaaGreat.NatW.frz_beq]; generalize Go.Proofs.YgcoaaGreat.NatW.frzB _ = x__) | (rewrite [Go.Proofs.YgcoaaGreat.NatW.frz_not]; generalize Go.Proofs.YgcoaaGreat.NatW.frzB _ = x__) | (rewrite [Go.Proofs.YgcoaaGreat.NatW.frz_and]; generalize Go.Proofs.YgcoaaGreat.NatW.frzB _ = x__) | (rewrite [Go.Proofs.YgcoaaGreat.NatW.frz_or]; generalize Go.Proofs.YgcoaaGreat.NatW.frzB _ = x__)))
              refine Go.Lax.region_calls _ 10 4 [(4, fun v => v = .pointer (some ⟨d, 0, none⟩)), (8, fun v => ∃ s : ByteArray, v = .string s ∧ s.size ≤ 4096)] (by kernel_rfl) (by kernel_rfl) (by kernel_rfl) (List.forall_mem_cons.2 ⟨⟨_, rfl⟩, List.forall_mem_cons.2 ⟨⟨_, ByteArray.empty, rfl, by decide⟩, fun _ h => by cases h⟩⟩) ?_
              iterate 4 (refine Go.Lax.walk_det rfl rfl rfl ?_; go_big_quiet_want; go_big_quiet_op; go_big_quiet_on; refine wpQuiet_nil ?_)
              refine Go.Lax.call_at rfl ?_ (fun y__ K__ hK__ => by (have HK__ := Go.Proofs.YgcoaaGreat.NatW.hide hK__; clear hK__; go_wp2_with fail; exact Go.Proofs.YgcoaaGreat.NatW.unhide HK__ _ _ rfl (Below.refl _ _)))
              rintro v rfl
              ((try dsimp only); go_big_quiet_want; go_big_quiet_op; go_big_quiet_on; refine wpQuiet_nil ?_)
              iterate 3 (refine Go.Lax.walk_det rfl rfl rfl ?_; go_big_quiet_want; go_big_quiet_op; go_big_quiet_on; refine wpQuiet_nil ?_)
              refine Go.Lax.call_at rfl ?_ (fun y__ K__ hK__ => by (go_wp2_with fail; refine (zeros_ret _ (by first | omega | exact (wri64 _).1 | exact (wr64i _).1) (by first | omega | exact (wri64 _).2 | exact (wr64i _).2)) _ _ ?_; intro v__ w__ hv__ hb__; have hh__ := Go.Proofs.YgcoaaGreat.NatW.hide (hK__ v__ w__ hv__ hb__); clear hK__ hv__; go_wp2_with fail; exact Eq.mp (by kernel_rfl) (Go.Proofs.YgcoaaGreat.NatW.unhide hh__)))
              rintro v ⟨zs, rfl, hzs⟩
              ((try dsimp only); go_big_quiet_want; go_big_quiet_op; go_big_quiet_on; refine wpQuiet_nil ?_)
              (refine Go.Lax.walk_det rfl rfl rfl ?_; go_big_quiet_want; go_big_quiet_op; go_big_quiet_on; refine wpQuiet_nil ?_)
              refine Go.Lax.end_at ?_
              intro y
              go_wp2_with fail
              exact unhide HK _ _ (by rw [ByteArray.size_append]; omega) (unhide HRR y).bl
            · go_wp2_with fail
              have HR2 := HR
              obtain ⟨wb, x0, hwb, hB⟩ := boxes0 wr
              have hr' : ∀ x : Later wb, RR w d n top sig prec x.at_ := fun x => by subst hwb; exact (unhide HR).later (hB x)
              obtain ⟨s1, hs1, hcv1⟩ := bytes_string_all wr w.heap.size 0 (n + 1) 1442 (fun _ => True) (fun i hi => (unhide HR).bk' 0 i (by omega)) (unhide HR).own.1
              have hcv : ∀ x : Later wb, (convert 119 9 (.slice (some ⟨w.heap.size, 0, none⟩) ((n + 1)) 1442)).run Oaag.prog x.at_ = .ok (.string s1) x.at_ := fun x => by subst hwb; exact hcv1 _ (hB x)
              clear hcv1
              subst hwb
              have hne : Nonempty (Later wb) := ⟨x0⟩
              have kn2 := fun x => (hr' x).ex.n_
              have HRR := hide hr'
              clear hr' HR HR2 kn sl3 sl4 c0 e0 en
              with_reducible refine Go.Proofs.YgcoaaGreat.NatW.at_reg 26 ?_
              (repeat (first | (rewrite [Go.Proofs.YgcoaaGreat.NatW.frz_ite]; generalize Go.Proofs.YgcoaaGreat.NatW.frzI _ = x__) | (rewrite [Go.Proofs.YgcoaaGreat.NatW.frz_dec]; generalize Go.Proofs.YgcoaaGreat.NatW.frzB _ = x__) | (rewrite [Go.Proofs.YgcoaaGreat.NatW.frz_beq]; generalize Go.Proofs.YgcoaaGreat.NatW.frzB _ = x__) | (rewrite [Go.Proofs.YgcoaaGreat.NatW.frz_not]; generalize Go.Proofs.YgcoaaGreat.NatW.frzB _ = x__) | (rewrite [Go.Proofs.YgcoaaGreat.NatW.frz_and]; generalize Go.Proofs.YgcoaaGreat.NatW.frzB _ = x__) | (rewrite [Go.Proofs.YgcoaaGreat.NatW.frz_or]; generalize Go.Proofs.YgcoaaGreat.NatW.frzB _ = x__)))
              refine Go.Lax.region_calls _ 10 4 [(4, fun v => v = .pointer (some ⟨d, 0, none⟩)), (8, fun v => ∃ s : ByteArray, v = .string s ∧ s.size ≤ 4096)] (by kernel_rfl) (by kernel_rfl) (by kernel_rfl) (List.forall_mem_cons.2 ⟨⟨_, rfl⟩, List.forall_mem_cons.2 ⟨⟨_, ByteArray.empty, rfl, by decide⟩, fun _ h => by cases h⟩⟩) ?_
              iterate 4 (refine Go.Lax.walk_det rfl rfl rfl ?_; go_big_quiet_want; go_big_quiet_op; go_big_quiet_on; refine wpQuiet_nil ?_)
              refine Go.Lax.call_at rfl ?_ (fun y__ K__ hK__ => by (have HK__ := Go.Proofs.YgcoaaGreat.NatW.hide hK__; clear hK__; go_wp2_with fail; exact Go.Proofs.YgcoaaGreat.NatW.unhide HK__ _ _ rfl (Below.refl _ _)))
              rintro v rfl
              ((try dsimp only); go_big_quiet_want; go_big_quiet_op; go_big_quiet_on; refine wpQuiet_nil ?_)
              iterate 3 (refine Go.Lax.walk_det rfl rfl rfl ?_; go_big_quiet_want; go_big_quiet_op; go_big_quiet_on; refine wpQuiet_nil ?_)
              refine Go.Lax.call_at rfl ?_ (fun y__ K__ hK__ => by (go_wp2_with fail; refine (zeros_ret _ (by first | omega | exact (wri64 _).1 | exact (wr64i _).1) (by first | omega | exact (wri64 _).2 | exact (wr64i _).2)) _ _ ?_; intro v__ w__ hv__ hb__; have hh__ := Go.Proofs.YgcoaaGreat.NatW.hide (hK__ v__ w__ hv__ hb__); clear hK__ hv__; go_wp2_with fail; exact Eq.mp (by kernel_rfl) (Go.Proofs.YgcoaaGreat.NatW.unhide hh__)))
              rintro v ⟨zs, rfl, hzs⟩
              ((try dsimp only); go_big_quiet_want; go_big_quiet_op; go_big_quiet_on; refine wpQuiet_nil ?_)
              (refine Go.Lax.walk_det rfl rfl rfl ?_; go_big_quiet_want; go_big_quiet_op; go_big_quiet_on; refine wpQuiet_nil ?_)
              refine Go.Lax.end_at ?_
              intro y
              go_wp2_with fail
              exact unhide HK _ _ (by rw [ByteArray.size_append]; omega) (unhide HRR y).bl
          · go_wp2_with fail
            have HR2 := HR
            obtain ⟨wb, x0, hwb, hB⟩ := boxes0 wr
            have hr' : ∀ x : Later wb, RR w d n top sig prec x.at_ := fun x => by subst hwb; exact (unhide HR).later (hB x)
            obtain ⟨s1, hs1, hcv1⟩ := bytes_string_all wr w.heap.size 0 (n + 1) 1442 (fun _ => True) (fun i hi => (unhide HR).bk' 0 i (by omega)) (unhide HR).own.1
            have hcv : ∀ x : Later wb, (convert 119 9 (.slice (some ⟨w.heap.size, 0, none⟩) ((n + 1)) 1442)).run Oaag.prog x.at_ = .ok (.string s1) x.at_ := fun x => by subst hwb; exact hcv1 _ (hB x)
            clear hcv1
            subst hwb
            have hne : Nonempty (Later wb) := ⟨x0⟩
            have kn2 := fun x => (hr' x).ex.n_
            have HRR := hide hr'
            clear hr' HR HR2 kn sl3 sl4 c0 e0 en
            with_reducible refine Go.Proofs.YgcoaaGreat.NatW.at_reg 26 ?_
            (repeat (first | (rewrite [Go.Proofs.YgcoaaGreat.NatW.frz_ite]; generalize Go.Proofs.YgcoaaGreat.NatW.frzI _ = x__) | (rewrite [Go.Proofs.YgcoaaGreat.NatW.frz_dec]; generalize Go.Proofs.YgcoaaGreat.NatW.frzB _ = x__) | (rewrite [Go.Proofs.YgcoaaGreat.NatW.frz_beq]; generalize Go.Proofs.YgcoaaGreat.NatW.frzB _ = x__) | (rewrite [Go.Proofs.YgcoaaGreat.NatW.frz_not]; generalize Go.Proofs.YgcoaaGreat.NatW.frzB _ = x__) | (rewrite [Go.Proofs.YgcoaaGreat.NatW.frz_and]; generalize Go.Proofs.YgcoaaGreat.NatW.frzB _ = x__) | (rewrite [Go.Proofs.YgcoaaGreat.NatW.frz_or]; generalize Go.Proofs.YgcoaaGreat.NatW.frzB _ = x__)))
            refine Go.Lax.region_calls _ 10 4 [(4, fun v => v = .pointer (some ⟨d, 0, none⟩)), (8, fun v => ∃ s : ByteArray, v = .string s ∧ s.size ≤ 4096)] (by kernel_rfl) (by kernel_rfl) (by kernel_rfl) (List.forall_mem_cons.2 ⟨⟨_, rfl⟩, List.forall_mem_cons.2 ⟨⟨_, ByteArray.empty, rfl, by decide⟩, fun _ h => by cases h⟩⟩) ?_
            iterate 4 (refine Go.Lax.walk_det rfl rfl rfl ?_; go_big_quiet_want; go_big_quiet_op; go_big_quiet_on; refine wpQuiet_nil ?_)
            refine Go.Lax.call_at rfl ?_ (fun y__ K__ hK__ => by (have HK__ := Go.Proofs.YgcoaaGreat.NatW.hide hK__; clear hK__; go_wp2_with fail; exact Go.Proofs.YgcoaaGreat.NatW.unhide HK__ _ _ rfl (Below.refl _ _)))
            rintro v rfl
            ((try dsimp only); go_big_quiet_want; go_big_quiet_op; go_big_quiet_on; refine wpQuiet_nil ?_)
            iterate 3 (refine Go.Lax.walk_det rfl rfl rfl ?_; go_big_quiet_want; go_big_quiet_op; go_big_quiet_on; refine wpQuiet_nil ?_)
            refine Go.Lax.call_at rfl ?_ (fun y__ K__ hK__ => by (go_wp2_with fail; refine (zeros_ret _ (by first | omega | exact (wri64 _).1 | exact (wr64i _).1) (by first | omega | exact (wri64 _).2 | exact (wr64i _).2)) _ _ ?_; intro v__ w__ hv__ hb__; have hh__ := Go.Proofs.YgcoaaGreat.NatW.hide (hK__ v__ w__ hv__ hb__); clear hK__ hv__; go_wp2_with fail; exact Eq.mp (by kernel_rfl) (Go.Proofs.YgcoaaGreat.NatW.unhide hh__)))
            rintro v ⟨zs, rfl, hzs⟩
            ((try dsimp only); go_big_quiet_want; go_big_quiet_op; go_big_quiet_on; refine wpQuiet_nil ?_)
            (refine Go.Lax.walk_det rfl rfl rfl ?_; go_big_quiet_want; go_big_quiet_op; go_big_quiet_on; refine wpQuiet_nil ?_)
            refine Go.Lax.end_at ?_
            intro y
            go_wp2_with fail
            exact unhide HK _ _ (by rw [ByteArray.size_append]; omega) (unhide HRR y).bl
        · obtain ⟨q, rfl⟩ : ∃ q, j = q + 1 := ⟨j - 1, by omega⟩
          obtain ⟨vq, kq, -⟩ := hr.bk.cell q (by omega)
          have fq := hr.own.2 q
          have HR := hide hr
          clear hr
          by_cases hv9 : vq = 57
          · have e9 : (vq != 57) = false := by simp [hv9]
            clear hv9
            go_wp2_with fail
            exact ⟨⟨_, q, rfl, congrArg (Value.int .i64) (by omega), by omega, (unhide HR).set _ _⟩, by simp [intOf]; try omega⟩
          · have e9 : (vq != 57) = true := by simp [hv9]
            clear hv9
            go_wp2_with fail
            exact ⟨⟨_, q, rfl, congrArg (Value.int .i64) (by omega), by omega, (unhide HR).set _ _⟩, by simp [intOf]; try omega⟩
  · by_cases hc2 : kp < n
    · go_wp2_with fail
      ((first | with_reducible refine Go.Proofs.YgcoaaGreat.NatW.gen_calls ?_ | with_reducible refine Go.Proofs.YgcoaaGreat.NatW.gen_wp ?_ | with_reducible refine Go.Proofs.YgcoaaGreat.NatW.gen_list ?_ | with_reducible refine Go.Proofs.YgcoaaGreat.NatW.gen_body ?_); intro W hW)
      have hrrW : RR w d n top sig prec W := by rw [← hW]; exact unhide HR
      clear hW HR kn c0 f0
      obtain ⟨wb, x0, hwb, hB⟩ := boxes0 W
      have hr' : ∀ x : Later wb, RR w d n top sig prec x.at_ := fun x => by subst hwb; exact hrrW.later (hB x)
      subst hwb
      clear hrrW
      have hne : Nonempty (Later wb) := ⟨x0⟩
      have sl1 : ∀ x : Later wb, (Instr.sliceAt 379 (.pointer (some ⟨w.heap.size, 0, none⟩)) (some (.int .i64 1)) none none).run Oaag.prog x.at_ = .ok (.slice (some ⟨w.heap.size, 1, none⟩) 1441 1441) x.at_ := fun x => slice_arr_l 379 5 1442 NatW.u379 NatW.s5 w.heap.size 1 1 rfl (by omega) _
      have sl2 : ∀ x : Later wb, (Instr.sliceAt 298 (.pointer (some ⟨d, 0, none⟩)) none (some (.int .i64 kp)) none).run Oaag.prog x.at_ = .ok (.slice (some ⟨d, 0, none⟩) kp 1441) x.at_ := fun x => slice_arr_h 298 5 1441 NatW.u298 NatW.s5 d kp kp rfl (by omega) _
      have HRR := hide hr'
      clear hr'
      with_reducible refine Go.Proofs.YgcoaaGreat.NatW.at_reg 6 ?_
      (repeat (first | (rewrite [Go.Proofs.YgcoaaGreat.NatW.frz_ite]; generalize Go.Proofs.YgcoaaGreat.NatW.frzI _ = x__) | (rewrite [Go.Proofs.YgcoaaGreat.NatW.frz_dec]; generalize Go.Proofs.YgcoaaGreat.NatW.frzB _ = x__) | (rewrite [Go.Proofs.YgcoaaGreat.NatW.frz_beq]; generalize Go.Proofs.YgcoaaGreat.NatW.frzB _ = x__) | (rewrite [Go.Proofs.YgcoaaGreat.NatW.frz_not]; generalize Go.Proofs.YgcoaaGreat.NatW.frzB _ = x__) | (rewrite [Go.Proofs.YgcoaaGreat.NatW.frz_and]; generalize Go.Proofs.YgcoaaGreat.NatW.frzB _ = x__) | (rewrite [Go.Proofs.YgcoaaGreat.NatW.frz_or]; generalize Go.Proofs.YgcoaaGreat.NatW.frzB _ = x__)))
      (refine region_then _ 6 4 (by kernel_rfl) (by kernel_rfl) (by kernel_rfl) ?_; simp only [List.take, List.drop]; (repeat (first | go_big_quiet_skip | (go_big_quiet_want; go_big_quiet_op; go_big_quiet_on))); refine wpQuiet_nil ?_)
      intro y
      refine wpList_cpB (unhide HRR y) rfl _ _ rfl kp (by omega) rfl rfl ?_
      intro w5 hr5
      have kn := hr5.ex.n_
      have HR := hide hr5
      clear hr5 sl1 sl2 HRR
      go_wp2_with fail
      go_loop [8, 9] (RndX n) (fun _ t9 => n - (intOf t9).toNat)
      case atStart => exact ⟨true, kp + 1, rfl, by simp, by omega⟩
      case round =>
        obtain ⟨b, i, rfl, rfl, hi⟩ := hrel
        by_cases hin : i < n
        · obtain ⟨vi, ki, -⟩ := (unhide HR).ex.dig.cell i (by omega)
          cases b
          all_goals go_wp2_with fail
          all_goals exact ⟨⟨_, i + 1, rfl, by simp, by omega⟩, by simp [intOf]; omega⟩
        · have hii : n = i := by omega
          subst hii
          obtain ⟨vk, kk, -⟩ := (unhide HR).ex.dig.cell kp (by omega)
          obtain ⟨vo, ko, -⟩ := (unhide HR).bk.cell kp (by omega)
          clear hin
          cases b
          all_goals go_wp2_with fail
          all_goals
            go_loopw [7, 11] (RndU w d n top sig prec kp) (fun _ t11 _ => (intOf t11 + 1).toNat)
            case atStart => exact ⟨_, kp + 1, rfl, by simp, by omega, unhide HR⟩
            case round =>
              clear HR
              obtain ⟨b, j, rfl, rfl, hj, hr⟩ := hrel
              cases b
              · obtain ⟨v0, c0, -⟩ := hr.bk.cell 0 (by omega)
                have kn := hr.ex.n_
                have sl3 := slice_arr_lh 379 5 1442 NatW.u379 NatW.s5 w.heap.size 1 (kp + 1) 1 ((kp : Int) + 1) rfl (by omega) (by omega) (by omega) (by omega)
                have sl4 := slice_arr_h 379 5 1442 NatW.u379 NatW.s5 w.heap.size (kp + 1) ((kp : Int) + 1) (by omega) (by omega)
                have HR := hide hr
                clear hr
                obtain ⟨bq, e0⟩ : ∃ bq, (v0 != 48) = bq := ⟨_, rfl⟩
                obtain ⟨bn, en⟩ : ∃ bn, ((kp : Int) == 0) = bn := ⟨_, rfl⟩
                cases bq
                · cases bn
                  · go_wp2_with fail
                    have HR2 := HR
                    obtain ⟨wb, x0, hwb, hB⟩ := boxes0 wr
                    have hr' : ∀ x : Later wb, RR w d n top sig prec x.at_ := fun x => by subst hwb; exact (unhide HR).later (hB x)
                    obtain ⟨s1, hs1, hcv1⟩ := bytes_string_all wr w.heap.size 1 kp 1441 (fun _ => True) (fun i hi => (unhide HR).bk' 1 i (by omega)) (unhide HR).own.1
                    have hcv : ∀ x : Later wb, (convert 119 9 (.slice (some ⟨w.heap.size, 1, none⟩) (kp) 1441)).run Oaag.prog x.at_ = .ok (.string s1) x.at_ := fun x => by subst hwb; exact hcv1 _ (hB x)
                    clear hcv1
                    subst hwb
                    have hne : Nonempty (Later wb) := ⟨x0⟩
                    have kn2 := fun x => (hr' x).ex.n_
                    have HRR := hide hr'
                    clear hr' HR HR2 kn sl3 sl4 c0 e0 en
                    with_reducible refine Go.Proofs.YgcoaaGreat.NatW.at_reg 26 ?_
                    (repeat (first | (rewrite [Go.Proofs.YgcoaaGreat.NatW.frz_ite]; generalize Go.Proofs.YgcoaaGreat.NatW.frzI _ = x__) | (rewrite [Go.Proofs.YgcoaaGreat.NatW.frz_dec]; generalize Go.Proofs.YgcoaaGreat.NatW.frzB _ = x__) | (rewrite [Go.Proofs.YgcoaaGreat.NatW.frz_beq]; generalize Go.Proofs.YgcoaaGreat.NatW.frzB _ = x__) | (rewrite [Go.Proofs.YgcoaaGreat.NatW.frz_not]; generalize Go.Proofs.YgcoaaGreat.NatW.frzB _ = x__) | (rewrite [Go.Proofs.YgcoaaGreat.NatW.frz_and]; generalize Go.Proofs.YgcoaaGreat.NatW.frzB _ = x__) | (rewrite [Go.Proofs.YgcoaaGreat.NatW.frz_or]; generalize Go.Proofs.YgcoaaGreat.NatW.frzB _ = x__)))
                    refine Go.Lax.region_calls _ 10 4 [(4, fun v => v = .pointer (some ⟨d, 0, none⟩)), (8, fun v => ∃ s : ByteArray, v = .string s ∧ s.size ≤ 4096)] (by kernel_rfl) (by kernel_rfl) (by kernel_rfl) (List.forall_mem_cons.2 ⟨⟨_, rfl⟩, List.forall_mem_cons.2 ⟨⟨_, ByteArray.empty, rfl, by decide⟩, fun _ h => by cases h⟩⟩) ?_
                    iterate 4 (refine Go.Lax.walk_det rfl rfl rfl ?_; go_big_quiet_want; go_big_quiet_op; go_big_quiet_on; refine wpQuiet_nil ?_)
                    refine Go.Lax.call_at rfl ?_ (fun y__ K__ hK__ => by (have HK__ := Go.Proofs.YgcoaaGreat.NatW.hide hK__; clear hK__; go_wp2_with fail; exact Go.Proofs.YgcoaaGreat.NatW.unhide HK__ _ _ rfl (Below.refl _ _)))
                    rintro v rfl
                    ((try dsimp only); go_big_quiet_want; go_big_quiet_op; go_big_quiet_on; refine wpQuiet_nil ?_)
                    iterate 3 (refine Go.Lax.walk_det rfl rfl rfl ?_; go_big_quiet_want; go_big_quiet_op; go_big_quiet_on; refine wpQuiet_nil ?_)
                    refine Go.Lax.call_at rfl ?_ (fun y__ K__ hK__ => by (go_wp2_with fail; refine (zeros_ret _ (by first | omega | exact (wri64 _).1 | exact (wr64i _).1) (by first | omega | exact (wri64 _).2 | exact (wr64i _).2)) _ _ ?_; intro v__ w__ hv__ hb__; have hh__ := Go.Proofs.YgcoaaGreat.NatW.hide (hK__ v__ w__ hv__ hb__); clear hK__ hv__; go_wp2_with fail; exact Eq.mp (by kernel_rfl) (Go.Proofs.YgcoaaGreat.NatW.unhide hh__)))
                    rintro v ⟨zs, rfl, hzs⟩
                    ((try dsimp only); go_big_quiet_want; go_big_quiet_op; go_big_quiet_on; refine wpQuiet_nil ?_)
                    (refine Go.Lax.walk_det rfl rfl rfl ?_; go_big_quiet_want; go_big_quiet_op; go_big_quiet_on; refine wpQuiet_nil ?_)
                    refine Go.Lax.end_at ?_
                    intro y
                    go_wp2_with fail
                    exact unhide HK _ _ (by rw [ByteArray.size_append]; omega) (unhide HRR y).bl
                  · go_wp2_with fail
                    have HR2 := HR
                    obtain ⟨wb, x0, hwb, hB⟩ := boxes0 wr
                    have hr' : ∀ x : Later wb, RR w d n top sig prec x.at_ := fun x => by subst hwb; exact (unhide HR).later (hB x)
                    obtain ⟨s1, hs1, hcv1⟩ := bytes_string_all wr w.heap.size 0 (kp + 1) 1442 (fun _ => True) (fun i hi => (unhide HR).bk' 0 i (by omega)) (unhide HR).own.1
                    have hcv : ∀ x : Later wb, (convert 119 9 (.slice (some ⟨w.heap.size, 0, none⟩) ((kp + 1)) 1442)).run Oaag.prog x.at_ = .ok (.string s1) x.at_ := fun x => by subst hwb; exact hcv1 _ (hB x)
                    clear hcv1
                    subst hwb
                    have hne : Nonempty (Later wb) := ⟨x0⟩
                    have kn2 := fun x => (hr' x).ex.n_
                    have HRR := hide hr'
                    clear hr' HR HR2 kn sl3 sl4 c0 e0 en
                    with_reducible refine Go.Proofs.YgcoaaGreat.NatW.at_reg 26 ?_
                    (repeat (first | (rewrite [Go.Proofs.YgcoaaGreat.NatW.frz_ite]; generalize Go.Proofs.YgcoaaGreat.NatW.frzI _ = x__) | (rewrite [Go.Proofs.YgcoaaGreat.NatW.frz_dec]; generalize Go.Proofs.YgcoaaGreat.NatW.frzB _ = x__) | (rewrite [Go.Proofs.YgcoaaGreat.NatW.frz_beq]; generalize Go.Proofs.YgcoaaGreat.NatW.frzB _ = x__) | (rewrite [Go.Proofs.YgcoaaGreat.NatW.frz_not]; generalize Go.Proofs.YgcoaaGreat.NatW.frzB _ = x__) | (rewrite [Go.Proofs.YgcoaaGreat.NatW.frz_and]; generalize Go.Proofs.YgcoaaGreat.NatW.frzB _ = x__) | (rewrite [Go.Proofs.YgcoaaGreat.NatW.frz_or]; generalize Go.Proofs.YgcoaaGreat.NatW.frzB _ = x__)))
                    refine Go.Lax.region_calls _ 10 4 [(4, fun v => v = .pointer (some ⟨d, 0, none⟩)), (8, fun v => ∃ s : ByteArray, v = .string s ∧ s.size ≤ 4096)] (by kernel_rfl) (by kernel_rfl) (by kernel_rfl) (List.forall_mem_cons.2 ⟨⟨_, rfl⟩, List.forall_mem_cons.2 ⟨⟨_, ByteArray.empty, rfl, by decide⟩, fun _ h => by cases h⟩⟩) ?_
                    iterate 4 (refine Go.Lax.walk_det rfl rfl rfl ?_; go_big_quiet_want; go_big_quiet_op; go_big_quiet_on; refine wpQuiet_nil ?_)
                    refine Go.Lax.call_at rfl ?_ (fun y__ K__ hK__ => by (have HK__ := Go.Proofs.YgcoaaGreat.NatW.hide hK__; clear hK__; go_wp2_with fail; exact Go.Proofs.YgcoaaGreat.NatW.unhide HK__ _ _ rfl (Below.refl _ _)))
                    rintro v rfl
                    ((try dsimp only); go_big_quiet_want; go_big_quiet_op; go_big_quiet_on; refine wpQuiet_nil ?_)
                    iterate 3 (refine Go.Lax.walk_det rfl rfl rfl ?_; go_big_quiet_want; go_big_quiet_op; go_big_quiet_on; refine wpQuiet_nil ?_)
                    refine Go.Lax.call_at rfl ?_ (fun y__ K__ hK__ => by (go_wp2_with fail; refine (zeros_ret _ (by first | omega | exact (wri64 _).1 | exact (wr64i _).1) (by first | omega | exact (wri64 _).2 | exact (wr64i _).2)) _ _ ?_; intro v__ w__ hv__ hb__; have hh__ := Go.Proofs.YgcoaaGreat.NatW.hide (hK__ v__ w__ hv__ hb__); clear hK__ hv__; go_wp2_with fail; exact Eq.mp (by kernel_rfl) (Go.Proofs.YgcoaaGreat.NatW.unhide hh__)))
                    rintro v ⟨zs, rfl, hzs⟩
                    ((try dsimp only); go_big_quiet_want; go_big_quiet_op; go_big_quiet_on; refine wpQuiet_nil ?_)
                    (refine Go.Lax.walk_det rfl rfl rfl ?_; go_big_quiet_want; go_big_quiet_op; go_big_quiet_on; refine wpQuiet_nil ?_)
                    refine Go.Lax.end_at ?_
                    intro y
                    go_wp2_with fail
                    exact unhide HK _ _ (by rw [ByteArray.size_append]; omega) (unhide HRR y).bl
                · go_wp2_with fail
                  have HR2 := HR
                  obtain ⟨wb, x0, hwb, hB⟩ := boxes0 wr
                  have hr' : ∀ x : Later wb, RR w d n top sig prec x.at_ := fun x => by subst hwb; exact (unhide HR).later (hB x)
                  obtain ⟨s1, hs1, hcv1⟩ := bytes_string_all wr w.heap.size 0 (kp + 1) 1442 (fun _ => True) (fun i hi => (unhide HR).bk' 0 i (by omega)) (unhide HR).own.1
                  have hcv : ∀ x : Later wb, (convert 119 9 (.slice (some ⟨w.heap.size, 0, none⟩) ((kp + 1)) 1442)).run Oaag.prog x.at_ = .ok (.string s1) x.at_ := fun x => by subst hwb; exact hcv1 _ (hB x)
                  clear hcv1
                  subst hwb
                  have hne : Nonempty (Later wb) := ⟨x0⟩
                  have kn2 := fun x => (hr' x).ex.n_
                  have HRR := hide hr'
                  clear hr' HR HR2 kn sl3 sl4 c0 e0 en
                  with_reducible refine Go.Proofs.YgcoaaGreat.NatW.at_reg 26 ?_
                  (repeat (first | (rewrite [Go.Proofs.YgcoaaGreat.NatW.frz_ite]; generalize Go.Proofs.YgcoaaGreat.NatW.frzI _ = x__) | (rewrite [Go.Proofs.YgcoaaGreat.NatW.frz_dec]; generalize Go.Proofs.YgcoaaGreat.NatW.frzB _ = x__) | (rewrite [Go.Proofs.YgcoaaGreat.NatW.frz_beq]; generalize Go.Proofs.YgcoaaGreat.NatW.frzB _ = x__) | (rewrite [Go.Proofs.YgcoaaGreat.NatW.frz_not]; generalize Go.Proofs.YgcoaaGreat.NatW.frzB _ = x__) | (rewrite [Go.Proofs.YgcoaaGreat.NatW.frz_and]; generalize Go.Proofs.YgcoaaGreat.NatW.frzB _ = x__) | (rewrite [Go.Proofs.YgcoaaGreat.NatW.frz_or]; generalize Go.Proofs.YgcoaaGreat.NatW.frzB _ = x__)))
                  refine Go.Lax.region_calls _ 10 4 [(4, fun v => v = .pointer (some ⟨d, 0, none⟩)), (8, fun v => ∃ s : ByteArray, v = .string s ∧ s.size ≤ 4096)] (by kernel_rfl) (by kernel_rfl) (by kernel_rfl) (List.forall_mem_cons.2 ⟨⟨_, rfl⟩, List.forall_mem_cons.2 ⟨⟨_, ByteArray.empty, rfl, by decide⟩, fun _ h => by cases h⟩⟩) ?_
                  iterate 4 (refine Go.Lax.walk_det rfl rfl rfl ?_; go_big_quiet_want; go_big_quiet_op; go_big_quiet_on; refine wpQuiet_nil ?_)
                  refine Go.Lax.call_at rfl ?_ (fun y__ K__ hK__ => by (have HK__ := Go.Proofs.YgcoaaGreat.NatW.hide hK__; clear hK__; go_wp2_with fail; exact Go.Proofs.YgcoaaGreat.NatW.unhide HK__ _ _ rfl (Below.refl _ _)))
                  rintro v rfl
                  ((try dsimp only); go_big_quiet_want; go_big_quiet_op; go_big_quiet_on; refine wpQuiet_nil ?_)
                  iterate 3 (refine Go.Lax.walk_det rfl rfl rfl ?_; go_big_quiet_want; go_big_quiet_op; go_big_quiet_on; refine wpQuiet_nil ?_)
                  refine Go.Lax.call_at rfl ?_ (fun y__ K__ hK__ => by (go_wp2_with fail; refine (zeros_ret _ (by first | omega | exact (wri64 _).1 | exact (wr64i _).1) (by first | omega | exact (wri64 _).2 | exact (wr64i _).2)) _ _ ?_; intro v__ w__ hv__ hb__; have hh__ := Go.Proofs.YgcoaaGreat.NatW.hide (hK__ v__ w__ hv__ hb__); clear hK__ hv__; go_wp2_with fail; exact Eq.mp (by kernel_rfl) (Go.Proofs.YgcoaaGreat.NatW.unhide hh__)))
                  rintro v ⟨zs, rfl, hzs⟩
                  ((try dsimp only); go_big_quiet_want; go_big_quiet_op; go_big_quiet_on; refine wpQuiet_nil ?_)
                  (refine Go.Lax.walk_det rfl rfl rfl ?_; go_big_quiet_want; go_big_quiet_op; go_big_quiet_on; refine wpQuiet_nil ?_)
                  refine Go.Lax.end_at ?_
                  intro y
                  go_wp2_with fail
                  exact unhide HK _ _ (by rw [ByteArray.size_append]; omega) (unhide HRR y).bl
              · rcases Nat.eq_zero_or_pos j with hj0 | hj0
                · subst hj0
                  obtain ⟨v0, c0, -⟩ := hr.bk.cell 0 (by omega)
                  have kn := hr.ex.n_
                  have sl3 := slice_arr_lh 379 5 1442 NatW.u379 NatW.s5 w.heap.size 1 (kp + 1) 1 ((kp : Int) + 1) rfl (by omega) (by omega) (by omega) (by omega)
                  have sl4 := slice_arr_h 379 5 1442 NatW.u379 NatW.s5 w.heap.size (kp + 1) ((kp : Int) + 1) (by omega) (by omega)
                  have HR := hide hr
                  clear hr
                  obtain ⟨bq, e0⟩ : ∃ bq, (v0 != 48) = bq := ⟨_, rfl⟩
                  obtain ⟨bn, en⟩ : ∃ bn, ((kp : Int) == 0) = bn := ⟨_, rfl⟩
                  cases bq
                  · cases bn
                    · go_wp2_with fail
                      have HR2 := HR
                      obtain ⟨wb, x0, hwb, hB⟩ := boxes0 wr
                      have hr' : ∀ x : Later wb, RR w d n top sig prec x.at_ := fun x => by subst hwb; exact (unhide HR).later (hB x)
                      obtain ⟨s1, hs1, hcv1⟩ := bytes_string_all wr w.heap.size 1 kp 1441 (fun _ => True) (fun i hi => (unhide HR).bk' 1 i (by omega)) (unhide HR).own.1
                      have hcv : ∀ x : Later wb, (convert 119 9 (.slice (some ⟨w.heap.size, 1, none⟩) (kp) 1441)).run Oaag.prog x.at_ = .ok (.string s1) x.at_ := fun x => by subst hwb; exact hcv1 _ (hB x)
                      clear hcv1
                      subst hwb
                      have hne : Nonempty (Later wb) := ⟨x0⟩
                      have kn2 := fun x => (hr' x).ex.n_
                      have HRR := hide hr'
                      clear hr' HR HR2 kn sl3 sl4 c0 e0 en
                      with_reducible refine Go.Proofs.YgcoaaGreat.NatW.at_reg 26 ?_
                      (repeat (first | (rewrite [Go.Proofs.YgcoaaGreat.NatW.frz_ite]; generalize Go.Proofs.YgcoaaGreat.NatW.frzI _ = x__) | (rewrite [Go.Proofs.YgcoaaGreat.NatW.frz_dec]; generalize Go.Proofs.YgcoaaGreat.NatW.frzB _ = x__) | (rewrite [Go.Proofs.YgcoaaGreat.NatW.frz_beq]; generalize Go.Proofs.YgcoaaGreat.NatW.frzB _ = x__) | (rewrite [Go.Proofs.YgcoaaGreat.NatW.frz_not]; generalize Go.Proofs.YgcoaaGreat.NatW.frzB _ = x__) | (rewrite [Go.Proofs.YgcoaaGreat.NatW.frz_and]; generalize Go.Proofs.YgcoaaGreat.NatW.frzB _ = x__) | (rewrite [Go.Proofs.YgcoaaGreat.NatW.frz_or]; generalize Go.Proofs.YgcoaaGreat.NatW.frzB _ = x__)))
                      refine Go.Lax.region_calls _ 10 4 [(4, fun v => v = .pointer (some ⟨d, 0, none⟩)), (8, fun v => ∃ s : ByteArray, v = .string s ∧ s.size ≤ 4096)] (by kernel_rfl) (by kernel_rfl) (by kernel_rfl) (List.forall_mem_cons.2 ⟨⟨_, rfl⟩, List.forall_mem_cons.2 ⟨⟨_, ByteArray.empty, rfl, by decide⟩, fun _ h => by cases h⟩⟩) ?_
                      iterate 4 (refine Go.Lax.walk_det rfl rfl rfl ?_; go_big_quiet_want; go_big_quiet_op; go_big_quiet_on; refine wpQuiet_nil ?_)
                      refine Go.Lax.call_at rfl ?_ (fun y__ K__ hK__ => by (have HK__ := Go.Proofs.YgcoaaGreat.NatW.hide hK__; clear hK__; go_wp2_with fail; exact Go.Proofs.YgcoaaGreat.NatW.unhide HK__ _ _ rfl (Below.refl _ _)))
                      rintro v rfl
                      ((try dsimp only); go_big_quiet_want; go_big_quiet_op; go_big_quiet_on; refine wpQuiet_nil ?_)
                      iterate 3 (refine Go.Lax.walk_det rfl rfl rfl ?_; go_big_quiet_want; go_big_quiet_op; go_big_quiet_on; refine wpQuiet_nil ?_)
                      refine Go.Lax.call_at rfl ?_ (fun y__ K__ hK__ => by (go_wp2_with fail; refine (zeros_ret _ (by first | omega | exact (wri64 _).1 | exact (wr64i _).1) (by first | omega | exact (wri64 _).2 | exact (wr64i _).2)) _ _ ?_; intro v__ w__ hv__ hb__; have hh__ := Go.Proofs.YgcoaaGreat.NatW.hide (hK__ v__ w__ hv__ hb__); clear hK__ hv__; go_wp2_with fail; exact Eq.mp (by kernel_rfl) (Go.Proofs.YgcoaaGreat.NatW.unhide hh__)))
                      rintro v ⟨zs, rfl, hzs⟩
                      ((try dsimp only); go_big_quiet_want; go_big_quiet_op; go_big_quiet_on; refine wpQuiet_nil ?_)
                      (refine Go.Lax.walk_det rfl rfl rfl ?_; go_big_quiet_want; go_big_quiet_op; go_big_quiet_on; refine wpQuiet_nil ?_)
                      refine Go.Lax.end_at ?_
                      intro y
                      go_wp2_with fail
                      exact unhide HK _ _ (by rw [ByteArray.size_append]; omega) (unhide HRR y).bl
                    · go_wp2_with fail
                      have HR2 := HR
                      obtain ⟨wb, x0, hwb, hB⟩ := boxes0 wr
                      have hr' : ∀ x : Later wb, RR w d n top sig prec x.at_ := fun x => by subst hwb; exact (unhide HR).later (hB x)
                      obtain ⟨s1, hs1, hcv1⟩ := bytes_string_all wr w.heap.size 0 (kp + 1) 1442 (fun _ => True) (fun i hi => (unhide HR).bk' 0 i (by omega)) (unhide HR).own.1
                      have hcv : ∀ x : Later wb, (convert 119 9 (.slice (some ⟨w.heap.size, 0, none⟩) ((kp + 1)) 1442)).run Oaag.prog x.at_ = .ok (.string s1) x.at_ := fun x => by subst hwb; exact hcv1 _ (hB x)
                      clear hcv1
                      subst hwb
                      have hne : Nonempty (Later wb) := ⟨x0⟩
                      have kn2 := fun x => (hr' x).ex.n_
                      have HRR := hide hr'
                      clear hr' HR HR2 kn sl3 sl4 c0 e0 en
                      with_reducible refine Go.Proofs.YgcoaaGreat.NatW.at_reg 26 ?_
                      (repeat (first | (rewrite [Go.Proofs.YgcoaaGreat.NatW.frz_ite]; generalize Go.Proofs.YgcoaaGreat.NatW.frzI _ = x__) | (rewrite [Go.Proofs.YgcoaaGreat.NatW.frz_dec]; generalize Go.Proofs.YgcoaaGreat.NatW.frzB _ = x__) | (rewrite [Go.Proofs.YgcoaaGreat.NatW.frz_beq]; generalize Go.Proofs.YgcoaaGreat.NatW.frzB _ = x__) | (rewrite [Go.Proofs.YgcoaaGreat.NatW.frz_not]; generalize Go.Proofs.YgcoaaGreat.NatW.frzB _ = x__) | (rewrite [Go.Proofs.YgcoaaGreat.NatW.frz_and]; generalize Go.Proofs.YgcoaaGreat.NatW.frzB _ = x__) | (rewrite [Go.Proofs.YgcoaaGreat.NatW.frz_or]; generalize Go.Proofs.YgcoaaGreat.NatW.frzB _ = x__)))
                      refine Go.Lax.region_calls _ 10 4 [(4, fun v => v = .pointer (some ⟨d, 0, none⟩)), (8, fun v => ∃ s : ByteArray, v = .string s ∧ s.size ≤ 4096)] (by kernel_rfl) (by kernel_rfl) (by kernel_rfl) (List.forall_mem_cons.2 ⟨⟨_, rfl⟩, List.forall_mem_cons.2 ⟨⟨_, ByteArray.empty, rfl, by decide⟩, fun _ h => by cases h⟩⟩) ?_
                      iterate 4 (refine Go.Lax.walk_det rfl rfl rfl ?_; go_big_quiet_want; go_big_quiet_op; go_big_quiet_on; refine wpQuiet_nil ?_)
                      refine Go.Lax.call_at rfl ?_ (fun y__ K__ hK__ => by (have HK__ := Go.Proofs.YgcoaaGreat.NatW.hide hK__; clear hK__; go_wp2_with fail; exact Go.Proofs.YgcoaaGreat.NatW.unhide HK__ _ _ rfl (Below.refl _ _)))
                      rintro v rfl
                      ((try dsimp only); go_big_quiet_want; go_big_quiet_op; go_big_quiet_on; refine wpQuiet_nil ?_)
                      iterate 3 (refine Go.Lax.walk_det rfl rfl rfl ?_; go_big_quiet_want; go_big_quiet_op; go_big_quiet_on; refine wpQuiet_nil ?_)
                      refine Go.Lax.call_at rfl ?_ (fun y__ K__ hK__ => by (go_wp2_with fail; refine (zeros_ret _ (by first | omega | exact (wri64 _).1 | exact (wr64i _).1) (by first | omega | exact (wri64 _).2 | exact (wr64i _).2)) _ _ ?_; intro v__ w__ hv__ hb__; have hh__ := Go.Proofs.YgcoaaGreat.NatW.hide (hK__ v__ w__ hv__ hb__); clear hK__ hv__; go_wp2_with fail; exact Eq.mp (by kernel_rfl) (Go.Proofs.YgcoaaGreat.NatW.unhide hh__)))
                      rintro v ⟨zs, rfl, hzs⟩
                      ((try dsimp only); go_big_quiet_want; go_big_quiet_op; go_big_quiet_on; refine wpQuiet_nil ?_)
                      (refine Go.Lax.walk_det rfl rfl rfl ?_; go_big_quiet_want; go_big_quiet_op; go_big_quiet_on; refine wpQuiet_nil ?_)
                      refine Go.Lax.end_at ?_
                      intro y
                      go_wp2_with fail
                      exact unhide HK _ _ (by rw [ByteArray.size_append]; omega) (unhide HRR y).bl
                  · go_wp2_with fail
                    have HR2 := HR
                    obtain ⟨wb, x0, hwb, hB⟩ := boxes0 wr
                    have hr' : ∀ x : Later wb, RR w d n top sig prec x.at_ := fun x => by subst hwb; exact (unhide HR).later (hB x)
                    obtain ⟨s1, hs1, hcv1⟩ := bytes_string_all wr w.heap.size 0 (kp + 1) 1442 (fun _ => True) (fun i hi => (unhide HR).bk' 0 i (by omega)) (unhide HR).own.1
                    have hcv : ∀ x : Later wb, (convert 119 9 (.slice (some ⟨w.heap.size, 0, none⟩) ((kp + 1)) 1442)).run Oaag.prog x.at_ = .ok (.string s1) x.at_ := fun x => by subst hwb; exact hcv1 _ (hB x)
                    clear hcv1
                    subst hwb
                    have hne : Nonempty (Later wb) := ⟨x0⟩
                    have kn2 := fun x => (hr' x).ex.n_
                    have HRR := hide hr'
                    clear hr' HR HR2 kn sl3 sl4 c0 e0 en
                    with_reducible refine Go.Proofs.YgcoaaGreat.NatW.at_reg 26 ?_
                    (repeat (first | (rewrite [Go.Proofs.YgcoaaGreat.NatW.frz_ite]; generalize Go.Proofs.YgcoaaGreat.NatW.frzI _ = x__) | (rewrite [Go.Proofs.YgcoaaGreat.NatW.frz_dec]; generalize Go.Proofs.YgcoaaGreat.NatW.frzB _ = x__) | (rewrite [Go.Proofs.YgcoaaGreat.NatW.frz_beq]; generalize Go.Proofs.YgcoaaGreat.NatW.frzB _ = x__) | (rewrite [Go.Proofs.YgcoaaGreat.NatW.frz_not]; generalize Go.Proofs.YgcoaaGreat.NatW.frzB _ = x__) | (rewrite [Go.Proofs.YgcoaaGreat.NatW.frz_and]; generalize Go.Proofs.YgcoaaGreat.NatW.frzB _ = x__) | (rewrite [Go.Proofs.YgcoaaGreat.NatW.frz_or]; generalize Go.Proofs.YgcoaaGreat.NatW.frzB _ = x__)))
                    refine Go.Lax.region_calls _ 10 4 [(4, fun v => v = .pointer (some ⟨d, 0, none⟩)), (8, fun v => ∃ s : ByteArray, v = .string s ∧ s.size ≤ 4096)] (by kernel_rfl) (by kernel_rfl) (by kernel_rfl) (List.forall_mem_cons.2 ⟨⟨_, rfl⟩, List.forall_mem_cons.2 ⟨⟨_, ByteArray.empty, rfl, by decide⟩, fun _ h => by cases h⟩⟩) ?_
                    iterate 4 (refine Go.Lax.walk_det rfl rfl rfl ?_; go_big_quiet_want; go_big_quiet_op; go_big_quiet_on; refine wpQuiet_nil ?_)
                    refine Go.Lax.call_at rfl ?_ (fun y__ K__ hK__ => by (have HK__ := Go.Proofs.YgcoaaGreat.NatW.hide hK__; clear hK__; go_wp2_with fail; exact Go.Proofs.YgcoaaGreat.NatW.unhide HK__ _ _ rfl (Below.refl _ _)))
                    rintro v rfl
                    ((try dsimp only); go_big_quiet_want; go_big_quiet_op; go_big_quiet_on; refine wpQuiet_nil ?_)
                    iterate 3 (refine Go.Lax.walk_det rfl rfl rfl ?_; go_big_quiet_want; go_big_quiet_op; go_big_quiet_on; refine wpQuiet_nil ?_)
                    refine Go.Lax.call_at rfl ?_ (fun y__ K__ hK__ => by (go_wp2_with fail; refine (zeros_ret _ (by first | omega | exact (wri64 _).1 | exact (wr64i _).1) (by first | omega | exact (wri64 _).2 | exact (wr64i _).2)) _ _ ?_; intro v__ w__ hv__ hb__; have hh__ := Go.Proofs.YgcoaaGreat.NatW.hide (hK__ v__ w__ hv__ hb__); clear hK__ hv__; go_wp2_with fail; exact Eq.mp (by kernel_rfl) (Go.Proofs.YgcoaaGreat.NatW.unhide hh__)))
                    rintro v ⟨zs, rfl, hzs⟩
                    ((try dsimp only); go_big_quiet_want; go_big_quiet_op; go_big_quiet_on; refine wpQuiet_nil ?_)
                    (refine Go.Lax.walk_det rfl rfl rfl ?_; go_big_quiet_want; go_big_quiet_op; go_big_quiet_on; refine wpQuiet_nil ?_)
                    refine Go.Lax.end_at ?_
                    intro y
                    go_wp2_with fail
                    exact unhide HK _ _ (by rw [ByteArray.size_append]; omega) (unhide HRR y).bl
                · obtain ⟨q, rfl⟩ : ∃ q, j = q + 1 := ⟨j - 1, by omega⟩
                  obtain ⟨vq, kq, -⟩ := hr.bk.cell q (by omega)
                  have fq := hr.own.2 q
                  have HR := hide hr
                  clear hr
                  by_cases hv9 : vq = 57
                  · have e9 : (vq != 57) = false := by simp [hv9]
                    clear hv9
                    go_wp2_with fail
                    exact ⟨⟨_, q, rfl, congrArg (Value.int .i64) (by omega), by omega, (unhide HR).set _ _⟩, by simp [intOf]; try omega⟩
                  · have e9 : (vq != 57) = true := by simp [hv9]
                    clear hv9
                    go_wp2_with fail
                    exact ⟨⟨_, q, rfl, congrArg (Value.int .i64) (by omega), by omega, (unhide HR).set _ _⟩, by simp [intOf]; try omega⟩
    · have hc3 : kp = n := by omega
      subst hc3
      go_wp2_with fail
      ((first | with_reducible refine Go.Proofs.YgcoaaGreat.NatW.gen_calls ?_ | with_reducible refine Go.Proofs.YgcoaaGreat.NatW.gen_wp ?_ | with_reducible refine Go.Proofs.YgcoaaGreat.NatW.gen_list ?_ | with_reducible refine Go.Proofs.YgcoaaGreat.NatW.gen_body ?_); intro W hW)
      have hrrW : RR w d kp top sig prec W := by rw [← hW]; exact unhide HR
      clear hW HR kn c0 f0
      obtain ⟨wb, x0, hwb, hB⟩ := boxes0 W
      have hr' : ∀ x : Later wb, RR w d kp top sig prec x.at_ := fun x => by subst hwb; exact hrrW.later (hB x)
      subst hwb
      clear hrrW
      have hne : Nonempty (Later wb) := ⟨x0⟩
      have sl1 : ∀ x : Later wb, (Instr.sliceAt 379 (.pointer (some ⟨w.heap.size, 0, none⟩)) (some (.int .i64 1)) none none).run Oaag.prog x.at_ = .ok (.slice (some ⟨w.heap.size, 1, none⟩) 1441 1441) x.at_ := fun x => slice_arr_l 379 5 1442 NatW.u379 NatW.s5 w.heap.size 1 1 rfl (by omega) _
      have sl2 : ∀ x : Later wb, (Instr.sliceAt 298 (.pointer (some ⟨d, 0, none⟩)) none (some (.int .i64 kp)) none).run Oaag.prog x.at_ = .ok (.slice (some ⟨d, 0, none⟩) kp 1441) x.at_ := fun x => slice_arr_h 298 5 1441 NatW.u298 NatW.s5 d kp kp rfl (by omega) _
      have HRR := hide hr'
      clear hr'
      with_reducible refine Go.Proofs.YgcoaaGreat.NatW.at_reg 6 ?_
      (repeat (first | (rewrite [Go.Proofs.YgcoaaGreat.NatW.frz_ite]; generalize Go.Proofs.YgcoaaGreat.NatW.frzI _ = x__) | (rewrite [Go.Proofs.YgcoaaGreat.NatW.frz_dec]; generalize Go.Proofs.YgcoaaGreat.NatW.frzB _ = x__) | (rewrite [Go.Proofs.YgcoaaGreat.NatW.frz_beq]; generalize Go.Proofs.YgcoaaGreat.NatW.frzB _ = x__) | (rewrite [Go.Proofs.YgcoaaGreat.NatW.frz_not]; generalize Go.Proofs.YgcoaaGreat.NatW.frzB _ = x__) | (rewrite [Go.Proofs.YgcoaaGreat.NatW.frz_and]; generalize Go.Proofs.YgcoaaGreat.NatW.frzB _ = x__) | (rewrite [Go.Proofs.YgcoaaGreat.NatW.frz_or]; generalize Go.Proofs.YgcoaaGreat.NatW.frzB _ = x__)))
      (refine region_then _ 6 4 (by kernel_rfl) (by kernel_rfl) (by kernel_rfl) ?_; simp only [List.take, List.drop]; (repeat (first | go_big_quiet_skip | (go_big_quiet_want; go_big_quiet_op; go_big_quiet_on))); refine wpQuiet_nil ?_)
      intro y
      refine wpList_cpB (unhide HRR y) rfl _ _ rfl kp (by omega) rfl rfl ?_
      intro w5 hr5
      have kn := hr5.ex.n_
      have HR := hide hr5
      clear hr5 sl1 sl2 HRR
      go_wp2_with fail
      go_loopw [7, 11] (RndU w d kp top sig prec kp) (fun _ t11 _ => (intOf t11 + 1).toNat)
      case atStart => exact ⟨_, kp + 1, rfl, by simp, by omega, unhide HR⟩
      case round =>
        clear HR
        obtain ⟨b, j, rfl, rfl, hj, hr⟩ := hrel
        cases b
        · obtain ⟨v0, c0, -⟩ := hr.bk.cell 0 (by omega)
          have kn := hr.ex.n_
          have sl3 := slice_arr_lh 379 5 1442 NatW.u379 NatW.s5 w.heap.size 1 (kp + 1) 1 ((kp : Int) + 1) rfl (by omega) (by omega) (by omega) (by omega)
          have sl4 := slice_arr_h 379 5 1442 NatW.u379 NatW.s5 w.heap.size (kp + 1) ((kp : Int) + 1) (by omega) (by omega)
          have HR := hide hr
          clear hr
          obtain ⟨bq, e0⟩ : ∃ bq, (v0 != 48) = bq := ⟨_, rfl⟩
          obtain ⟨bn, en⟩ : ∃ bn, ((kp : Int) == 0) = bn := ⟨_, rfl⟩
          cases bq
          · cases bn
            · go_wp2_with fail
              have HR2 := HR
              obtain ⟨wb, x0, hwb, hB⟩ := boxes0 wr
              have hr' : ∀ x : Later wb, RR w d kp top sig prec x.at_ := fun x => by subst hwb; exact (unhide HR).later (hB x)
              obtain ⟨s1, hs1, hcv1⟩ := bytes_string_all wr w.heap.size 1 kp 1441 (fun _ => True) (fun i hi => (unhide HR).bk' 1 i (by omega)) (unhide HR).own.1
              have hcv : ∀ x : Later wb, (convert 119 9 (.slice (some ⟨w.heap.size, 1, none⟩) (kp) 1441)).run Oaag.prog x.at_ = .ok (.string s1) x.at_ := fun x => by subst hwb; exact hcv1 _ (hB x)
              clear hcv1
              subst hwb
              have hne : Nonempty (Later wb) := ⟨x0⟩
              have kn2 := fun x => (hr' x).ex.n_
              have HRR := hide hr'
              clear hr' HR HR2 kn sl3 sl4 c0 e0 en
              with_reducible refine Go.Proofs.YgcoaaGreat.NatW.at_reg 26 ?_
              (repeat (first | (rewrite [Go.Proofs.YgcoaaGreat.NatW.frz_ite]; generalize Go.Proofs.YgcoaaGreat.NatW.frzI _ = x__) | (rewrite [Go.Proofs.YgcoaaGreat.NatW.frz_dec]; generalize Go.Proofs.YgcoaaGreat.NatW.frzB _ = x__) | (rewrite [Go.Proofs.YgcoaaGreat.NatW.frz_beq]; generalize Go.Proofs.YgcoaaGreat.NatW.frzB _ = x__) | (rewrite [Go.Proofs.YgcoaaGreat.NatW.frz_not]; generalize Go.Proofs.YgcoaaGreat.NatW.frzB _ = x__) | (rewrite [Go.Proofs.YgcoaaGreat.NatW.frz_and]; generalize Go.Proofs.YgcoaaGreat.NatW.frzB _ = x__) | (rewrite [Go.Proofs.YgcoaaGreat.NatW.frz_or]; generalize Go.Proofs.YgcoaaGreat.NatW.frzB _ = x__)))
              refine Go.Lax.region_calls _ 10 4 [(4, fun v => v = .pointer (some ⟨d, 0, none⟩)), (8, fun v => ∃ s : ByteArray, v = .string s ∧ s.size ≤ 4096)] (by kernel_rfl) (by kernel_rfl) (by kernel_rfl) (List.forall_mem_cons.2 ⟨⟨_, rfl⟩, List.forall_mem_cons.2 ⟨⟨_, ByteArray.empty, rfl, by decide⟩, fun _ h => by cases h⟩⟩) ?_
              iterate 4 (refine Go.Lax.walk_det rfl rfl rfl ?_; go_big_quiet_want; go_big_quiet_op; go_big_quiet_on; refine wpQuiet_nil ?_)
              refine Go.Lax.call_at rfl ?_ (fun y__ K__ hK__ => by (have HK__ := Go.Proofs.YgcoaaGreat.NatW.hide hK__; clear hK__; go_wp2_with fail; exact Go.Proofs.YgcoaaGreat.NatW.unhide HK__ _ _ rfl (Below.refl _ _)))
              rintro v rfl
              ((try dsimp only); go_big_quiet_want; go_big_quiet_op; go_big_quiet_on; refine wpQuiet_nil ?_)
              iterate 3 (refine Go.Lax.walk_det rfl rfl rfl ?_; go_big_quiet_want; go_big_quiet_op; go_big_quiet_on; refine wpQuiet_nil ?_)
              refine Go.Lax.call_at rfl ?_ (fun y__ K__ hK__ => by (go_wp2_with fail; refine (zeros_ret _ (by first | omega | exact (wri64 _).1 | exact (wr64i _).1) (by first | omega | exact (wri64 _).2 | exact (wr64i _).2)) _ _ ?_; intro v__ w__ hv__ hb__; have hh__ := Go.Proofs.YgcoaaGreat.NatW.hide (hK__ v__ w__ hv__ hb__); clear hK__ hv__; go_wp2_with fail; exact Eq.mp (by kernel_rfl) (Go.Proofs.YgcoaaGreat.NatW.unhide hh__)))
              rintro v ⟨zs, rfl, hzs⟩
              ((try dsimp only); go_big_quiet_want; go_big_quiet_op; go_big_quiet_on; refine wpQuiet_nil ?_)
              (refine Go.Lax.walk_det rfl rfl rfl ?_; go_big_quiet_want; go_big_quiet_op; go_big_quiet_on; refine wpQuiet_nil ?_)
              refine Go.Lax.end_at ?_
              intro y
              go_wp2_with fail
              exact unhide HK _ _ (by rw [ByteArray.size_append]; omega) (unhide HRR y).bl
            · go_wp2_with fail
              have HR2 := HR
              obtain ⟨wb, x0, hwb, hB⟩ := boxes0 wr
              have hr' : ∀ x : Later wb, RR w d kp top sig prec x.at_ := fun x => by subst hwb; exact (unhide HR).later (hB x)
              obtain ⟨s1, hs1, hcv1⟩ := bytes_string_all wr w.heap.size 0 (kp + 1) 1442 (fun _ => True) (fun i hi => (unhide HR).bk' 0 i (by omega)) (unhide HR).own.1
              have hcv : ∀ x : Later wb, (convert 119 9 (.slice (some ⟨w.heap.size, 0, none⟩) ((kp + 1)) 1442)).run Oaag.prog x.at_ = .ok (.string s1) x.at_ := fun x => by subst hwb; exact hcv1 _ (hB x)
              clear hcv1
              subst hwb
              have hne : Nonempty (Later wb) := ⟨x0⟩
              have kn2 := fun x => (hr' x).ex.n_
              have HRR := hide hr'
              clear hr' HR HR2 kn sl3 sl4 c0 e0 en
              with_reducible refine Go.Proofs.YgcoaaGreat.NatW.at_reg 26 ?_
              (repeat (first | (rewrite [Go.Proofs.YgcoaaGreat.NatW.frz_ite]; generalize Go.Proofs.YgcoaaGreat.NatW.frzI _ = x__) | (rewrite [Go.Proofs.YgcoaaGreat.NatW.frz_dec]; generalize Go.Proofs.YgcoaaGreat.NatW.frzB _ = x__) | (rewrite [Go.Proofs.YgcoaaGreat.NatW.frz_beq]; generalize Go.Proofs.YgcoaaGreat.NatW.frzB _ = x__) | (rewrite [Go.Proofs.YgcoaaGreat.NatW.frz_not]; generalize Go.Proofs.YgcoaaGreat.NatW.frzB _ = x__) | (rewrite [Go.Proofs.YgcoaaGreat.NatW.frz_and]; generalize Go.Proofs.YgcoaaGreat.NatW.frzB _ = x__) | (rewrite [Go.Proofs.YgcoaaGreat.NatW.frz_or]; generalize Go.Proofs.YgcoaaGreat.NatW.frzB _ = x__)))
              refine Go.Lax.region_calls _ 10 4 [(4, fun v => v = .pointer (some ⟨d, 0, none⟩)), (8, fun v => ∃ s : ByteArray, v = .string s ∧ s.size ≤ 4096)] (by kernel_rfl) (by kernel_rfl) (by kernel_rfl) (List.forall_mem_cons.2 ⟨⟨_, rfl⟩, List.forall_mem_cons.2 ⟨⟨_, ByteArray.empty, rfl, by decide⟩, fun _ h => by cases h⟩⟩) ?_
              iterate 4 (refine Go.Lax.walk_det rfl rfl rfl ?_; go_big_quiet_want; go_big_quiet_op; go_big_quiet_on; refine wpQuiet_nil ?_)
              refine Go.Lax.call_at rfl ?_ (fun y__ K__ hK__ => by (have HK__ := Go.Proofs.YgcoaaGreat.NatW.hide hK__; clear hK__; go_wp2_with fail; exact Go.Proofs.YgcoaaGreat.NatW.unhide HK__ _ _ rfl (Below.refl _ _)))
              rintro v rfl
              ((try dsimp only); go_big_quiet_want; go_big_quiet_op; go_big_quiet_on; refine wpQuiet_nil ?_)
              iterate 3 (refine Go.Lax.walk_det rfl rfl rfl ?_; go_big_quiet_want; go_big_quiet_op; go_big_quiet_on; refine wpQuiet_nil ?_)
              refine Go.Lax.call_at rfl ?_ (fun y__ K__ hK__ => by (go_wp2_with fail; refine (zeros_ret _ (by first | omega | exact (wri64 _).1 | exact (wr64i _).1) (by first | omega | exact (wri64 _).2 | exact (wr64i _).2)) _ _ ?_; intro v__ w__ hv__ hb__; have hh__ := Go.Proofs.YgcoaaGreat.NatW.hide (hK__ v__ w__ hv__ hb__); clear hK__ hv__; go_wp2_with fail; exact Eq.mp (by kernel_rfl) (Go.Proofs.YgcoaaGreat.NatW.unhide hh__)))
              rintro v ⟨zs, rfl, hzs⟩
              ((try dsimp only); go_big_quiet_want; go_big_quiet_op; go_big_quiet_on; refine wpQuiet_nil ?_)
              (refine Go.Lax.walk_det rfl rfl rfl ?_; go_big_quiet_want; go_big_quiet_op; go_big_quiet_on; refine wpQuiet_nil ?_)
              refine Go.Lax.end_at ?_
              intro y
              go_wp2_with fail
              exact unhide HK _ _ (by rw [ByteArray.size_append]; omega) (unhide HRR y).bl
          · go_wp2_with fail
            have HR2 := HR
            obtain ⟨wb, x0, hwb, hB⟩ := boxes0 wr
            have hr' : ∀ x : Later wb, RR w d kp top sig prec x.at_ := fun x => by subst hwb; exact (unhide HR).later (hB x)
            obtain ⟨s1, hs1, hcv1⟩ := bytes_string_all wr w.heap.size 0 (kp + 1) 1442 (fun _ => True) (fun i hi => (unhide HR).bk' 0 i (by omega)) (unhide HR).own.1
            have hcv : ∀ x : Later wb, (convert 119 9 (.slice (some ⟨w.heap.size, 0, none⟩) ((kp + 1)) 1442)).run Oaag.prog x.at_ = .ok (.string s1) x.at_ := fun x => by subst hwb; exact hcv1 _ (hB x)
            clear hcv1
            subst hwb
            have hne : Nonempty (Later wb) := ⟨x0⟩
            have kn2 := fun x => (hr' x).ex.n_
            have HRR := hide hr'
            clear hr' HR HR2 kn sl3 sl4 c0 e0 en
            with_reducible refine Go.Proofs.YgcoaaGreat.NatW.at_reg 26 ?_
            (repeat (first | (rewrite [Go.Proofs.YgcoaaGreat.NatW.frz_ite]; generalize Go.Proofs.YgcoaaGreat.NatW.frzI _ = x__) | (rewrite [Go.Proofs.YgcoaaGreat.NatW.frz_dec]; generalize Go.Proofs.YgcoaaGreat.NatW.frzB _ = x__) | (rewrite [Go.Proofs.YgcoaaGreat.NatW.frz_beq]; generalize Go.Proofs.YgcoaaGreat.NatW.frzB _ = x__) | (rewrite [Go.Proofs.YgcoaaGreat.NatW.frz_not]; generalize Go.Proofs.YgcoaaGreat.NatW.frzB _ = x__) | (rewrite [Go.Proofs.YgcoaaGreat.NatW.frz_and]; generalize Go.Proofs.YgcoaaGreat.NatW.frzB _ = x__) | (rewrite [Go.Proofs.YgcoaaGreat.NatW.frz_or]; generalize Go.Proofs.YgcoaaGreat.NatW.frzB _ = x__)))
            refine Go.Lax.region_calls _ 10 4 [(4, fun v => v = .pointer (some ⟨d, 0, none⟩)), (8, fun v => ∃ s : ByteArray, v = .string s ∧ s.size ≤ 4096)] (by kernel_rfl) (by kernel_rfl) (by kernel_rfl) (List.forall_mem_cons.2 ⟨⟨_, rfl⟩, List.forall_mem_cons.2 ⟨⟨_, ByteArray.empty, rfl, by decide⟩, fun _ h => by cases h⟩⟩) ?_
            iterate 4 (refine Go.Lax.walk_det rfl rfl rfl ?_; go_big_quiet_want; go_big_quiet_op; go_big_quiet_on; refine wpQuiet_nil ?_)
            refine Go.Lax.call_at rfl ?_ (fun y__ K__ hK__ => by (have HK__ := Go.Proofs.YgcoaaGreat.NatW.hide hK__; clear hK__; go_wp2_with fail; exact Go.Proofs.YgcoaaGreat.NatW.unhide HK__ _ _ rfl (Below.refl _ _)))
            rintro v rfl
            ((try dsimp only); go_big_quiet_want; go_big_quiet_op; go_big_quiet_on; refine wpQuiet_nil ?_)
            iterate 3 (refine Go.Lax.walk_det rfl rfl rfl ?_; go_big_quiet_want; go_big_quiet_op; go_big_quiet_on; refine wpQuiet_nil ?_)
            refine Go.Lax.call_at rfl ?_ (fun y__ K__ hK__ => by (go_wp2_with fail; refine (zeros_ret _ (by first | omega | exact (wri64 _).1 | exact (wr64i _).1) (by first | omega | exact (wri64 _).2 | exact (wr64i _).2)) _ _ ?_; intro v__ w__ hv__ hb__; have hh__ := Go.Proofs.YgcoaaGreat.NatW.hide (hK__ v__ w__ hv__ hb__); clear hK__ hv__; go_wp2_with fail; exact Eq.mp (by kernel_rfl) (Go.Proofs.YgcoaaGreat.NatW.unhide hh__)))
            rintro v ⟨zs, rfl, hzs⟩
            ((try dsimp only); go_big_quiet_want; go_big_quiet_op; go_big_quiet_on; refine wpQuiet_nil ?_)
            (refine Go.Lax.walk_det rfl rfl rfl ?_; go_big_quiet_want; go_big_quiet_op; go_big_quiet_on; refine wpQuiet_nil ?_)
            refine Go.Lax.end_at ?_
            intro y
            go_wp2_with fail
            exact unhide HK _ _ (by rw [ByteArray.size_append]; omega) (unhide HRR y).bl
        · rcases Nat.eq_zero_or_pos j with hj0 | hj0
          · subst hj0
            obtain ⟨v0, c0, -⟩ := hr.bk.cell 0 (by omega)
            have kn := hr.ex.n_
            have sl3 := slice_arr_lh 379 5 1442 NatW.u379 NatW.s5 w.heap.size 1 (kp + 1) 1 ((kp : Int) + 1) rfl (by omega) (by omega) (by omega) (by omega)
            have sl4 := slice_arr_h 379 5 1442 NatW.u379 NatW.s5 w.heap.size (kp + 1) ((kp : Int) + 1) (by omega) (by omega)
            have HR := hide hr
            clear hr
            obtain ⟨bq, e0⟩ : ∃ bq, (v0 != 48) = bq := ⟨_, rfl⟩
            obtain ⟨bn, en⟩ : ∃ bn, ((kp : Int) == 0) = bn := ⟨_, rfl⟩
            cases bq
            · cases bn
              · go_wp2_with fail
                have HR2 := HR
                obtain ⟨wb, x0, hwb, hB⟩ := boxes0 wr
                have hr' : ∀ x : Later wb, RR w d kp top sig prec x.at_ := fun x => by subst hwb; exact (unhide HR).later (hB x)
                obtain ⟨s1, hs1, hcv1⟩ := bytes_string_all wr w.heap.size 1 kp 1441 (fun _ => True) (fun i hi => (unhide HR).bk' 1 i (by omega)) (unhide HR).own.1
                have hcv : ∀ x : Later wb, (convert 119 9 (.slice (some ⟨w.heap.size, 1, none⟩) (kp) 1441)).run Oaag.prog x.at_ = .ok (.string s1) x.at_ := fun x => by subst hwb; exact hcv1 _ (hB x)
                clear hcv1
                subst hwb
                have hne : Nonempty (Later wb) := ⟨x0⟩
                have kn2 := fun x => (hr' x).ex.n_
                have HRR := hide hr'
                clear hr' HR HR2 kn sl3 sl4 c0 e0 en
                with_reducible refine Go.Proofs.YgcoaaGreat.NatW.at_reg 26 ?_
                (repeat (first | (rewrite [Go.Proofs.YgcoaaGreat.NatW.frz_ite]; generalize Go.Proofs.YgcoaaGreat.NatW.frzI _ = x__) | (rewrite [Go.Proofs.YgcoaaGreat.NatW.frz_dec]; generalize Go.Proofs.YgcoaaGreat.NatW.frzB _ = x__) | (rewrite [Go.Proofs.YgcoaaGreat.NatW.frz_beq]; generalize Go.Proofs.YgcoaaGreat.NatW.frzB _ = x__) | (rewrite [Go.Proofs.YgcoaaGreat.NatW.frz_not]; generalize Go.Proofs.YgcoaaGreat.NatW.frzB _ = x__) | (rewrite [Go.Proofs.YgcoaaGreat.NatW.frz_and]; generalize Go.Proofs.YgcoaaGreat.NatW.frzB _ = x__) | (rewrite [Go.Proofs.YgcoaaGreat.NatW.frz_or]; generalize Go.Proofs.YgcoaaGreat.NatW.frzB _ = x__)))
                refine Go.Lax.region_calls _ 10 4 [(4, fun v => v = .pointer (some ⟨d, 0, none⟩)), (8, fun v => ∃ s : ByteArray, v = .string s ∧ s.size ≤ 4096)] (by kernel_rfl) (by kernel_rfl) (by kernel_rfl) (List.forall_mem_cons.2 ⟨⟨_, rfl⟩, List.forall_mem_cons.2 ⟨⟨_, ByteArray.empty, rfl, by decide⟩, fun _ h => by cases h⟩⟩) ?_
                iterate 4 (refine Go.Lax.walk_det rfl rfl rfl ?_; go_big_quiet_want; go_big_quiet_op; go_big_quiet_on; refine wpQuiet_nil ?_)
                refine Go.Lax.call_at rfl ?_ (fun y__ K__ hK__ => by (have HK__ := Go.Proofs.YgcoaaGreat.NatW.hide hK__; clear hK__; go_wp2_with fail; exact Go.Proofs.YgcoaaGreat.NatW.unhide HK__ _ _ rfl (Below.refl _ _)))
                rintro v rfl
                ((try dsimp only); go_big_quiet_want; go_big_quiet_op; go_big_quiet_on; refine wpQuiet_nil ?_)
                iterate 3 (refine Go.Lax.walk_det rfl rfl rfl ?_; go_big_quiet_want; go_big_quiet_op; go_big_quiet_on; refine wpQuiet_nil ?_)
                refine Go.Lax.call_at rfl ?_ (fun y__ K__ hK__ => by (go_wp2_with fail; refine (zeros_ret _ (by first | omega | exact (wri64 _).1 | exact (wr64i _).1) (by first | omega | exact (wri64 _).2 | exact (wr64i _).2)) _ _ ?_; intro v__ w__ hv__ hb__; have hh__ := Go.Proofs.YgcoaaGreat.NatW.hide (hK__ v__ w__ hv__ hb__); clear hK__ hv__; go_wp2_with fail; exact Eq.mp (by kernel_rfl) (Go.Proofs.YgcoaaGreat.NatW.unhide hh__)))
                rintro v ⟨zs, rfl, hzs⟩
                ((try dsimp only); go_big_quiet_want; go_big_quiet_op; go_big_quiet_on; refine wpQuiet_nil ?_)
                (refine Go.Lax.walk_det rfl rfl rfl ?_; go_big_quiet_want; go_big_quiet_op; go_big_quiet_on; refine wpQuiet_nil ?_)
                refine Go.Lax.end_at ?_
                intro y
                go_wp2_with fail
                exact unhide HK _ _ (by rw [ByteArray.size_append]; omega) (unhide HRR y).bl
              · go_wp2_with fail
                have HR2 := HR
                obtain ⟨wb, x0, hwb, hB⟩ := boxes0 wr
                have hr' : ∀ x : Later wb, RR w d kp top sig prec x.at_ := fun x => by subst hwb; exact (unhide HR).later (hB x)
                obtain ⟨s1, hs1, hcv1⟩ := bytes_string_all wr w.heap.size 0 (kp + 1) 1442 (fun _ => True) (fun i hi => (unhide HR).bk' 0 i (by omega)) (unhide HR).own.1
                have hcv : ∀ x : Later wb, (convert 119 9 (.slice (some ⟨w.heap.size, 0, none⟩) ((kp + 1)) 1442)).run Oaag.prog x.at_ = .ok (.string s1) x.at_ := fun x => by subst hwb; exact hcv1 _ (hB x)
                clear hcv1
                subst hwb
                have hne : Nonempty (Later wb) := ⟨x0⟩
                have kn2 := fun x => (hr' x).ex.n_
                have HRR := hide hr'
                clear hr' HR HR2 kn sl3 sl4 c0 e0 en
                with_reducible refine Go.Proofs.YgcoaaGreat.NatW.at_reg 26 ?_
                (repeat (first | (rewrite [Go.Proofs.YgcoaaGreat.NatW.frz_ite]; generalize Go.Proofs.YgcoaaGreat.NatW.frzI _ = x__) | (rewrite [Go.Proofs.YgcoaaGreat.NatW.frz_dec]; generalize Go.Proofs.YgcoaaGreat.NatW.frzB _ = x__) | (rewrite [Go.Proofs.YgcoaaGreat.NatW.frz_beq]; generalize Go.Proofs.YgcoaaGreat.NatW.frzB _ = x__) | (rewrite [Go.Proofs.YgcoaaGreat.NatW.frz_not]; generalize Go.Proofs.YgcoaaGreat.NatW.frzB _ = x__) | (rewrite [Go.Proofs.YgcoaaGreat.NatW.frz_and]; generalize Go.Proofs.YgcoaaGreat.NatW.frzB _ = x__) | (rewrite [Go.Proofs.YgcoaaGreat.NatW.frz_or]; generalize Go.Proofs.YgcoaaGreat.NatW.frzB _ = x__)))
                refine Go.Lax.region_calls _ 10 4 [(4, fun v => v = .pointer (some ⟨d, 0, none⟩)), (8, fun v => ∃ s : ByteArray, v = .string s ∧ s.size ≤ 4096)] (by kernel_rfl) (by kernel_rfl) (by kernel_rfl) (List.forall_mem_cons.2 ⟨⟨_, rfl⟩, List.forall_mem_cons.2 ⟨⟨_, ByteArray.empty, rfl, by decide⟩, fun _ h => by cases h⟩⟩) ?_
                iterate 4 (refine Go.Lax.walk_det rfl rfl rfl ?_; go_big_quiet_want; go_big_quiet_op; go_big_quiet_on; refine wpQuiet_nil ?_)
                refine Go.Lax.call_at rfl ?_ (fun y__ K__ hK__ => by (have HK__ := Go.Proofs.YgcoaaGreat.NatW.hide hK__; clear hK__; go_wp2_with fail; exact Go.Proofs.YgcoaaGreat.NatW.unhide HK__ _ _ rfl (Below.refl _ _)))
                rintro v rfl
                ((try dsimp only); go_big_quiet_want; go_big_quiet_op; go_big_quiet_on; refine wpQuiet_nil ?_)
                iterate 3 (refine Go.Lax.walk_det rfl rfl rfl ?_; go_big_quiet_want; go_big_quiet_op; go_big_quiet_on; refine wpQuiet_nil ?_)
                refine Go.Lax.call_at rfl ?_ (fun y__ K__ hK__ => by (go_wp2_with fail; refine (zeros_ret _ (by first | omega | exact (wri64 _).1 | exact (wr64i _).1) (by first | omega | exact (wri64 _).2 | exact (wr64i _).2)) _ _ ?_; intro v__ w__ hv__ hb__; have hh__ := Go.Proofs.YgcoaaGreat.NatW.hide (hK__ v__ w__ hv__ hb__); clear hK__ hv__; go_wp2_with fail; exact Eq.mp (by kernel_rfl) (Go.Proofs.YgcoaaGreat.NatW.unhide hh__)))
                rintro v ⟨zs, rfl, hzs⟩
                ((try dsimp only); go_big_quiet_want; go_big_quiet_op; go_big_quiet_on; refine wpQuiet_nil ?_)
                (refine Go.Lax.walk_det rfl rfl rfl ?_; go_big_quiet_want; go_big_quiet_op; go_big_quiet_on; refine wpQuiet_nil ?_)
                refine Go.Lax.end_at ?_
                intro y
                go_wp2_with fail
                exact unhide HK _ _ (by rw [ByteArray.size_append]; omega) (unhide HRR y).bl
            · go_wp2_with fail
              have HR2 := HR
              obtain ⟨wb, x0, hwb, hB⟩ := boxes0 wr
              have hr' : ∀ x : Later wb, RR w d kp top sig prec x.at_ := fun x => by subst hwb; exact (unhide HR).later (hB x)
              obtain ⟨s1, hs1, hcv1⟩ := bytes_string_all wr w.heap.size 0 (kp + 1) 1442 (fun _ => True) (fun i hi => (unhide HR).bk' 0 i (by omega)) (unhide HR).own.1
              have hcv : ∀ x : Later wb, (convert 119 9 (.slice (some ⟨w.heap.size, 0, none⟩) ((kp + 1)) 1442)).run Oaag.prog x.at_ = .ok (.string s1) x.at_ := fun x => by subst hwb; exact hcv1 _ (hB x)
              clear hcv1
              subst hwb
              have hne : Nonempty (Later wb) := ⟨x0⟩
              have kn2 := fun x => (hr' x).ex.n_
              have HRR := hide hr'
              clear hr' HR HR2 kn sl3 sl4 c0 e0 en
              with_reducible refine Go.Proofs.YgcoaaGreat.NatW.at_reg 26 ?_
              (repeat (first | (rewrite [Go.Proofs.YgcoaaGreat.NatW.frz_ite]; generalize Go.Proofs.YgcoaaGreat.NatW.frzI _ = x__) | (rewrite [Go.Proofs.YgcoaaGreat.NatW.frz_dec]; generalize Go.Proofs.YgcoaaGreat.NatW.frzB _ = x__) | (rewrite [Go.Proofs.YgcoaaGreat.NatW.frz_beq]; generalize Go.Proofs.YgcoaaGreat.NatW.frzB _ = x__) | (rewrite [Go.Proofs.YgcoaaGreat.NatW.frz_not]; generalize Go.Proofs.YgcoaaGreat.NatW.frzB _ = x__) | (rewrite [Go.Proofs.YgcoaaGreat.NatW.frz_and]; generalize Go.Proofs.YgcoaaGreat.NatW.frzB _ = x__) | (rewrite [Go.Proofs.YgcoaaGreat.NatW.frz_or]; generalize Go.Proofs.YgcoaaGreat.NatW.frzB _ = x__)))
              refine Go.Lax.region_calls _ 10 4 [(4, fun v => v = .pointer (some ⟨d, 0, none⟩)), (8, fun v => ∃ s : ByteArray, v = .string s ∧ s.size ≤ 4096)] (by kernel_rfl) (by kernel_rfl) (by kernel_rfl) (List.forall_mem_cons.2 ⟨⟨_, rfl⟩, List.forall_mem_cons.2 ⟨⟨_, ByteArray.empty, rfl, by decide⟩, fun _ h => by cases h⟩⟩) ?_
              iterate 4 (refine Go.Lax.walk_det rfl rfl rfl ?_; go_big_quiet_want; go_big_quiet_op; go_big_quiet_on; refine wpQuiet_nil ?_)
              refine Go.Lax.call_at rfl ?_ (fun y__ K__ hK__ => by (have HK__ := Go.Proofs.YgcoaaGreat.NatW.hide hK__; clear hK__; go_wp2_with fail; exact Go.Proofs.YgcoaaGreat.NatW.unhide HK__ _ _ rfl (Below.refl _ _)))
              rintro v rfl
              ((try dsimp only); go_big_quiet_want; go_big_quiet_op; go_big_quiet_on; refine wpQuiet_nil ?_)
              iterate 3 (refine Go.Lax.walk_det rfl rfl rfl ?_; go_big_quiet_want; go_big_quiet_op; go_big_quiet_on; refine wpQuiet_nil ?_)
              refine Go.Lax.call_at rfl ?_ (fun y__ K__ hK__ => by (go_wp2_with fail; refine (zeros_ret _ (by first | omega | exact (wri64 _).1 | exact (wr64i _).1) (by first | omega | exact (wri64 _).2 | exact (wr64i _).2)) _ _ ?_; intro v__ w__ hv__ hb__; have hh__ := Go.Proofs.YgcoaaGreat.NatW.hide (hK__ v__ w__ hv__ hb__); clear hK__ hv__; go_wp2_with fail; exact Eq.mp (by kernel_rfl) (Go.Proofs.YgcoaaGreat.NatW.unhide hh__)))
              rintro v ⟨zs, rfl, hzs⟩
              ((try dsimp only); go_big_quiet_want; go_big_quiet_op; go_big_quiet_on; refine wpQuiet_nil ?_)
              (refine Go.Lax.walk_det rfl rfl rfl ?_; go_big_quiet_want; go_big_quiet_op; go_big_quiet_on; refine wpQuiet_nil ?_)
              refine Go.Lax.end_at ?_
              intro y
              go_wp2_with fail
              exact unhide HK _ _ (by rw [ByteArray.size_append]; omega) (unhide HRR y).bl
          · obtain ⟨q, rfl⟩ : ∃ q, j = q + 1 := ⟨j - 1, by omega⟩
            obtain ⟨vq, kq, -⟩ := hr.bk.cell q (by omega)
            have fq := hr.own.2 q
            have HR := hide hr
            clear hr
            by_cases hv9 : vq = 57
            · have e9 : (vq != 57) = false := by simp [hv9]
              clear hv9
              go_wp2_with fail
              exact ⟨⟨_, q, rfl, congrArg (Value.int .i64) (by omega), by omega, (unhide HR).set _ _⟩, by simp [intOf]; try omega⟩
            · have e9 : (vq != 57) = true := by simp [hv9]
              clear hv9
              go_wp2_with fail
              exact ⟨⟨_, q, rfl, congrArg (Value.int .i64) (by omega), by omega, (unhide HR).set _ _⟩, by simp [intOf]; try omega⟩

end Go.Proofs.YgcoaaGreat.NatW
