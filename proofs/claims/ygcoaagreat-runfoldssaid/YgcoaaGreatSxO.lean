/-
  Step, exactly: Through.
-/
import Derived.Test.YgcoaaGreatMxB
import Derived.Test.YgcoaaGreatOuG
set_option linter.unusedVariables false
set_option linter.unusedSimpArgs false
set_option maxRecDepth 20000
namespace Go.Proofs.YgcoaaGreat.NatW
open Go.RowKit
open Go.Proofs.YgcoaaGreat.Det
open Go.Proofs.YgcoaaGreat.Limbs Go.Proofs.YgcoaaGreat.Bits
attribute [local go_sem] Go.Instr.field Go.asAgg

set_option maxHeartbeats 4000000 in
theorem sx_82_12t (E M : Nat) (hf : fok E M = true) (md kD kA kB imm : Int) (text : ByteArray) (di ai bi : Nat) (hdi : bits .and .u8 kD 7 = (di : Int)) (hdi8 : di < 8) (hai : bits .and .u8 kA 7 = (ai : Int)) (hai8 : ai < 8) (hbi : bits .and .u8 kB 7 = (bi : Int)) (hbi8 : bi < 8) (R : Nat → Int) (L : List Value) (hn : L.length ≤ 1000) (hI : U64 imm) (G N : Nat) (hG : imm % 256 = (G : Int)) (hN : imm / 256 % 256 = (N : Int)) (hg : fok G N = true) (r1 rr : Int)
    (hD0 : ∀ tb, DFT tb 101 #[fmt E M, fmt G N, .int .u8 md, .int .u64 (R ai)] (.int .u64 r1)) (hD1 : ∀ tb, DFT tb 101 #[fmt G N, fmt E M, .int .u8 md, .int .u64 r1] (.int .u64 rr)) : SX 82 E M md 12 kD kA kB imm text R L (up R di rr) L := by
  intro tb mb w K htb ho h hK
  obtain ⟨g1, g2, g3, g4⟩ := fok_bd hf
  have HK := hide hK
  clear hK
  have HD0 := hide (hD0 tb)
  have HD1 := hide (hD1 tb)
  clear hD0 hD1
  obtain ⟨wb, x0, hwb, r0, r1, hB, hZ⟩ := boxes2 w #[.int .u8 E, .int .u8 M] #[.int .u8 12, .int .u8 kD, .int .u8 kA, .int .u8 kB, .int .u64 imm, .string text] 23 91
  have c00 : ∀ x : Later wb, _ = some (.int .u8 E : Value) := Later.cell r0 0 _ rfl
  have c01 : ∀ x : Later wb, _ = some (.int .u8 M : Value) := Later.cell r0 1 _ rfl
  have c10 : ∀ x : Later wb, _ = some (.int .u8 12 : Value) := Later.cell r1 0 _ rfl
  have c11 : ∀ x : Later wb, _ = some (.int .u8 kD : Value) := Later.cell r1 1 _ rfl
  have c12 : ∀ x : Later wb, _ = some (.int .u8 kA : Value) := Later.cell r1 2 _ rfl
  have c13 : ∀ x : Later wb, _ = some (.int .u8 kB : Value) := Later.cell r1 3 _ rfl
  have c14 : ∀ x : Later wb, _ = some (.int .u64 imm : Value) := Later.cell r1 4 _ rfl
  have c15 : ∀ x : Later wb, _ = some (.string text : Value) := Later.cell r1 5 _ rfl
  have R0 := hide r0
  have R1 := hide r1
  clear r0 r1
  have hne : Nonempty (Later wb) := ⟨x0⟩
  have HTL := hide (fun y : Later wb => ho.later (hB y))
  have hm' : ∀ y : Later wb, MX mb R L y.at_ := fun y => h.later (hB y)
  have krd := h.reg di hdi8
  have kra := h.reg ai hai8
  have krb := h.reg bi hbi8
  have kd : ∀ y : Later wb, y.at_.cell? ⟨mb, di, none⟩ = some (.int .u64 (R di)) := fun y => ((hB y).cell (p := ⟨mb, di, none⟩) h.own.1).trans krd
  have ka : ∀ y : Later wb, y.at_.cell? ⟨mb, ai, none⟩ = some (.int .u64 (R ai)) := fun y => ((hB y).cell (p := ⟨mb, ai, none⟩) h.own.1).trans kra
  have kb : ∀ y : Later wb, y.at_.cell? ⟨mb, bi, none⟩ = some (.int .u64 (R bi)) := fun y => ((hB y).cell (p := ⟨mb, bi, none⟩) h.own.1).trans krb
  have fd : ∀ y : Later wb, y.at_.frozen? ⟨mb, di, none⟩ = false := fun y => (hm' y).own.2 di
  have hml := h.own.1
  clear krd kra krb h
  have HM := hide hm'
  clear hm'
  have hok67 : Ret 67 #[fmt G N] (fun u => u = .bool true) := by
    have := fmtOk_i (G : Int) (N : Int) (by omega) (by omega)
    simpa [hg] using this
  go_enter Oaag.func82, Oaag.ntmps82
  go_wp2_with (first
    | ((with_reducible refine Go.Proofs.YgcoaaGreat.NatW.at_later 67 ?_); (with_reducible refine Go.Proofs.YgcoaaGreat.NatW.at_arg0 (fmt E M) ?_); refine Go.Proofs.YgcoaaGreat.NatW.Ret.run (fmtOk_ret E M hf) _ ?_; rintro _ y__ rfl)
    | ((with_reducible refine Go.Proofs.YgcoaaGreat.NatW.at_reg 2 ?_); (refine Go.Lax.region_reads _ (by kernel_rfl) (by kernel_rfl) ?_; (repeat (first | go_big_quiet_skip | (go_big_quiet_want; go_big_quiet_op; go_big_quiet_on))); refine wpQuiet_nil ?_); intro y
       obtain ⟨nb, hnb⟩ : ∃ nb, y.at_.heap.size = nb := ⟨_, rfl⟩
       have bw : w.heap.size + 2 ≤ nb := by rw [← hnb]; exact hZ y
       have nn0 : nb ≠ w.heap.size := by omega
       have nn1 : w.heap.size ≠ nb := by omega
       have nn2 : nb ≠ w.heap.size + 1 := by omega
       have nn3 : w.heap.size + 1 ≠ nb := by omega)
    | ((with_reducible refine Go.Proofs.YgcoaaGreat.NatW.at_later 67 ?_); (with_reducible refine Go.Proofs.YgcoaaGreat.NatW.at_arg0 (fmt G N) ?_); refine Go.Proofs.YgcoaaGreat.NatW.Ret.run (hok67) _ ?_; rintro _ y__ rfl)
    | (
      (first | (with_reducible refine Go.Proofs.YgcoaaGreat.NatW.at_alw ?_) | (with_reducible refine Go.Proofs.YgcoaaGreat.NatW.at_alc ?_))
      ((first | with_reducible refine Go.Proofs.YgcoaaGreat.NatW.gen_calls ?_ | with_reducible refine Go.Proofs.YgcoaaGreat.NatW.gen_wp ?_ | with_reducible refine Go.Proofs.YgcoaaGreat.NatW.gen_list ?_ | with_reducible refine Go.Proofs.YgcoaaGreat.NatW.gen_body ?_); intro W hW)
      have hyW : Below wb.heap.size wb W := by rw [← hW]; exact y.ok.alloc y.ok.size _
      have qr := congrArg (fun z : World => z.heap[y.at_.heap.size]?) hW
      rw [heap_alloc_new, hnb] at qr
      clear hW hne
      obtain ⟨wb2, x9, hx, hup, hrow, hZ2⟩ := rebase3 wb W hyW
      have HM2 := hide (fun x : Later wb2 => (show MX mb R L x.at_ from (Exists.choose_spec (hup x)) ▸ unhide HM (Exists.choose (hup x))))
      have HTL2 := hide (fun x : Later wb2 => (show On tb x.at_ from (Exists.choose_spec (hup x)) ▸ unhide HTL (Exists.choose (hup x))))
      replace c00 := fun x : Later wb2 => (show _ from (Exists.choose_spec (hup x)) ▸ c00 (Exists.choose (hup x)))
      replace c01 := fun x : Later wb2 => (show _ from (Exists.choose_spec (hup x)) ▸ c01 (Exists.choose (hup x)))
      replace c10 := fun x : Later wb2 => (show _ from (Exists.choose_spec (hup x)) ▸ c10 (Exists.choose (hup x)))
      replace c11 := fun x : Later wb2 => (show _ from (Exists.choose_spec (hup x)) ▸ c11 (Exists.choose (hup x)))
      replace c12 := fun x : Later wb2 => (show _ from (Exists.choose_spec (hup x)) ▸ c12 (Exists.choose (hup x)))
      replace c13 := fun x : Later wb2 => (show _ from (Exists.choose_spec (hup x)) ▸ c13 (Exists.choose (hup x)))
      replace c14 := fun x : Later wb2 => (show _ from (Exists.choose_spec (hup x)) ▸ c14 (Exists.choose (hup x)))
      replace c15 := fun x : Later wb2 => (show _ from (Exists.choose_spec (hup x)) ▸ c15 (Exists.choose (hup x)))
      replace kd := fun x : Later wb2 => (show _ from (Exists.choose_spec (hup x)) ▸ kd (Exists.choose (hup x)))
      replace ka := fun x : Later wb2 => (show _ from (Exists.choose_spec (hup x)) ▸ ka (Exists.choose (hup x)))
      replace kb := fun x : Later wb2 => (show _ from (Exists.choose_spec (hup x)) ▸ kb (Exists.choose (hup x)))
      replace fd := fun x : Later wb2 => (show _ from (Exists.choose_spec (hup x)) ▸ fd (Exists.choose (hup x)))
      replace hB := fun x : Later wb2 => (show _ from (Exists.choose_spec (hup x)) ▸ hB (Exists.choose (hup x)))
      have hne : Nonempty (Later wb2) := ⟨x9⟩
      have r9 := hrow _ _ qr.symm
      have c90 := Later.cell r9 0 _ rfl
      have c91 := Later.cell r9 1 _ rfl
      clear hup hrow hyW qr r9 hZ2 HM
      rw [hx]
      clear hx)
    | (
      (with_reducible refine Go.Proofs.YgcoaaGreat.NatW.at_reg 32 ?_)
      (repeat (first | (rewrite [Go.Proofs.YgcoaaGreat.NatW.frz_ite]; generalize Go.Proofs.YgcoaaGreat.NatW.frzI _ = x__) | (rewrite [Go.Proofs.YgcoaaGreat.NatW.frz_dec]; generalize Go.Proofs.YgcoaaGreat.NatW.frzB _ = x__) | (rewrite [Go.Proofs.YgcoaaGreat.NatW.frz_beq]; generalize Go.Proofs.YgcoaaGreat.NatW.frzB _ = x__) | (rewrite [Go.Proofs.YgcoaaGreat.NatW.frz_not]; generalize Go.Proofs.YgcoaaGreat.NatW.frzB _ = x__) | (rewrite [Go.Proofs.YgcoaaGreat.NatW.frz_and]; generalize Go.Proofs.YgcoaaGreat.NatW.frzB _ = x__) | (rewrite [Go.Proofs.YgcoaaGreat.NatW.frz_or]; generalize Go.Proofs.YgcoaaGreat.NatW.frzB _ = x__) | (rewrite [show ∀ (a b : Int), Value.bool (a != b) = Value.bool (Go.Proofs.YgcoaaGreat.NatW.frzB (a != b)) from fun _ _ => rfl]; generalize Go.Proofs.YgcoaaGreat.NatW.frzB _ = x__)))
      refine Go.Lax.region_calls _ 10 6 [(8, fun v => v = .int .u64 r1), (9, fun v => v = .int .u64 rr)] (by kernel_rfl) (by kernel_rfl) (by kernel_rfl) (List.forall_mem_cons.2 ⟨⟨_, rfl⟩, List.forall_mem_cons.2 ⟨⟨_, rfl⟩, fun _ h => by cases h⟩⟩) ?_
      iterate 8 (refine Go.Lax.walk_det rfl rfl rfl ?_; go_big_quiet_want; go_big_quiet_op; go_big_quiet_on; refine wpQuiet_nil ?_)
      refine Go.Lax.call_at rfl ?_ (fun y__ K__ hK__ => by (go_wp2_with fail; refine (unhide HD0) _ _ (unhide HTL2 _) ?_; intro w__ hb__; have hh__ := Go.Proofs.YgcoaaGreat.NatW.hide (hK__ _ w__ rfl hb__); clear hK__; go_wp2_with fail; exact Eq.mp (by kernel_rfl) (Go.Proofs.YgcoaaGreat.NatW.unhide hh__)))
      rintro v rfl
      ((try dsimp only); go_big_quiet_want; go_big_quiet_op; go_big_quiet_on; refine wpQuiet_nil ?_)
      refine Go.Lax.call_at rfl ?_ (fun y__ K__ hK__ => by (go_wp2_with fail; refine (unhide HD1) _ _ (unhide HTL2 _) ?_; intro w__ hb__; have hh__ := Go.Proofs.YgcoaaGreat.NatW.hide (hK__ _ w__ rfl hb__); clear hK__; go_wp2_with fail; exact Eq.mp (by kernel_rfl) (Go.Proofs.YgcoaaGreat.NatW.unhide hh__)))
      rintro v rfl
      ((try dsimp only); go_big_quiet_want; go_big_quiet_op; go_big_quiet_on; refine wpQuiet_nil ?_)
      refine Go.Lax.end_at ?_
      intro y))
  all_goals first
    | (refine bodyPost_box rfl ?_; intro r hr; simp [results, Oaag.results82, go_sem] at hr; subst hr; refine ⟨_, rfl, ?_⟩
       exact unhide HK _ ((unhide HM2 _).set di hdi8 _) (below_store ((hB _).mono (by omega)) (Nat.le_refl _) _))
    | fail

set_option maxHeartbeats 4000000 in
theorem sx_82_12f (E M : Nat) (hf : fok E M = true) (md kD kA kB imm : Int) (text : ByteArray) (di ai bi : Nat) (hdi : bits .and .u8 kD 7 = (di : Int)) (hdi8 : di < 8) (hai : bits .and .u8 kA 7 = (ai : Int)) (hai8 : ai < 8) (hbi : bits .and .u8 kB 7 = (bi : Int)) (hbi8 : bi < 8) (R : Nat → Int) (L : List Value) (hn : L.length ≤ 1000) (hI : U64 imm) (G N : Nat) (hG : imm % 256 = (G : Int)) (hN : imm / 256 % 256 = (N : Int)) (hg : fok G N = false)
     : SX 82 E M md 12 kD kA kB imm text R L R L := by
  intro tb mb w K htb ho h hK
  obtain ⟨g1, g2, g3, g4⟩ := fok_bd hf
  have HK := hide hK
  clear hK
  obtain ⟨wb, x0, hwb, r0, r1, hB, hZ⟩ := boxes2 w #[.int .u8 E, .int .u8 M] #[.int .u8 12, .int .u8 kD, .int .u8 kA, .int .u8 kB, .int .u64 imm, .string text] 23 91
  have c00 : ∀ x : Later wb, _ = some (.int .u8 E : Value) := Later.cell r0 0 _ rfl
  have c01 : ∀ x : Later wb, _ = some (.int .u8 M : Value) := Later.cell r0 1 _ rfl
  have c10 : ∀ x : Later wb, _ = some (.int .u8 12 : Value) := Later.cell r1 0 _ rfl
  have c11 : ∀ x : Later wb, _ = some (.int .u8 kD : Value) := Later.cell r1 1 _ rfl
  have c12 : ∀ x : Later wb, _ = some (.int .u8 kA : Value) := Later.cell r1 2 _ rfl
  have c13 : ∀ x : Later wb, _ = some (.int .u8 kB : Value) := Later.cell r1 3 _ rfl
  have c14 : ∀ x : Later wb, _ = some (.int .u64 imm : Value) := Later.cell r1 4 _ rfl
  have c15 : ∀ x : Later wb, _ = some (.string text : Value) := Later.cell r1 5 _ rfl
  have R0 := hide r0
  have R1 := hide r1
  clear r0 r1
  have hne : Nonempty (Later wb) := ⟨x0⟩
  have HTL := hide (fun y : Later wb => ho.later (hB y))
  have hm' : ∀ y : Later wb, MX mb R L y.at_ := fun y => h.later (hB y)
  have krd := h.reg di hdi8
  have kra := h.reg ai hai8
  have krb := h.reg bi hbi8
  have kd : ∀ y : Later wb, y.at_.cell? ⟨mb, di, none⟩ = some (.int .u64 (R di)) := fun y => ((hB y).cell (p := ⟨mb, di, none⟩) h.own.1).trans krd
  have ka : ∀ y : Later wb, y.at_.cell? ⟨mb, ai, none⟩ = some (.int .u64 (R ai)) := fun y => ((hB y).cell (p := ⟨mb, ai, none⟩) h.own.1).trans kra
  have kb : ∀ y : Later wb, y.at_.cell? ⟨mb, bi, none⟩ = some (.int .u64 (R bi)) := fun y => ((hB y).cell (p := ⟨mb, bi, none⟩) h.own.1).trans krb
  have fd : ∀ y : Later wb, y.at_.frozen? ⟨mb, di, none⟩ = false := fun y => (hm' y).own.2 di
  have hml := h.own.1
  clear krd kra krb h
  have HM := hide hm'
  clear hm'
  have hok67 : Ret 67 #[fmt G N] (fun u => u = .bool false) := by
    have := fmtOk_i (G : Int) (N : Int) (by omega) (by omega)
    simpa [hg] using this
  go_enter Oaag.func82, Oaag.ntmps82
  go_wp2_with (first
    | ((with_reducible refine Go.Proofs.YgcoaaGreat.NatW.at_later 67 ?_); (with_reducible refine Go.Proofs.YgcoaaGreat.NatW.at_arg0 (fmt E M) ?_); refine Go.Proofs.YgcoaaGreat.NatW.Ret.run (fmtOk_ret E M hf) _ ?_; rintro _ y__ rfl)
    | ((with_reducible refine Go.Proofs.YgcoaaGreat.NatW.at_reg 2 ?_); (refine Go.Lax.region_reads _ (by kernel_rfl) (by kernel_rfl) ?_; (repeat (first | go_big_quiet_skip | (go_big_quiet_want; go_big_quiet_op; go_big_quiet_on))); refine wpQuiet_nil ?_); intro y
       obtain ⟨nb, hnb⟩ : ∃ nb, y.at_.heap.size = nb := ⟨_, rfl⟩
       have bw : w.heap.size + 2 ≤ nb := by rw [← hnb]; exact hZ y
       have nn0 : nb ≠ w.heap.size := by omega
       have nn1 : w.heap.size ≠ nb := by omega
       have nn2 : nb ≠ w.heap.size + 1 := by omega
       have nn3 : w.heap.size + 1 ≠ nb := by omega)
    | ((with_reducible refine Go.Proofs.YgcoaaGreat.NatW.at_later 67 ?_); (with_reducible refine Go.Proofs.YgcoaaGreat.NatW.at_arg0 (fmt G N) ?_); refine Go.Proofs.YgcoaaGreat.NatW.Ret.run (hok67) _ ?_; rintro _ y__ rfl)
    | (
      (first | (with_reducible refine Go.Proofs.YgcoaaGreat.NatW.at_alw ?_) | (with_reducible refine Go.Proofs.YgcoaaGreat.NatW.at_alc ?_))
      ((first | with_reducible refine Go.Proofs.YgcoaaGreat.NatW.gen_calls ?_ | with_reducible refine Go.Proofs.YgcoaaGreat.NatW.gen_wp ?_ | with_reducible refine Go.Proofs.YgcoaaGreat.NatW.gen_list ?_ | with_reducible refine Go.Proofs.YgcoaaGreat.NatW.gen_body ?_); intro W hW)
      have hyW : Below wb.heap.size wb W := by rw [← hW]; exact y.ok.alloc y.ok.size _
      have qr := congrArg (fun z : World => z.heap[y.at_.heap.size]?) hW
      rw [heap_alloc_new, hnb] at qr
      clear hW hne
      obtain ⟨wb2, x9, hx, hup, hrow, hZ2⟩ := rebase3 wb W hyW
      have HM2 := hide (fun x : Later wb2 => (show MX mb R L x.at_ from (Exists.choose_spec (hup x)) ▸ unhide HM (Exists.choose (hup x))))
      have HTL2 := hide (fun x : Later wb2 => (show On tb x.at_ from (Exists.choose_spec (hup x)) ▸ unhide HTL (Exists.choose (hup x))))
      replace c00 := fun x : Later wb2 => (show _ from (Exists.choose_spec (hup x)) ▸ c00 (Exists.choose (hup x)))
      replace c01 := fun x : Later wb2 => (show _ from (Exists.choose_spec (hup x)) ▸ c01 (Exists.choose (hup x)))
      replace c10 := fun x : Later wb2 => (show _ from (Exists.choose_spec (hup x)) ▸ c10 (Exists.choose (hup x)))
      replace c11 := fun x : Later wb2 => (show _ from (Exists.choose_spec (hup x)) ▸ c11 (Exists.choose (hup x)))
      replace c12 := fun x : Later wb2 => (show _ from (Exists.choose_spec (hup x)) ▸ c12 (Exists.choose (hup x)))
      replace c13 := fun x : Later wb2 => (show _ from (Exists.choose_spec (hup x)) ▸ c13 (Exists.choose (hup x)))
      replace c14 := fun x : Later wb2 => (show _ from (Exists.choose_spec (hup x)) ▸ c14 (Exists.choose (hup x)))
      replace c15 := fun x : Later wb2 => (show _ from (Exists.choose_spec (hup x)) ▸ c15 (Exists.choose (hup x)))
      replace kd := fun x : Later wb2 => (show _ from (Exists.choose_spec (hup x)) ▸ kd (Exists.choose (hup x)))
      replace ka := fun x : Later wb2 => (show _ from (Exists.choose_spec (hup x)) ▸ ka (Exists.choose (hup x)))
      replace kb := fun x : Later wb2 => (show _ from (Exists.choose_spec (hup x)) ▸ kb (Exists.choose (hup x)))
      replace fd := fun x : Later wb2 => (show _ from (Exists.choose_spec (hup x)) ▸ fd (Exists.choose (hup x)))
      replace hB := fun x : Later wb2 => (show _ from (Exists.choose_spec (hup x)) ▸ hB (Exists.choose (hup x)))
      have hne : Nonempty (Later wb2) := ⟨x9⟩
      have r9 := hrow _ _ qr.symm
      have c90 := Later.cell r9 0 _ rfl
      have c91 := Later.cell r9 1 _ rfl
      clear hup hrow hyW qr r9 hZ2 HM
      rw [hx]
      clear hx))
  all_goals first
    | (refine bodyPost_box rfl ?_; intro r hr; simp [results, Oaag.results82, go_sem] at hr; subst hr; refine ⟨_, rfl, ?_⟩
       exact unhide HK _ (unhide HM2 _) ((hB _).mono (by omega)))
    | fail
end Go.Proofs.YgcoaaGreat.NatW
