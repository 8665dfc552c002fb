/-
  Package so: Step, kinds 11, 14.
-/
import Derived.Test.YgcoaaGreatStA
import Derived.Test.YgcoaaGreatLaxO
set_option linter.unusedVariables false
set_option linter.unusedSimpArgs false
namespace Go.Proofs.YgcoaaGreat.NatW
attribute [local go_sem] Go.Instr.field Go.asAgg
open Go.RowKit
open Go.Proofs.YgcoaaGreat.Limbs Go.Proofs.YgcoaaGreat.Bits

set_option maxRecDepth 20000 in
set_option maxHeartbeats 4000000 in
theorem step_11 (E M : Nat) (hf : fok E M = true) (tb mb n : Nat) (hn : n ≤ 1000) (md kD kA kB imm : Int) (hD0 : 0 ≤ kD) (hD1 : kD ≤ 255) (hA0 : 0 ≤ kA) (hA1 : kA ≤ 255) (hB0 : 0 ≤ kB) (hB1 : kB ≤ 255) (hI : U64 imm) (w : World) (h : Mach E M mb n w) (hT : TabZ tb w) (htb : tb ≤ mb) (K : Ending → World → Prop)
    (hK : ∀ n' w', n' ≤ n + 1 → Mach E M mb n' w' → Below mb w w' → K (.returned (.tuple #[])) w') : Calls Oaag.prog 82 #[.pointer (some ⟨tb, 0, none⟩), fmt E M, .int .u8 md, .pointer (some ⟨mb, 0, none⟩), .agg #[.int .u8 11, .int .u8 kD, .int .u8 kA, .int .u8 kB, .int .u64 imm, .string ⟨#[]⟩] ] w K := by
  obtain ⟨g1, g2, g3, g4⟩ := fok_bd hf
  have HK := hide hK
  clear hK
  obtain ⟨wb, x0, hwb, r0, r1, hB, hZ⟩ := boxes2 w #[.int .u8 E, .int .u8 M] #[.int .u8 11, .int .u8 kD, .int .u8 kA, .int .u8 kB, .int .u64 imm, .string ⟨#[]⟩] 23 91
  have c00 : ∀ x : Later wb, _ = some (.int .u8 E : Value) := Later.cell r0 0 _ rfl
  have c01 : ∀ x : Later wb, _ = some (.int .u8 M : Value) := Later.cell r0 1 _ rfl
  have c10 : ∀ x : Later wb, _ = some (.int .u8 11 : Value) := Later.cell r1 0 _ rfl
  have c11 : ∀ x : Later wb, _ = some (.int .u8 kD : Value) := Later.cell r1 1 _ rfl
  have c12 : ∀ x : Later wb, _ = some (.int .u8 kA : Value) := Later.cell r1 2 _ rfl
  have c13 : ∀ x : Later wb, _ = some (.int .u8 kB : Value) := Later.cell r1 3 _ rfl
  have c14 : ∀ x : Later wb, _ = some (.int .u64 imm : Value) := Later.cell r1 4 _ rfl
  have c15 : ∀ x : Later wb, _ = some (.string ⟨#[]⟩ : Value) := Later.cell r1 5 _ rfl
  have R0 := hide r0
  have R1 := hide r1
  clear r0 r1
  have hne : Nonempty (Later wb) := ⟨x0⟩
  have hm' : ∀ y : Later wb, Mach E M mb n y.at_ := fun y => h.later (hB y)
  obtain ⟨di, hdi, hdi8⟩ := and7 kD hD0 hD1
  obtain ⟨ai, hai, hai8⟩ := and7 kA hA0 hA1
  obtain ⟨bi, hbi, hbi8⟩ := and7 kB hB0 hB1
  obtain ⟨rd, krd, srd⟩ := h.reg di hdi8
  obtain ⟨ra, kra, sra⟩ := h.reg ai hai8
  obtain ⟨rb, krb, srb⟩ := h.reg bi hbi8
  have kd : ∀ y : Later wb, y.at_.cell? ⟨mb, di, none⟩ = some (.int .u64 rd) := fun y => ((hB y).cell (p := ⟨mb, di, none⟩) h.own.1).trans krd
  have ka : ∀ y : Later wb, y.at_.cell? ⟨mb, ai, none⟩ = some (.int .u64 ra) := fun y => ((hB y).cell (p := ⟨mb, ai, none⟩) h.own.1).trans kra
  have kb : ∀ y : Later wb, y.at_.cell? ⟨mb, bi, none⟩ = some (.int .u64 rb) := fun y => ((hB y).cell (p := ⟨mb, bi, none⟩) h.own.1).trans krb
  have fd : ∀ y : Later wb, y.at_.frozen? ⟨mb, di, none⟩ = false := fun y => (hm' y).own.2 di
  obtain ⟨vo, kvo, hown0⟩ := h.out
  obtain ⟨vp, vl, vc, rfl⟩ := hown0.slice
  have hg0 := hown0.block
  have HO := hide (fun y : Later wb => hown0.kept (hB y))
  have HT := hide (fun y : Later wb => hT.kept (hB y) hT.lt)
  have ko : ∀ y : Later wb, y.at_.cell? ⟨mb, 8, none⟩ = some (.slice vp vl vc) := fun y => ((hB y).cell (p := ⟨mb, 8, none⟩) h.own.1).trans kvo
  have HG0 := hide hg0
  clear hown0 kvo hg0 hT
  have ua := Snd.u64 hf sra
  have ub := Snd.u64 hf srb
  have hml := h.own.1
  have UA := hide ua
  have UB := hide ub
  have UI := hide hI
  clear krd kra krb srd sra srb h ua ub hI
  have HM := hide hm'
  clear hm'
  go_enter Oaag.func82, Oaag.ntmps82
  go_wp2_with (first
    | ((with_reducible refine Go.Proofs.YgcoaaGreat.NatW.at_later 67 ?_); refine Go.Proofs.YgcoaaGreat.NatW.Ret.run (fmtOk_ret E M hf) _ ?_; rintro _ y__ rfl)
    | ((with_reducible refine Go.Proofs.YgcoaaGreat.NatW.at_reg 2 ?_); (refine Go.Lax.region_reads _ (by kernel_rfl) (by kernel_rfl) ?_; (repeat (first | go_big_quiet_skip | (go_big_quiet_want; go_big_quiet_op; go_big_quiet_on))); refine wpQuiet_nil ?_); intro y))
  (with_reducible refine Go.Proofs.YgcoaaGreat.NatW.at_reg 28 ?_)
  (repeat (first | (rewrite [Go.Proofs.YgcoaaGreat.NatW.frz_ite]; generalize Go.Proofs.YgcoaaGreat.NatW.frzI _ = x__) | (rewrite [Go.Proofs.YgcoaaGreat.NatW.frz_dec]; generalize Go.Proofs.YgcoaaGreat.NatW.frzB _ = x__) | (rewrite [Go.Proofs.YgcoaaGreat.NatW.frz_beq]; generalize Go.Proofs.YgcoaaGreat.NatW.frzB _ = x__) | (rewrite [Go.Proofs.YgcoaaGreat.NatW.frz_not]; generalize Go.Proofs.YgcoaaGreat.NatW.frzB _ = x__) | (rewrite [Go.Proofs.YgcoaaGreat.NatW.frz_and]; generalize Go.Proofs.YgcoaaGreat.NatW.frzB _ = x__) | (rewrite [Go.Proofs.YgcoaaGreat.NatW.frz_or]; generalize Go.Proofs.YgcoaaGreat.NatW.frzB _ = x__) | (rewrite [show ∀ (a b : Int), Value.bool (a != b) = Value.bool (Go.Proofs.YgcoaaGreat.NatW.frzB (a != b)) from fun _ _ => rfl]; generalize Go.Proofs.YgcoaaGreat.NatW.frzB _ = x__)))
  ((first | with_reducible refine Go.Proofs.YgcoaaGreat.NatW.gen_calls ?_ | with_reducible refine Go.Proofs.YgcoaaGreat.NatW.gen_wp ?_ | with_reducible refine Go.Proofs.YgcoaaGreat.NatW.gen_list ?_ | with_reducible refine Go.Proofs.YgcoaaGreat.NatW.gen_body ?_); intro W hW)
  have hMW : Mach E M mb n W := by rw [← hW]; exact unhide HM _
  have hBW : Below w.heap.size w W := by rw [← hW]; exact hB _
  have hzW : w.heap.size + 2 ≤ W.heap.size := by rw [← hW]; exact hZ _
  have hoW : Own W (mb + 1) 9 (.slice vp vl vc) n isS := by rw [← hW]; exact unhide HO _
  have hTW : TabZ tb W := by rw [← hW]; exact unhide HT _
  have e00 := c00 y
  have e01 := c01 y
  have e10 := c10 y
  have e11 := c11 y
  have e12 := c12 y
  have e13 := c13 y
  have e14 := c14 y
  have e15 := c15 y
  rw [hW] at e00 e01 e10 e11 e12 e13 e14 e15
  obtain ⟨wt, hWt, hst, hkt, hbt⟩ := trunc2 W (mb + 1) (by omega)
  have hI0 : OutI W w.heap.size W.heap.size mb n (.slice vp vl vc) W := ⟨hoW, Nat.le_refl _, fun _ _ _ => rfl⟩
  have kot : ∀ t : Later wt, t.at_.cell? ⟨mb, 8, none⟩ = some (.slice vp vl vc) := fun t => (World.cell?_of_block (a := ⟨mb, 8, none⟩) (hkt t mb (by omega))).trans (hW ▸ ko y)
  have fot : ∀ t : Later wt, t.at_.frozen? ⟨mb, 8, none⟩ = false := fun t => (World.frozen?_of_block (a := ⟨mb, 8, none⟩) (hkt t mb (by omega))).trans (hMW.own.2 8)
  have krt : ∀ i r, W.cell? ⟨mb, i, none⟩ = some r → ∀ t : Later wt, t.at_.cell? ⟨mb, i, none⟩ = some r := fun i r hr t => (World.cell?_of_block (a := ⟨mb, i, none⟩) (hkt t mb (by omega))).trans hr
  have hTt : ∀ t : Later wt, (OutI W w.heap.size W.heap.size mb n (.slice vp vl vc)) t.at_ → TabZ tb t.at_ := fun t hI => hTW.kept (hbt t hI.2.1) (by omega)
  have b00 := fun (t : Later wt) (hI : (OutI W w.heap.size W.heap.size mb n (.slice vp vl vc)) t.at_) => (hI.cell (k := w.heap.size) (i := 0) (by omega) (by omega)).trans e00
  have b01 := fun (t : Later wt) (hI : (OutI W w.heap.size W.heap.size mb n (.slice vp vl vc)) t.at_) => (hI.cell (k := w.heap.size) (i := 1) (by omega) (by omega)).trans e01
  have b10 := fun (t : Later wt) (hI : (OutI W w.heap.size W.heap.size mb n (.slice vp vl vc)) t.at_) => (hI.cell (k := w.heap.size + 1) (i := 0) (by omega) (by omega)).trans e10
  have b11 := fun (t : Later wt) (hI : (OutI W w.heap.size W.heap.size mb n (.slice vp vl vc)) t.at_) => (hI.cell (k := w.heap.size + 1) (i := 1) (by omega) (by omega)).trans e11
  have b12 := fun (t : Later wt) (hI : (OutI W w.heap.size W.heap.size mb n (.slice vp vl vc)) t.at_) => (hI.cell (k := w.heap.size + 1) (i := 2) (by omega) (by omega)).trans e12
  have b13 := fun (t : Later wt) (hI : (OutI W w.heap.size W.heap.size mb n (.slice vp vl vc)) t.at_) => (hI.cell (k := w.heap.size + 1) (i := 3) (by omega) (by omega)).trans e13
  have b14 := fun (t : Later wt) (hI : (OutI W w.heap.size W.heap.size mb n (.slice vp vl vc)) t.at_) => (hI.cell (k := w.heap.size + 1) (i := 4) (by omega) (by omega)).trans e14
  have b15 := fun (t : Later wt) (hI : (OutI W w.heap.size W.heap.size mb n (.slice vp vl vc)) t.at_) => (hI.cell (k := w.heap.size + 1) (i := 5) (by omega) (by omega)).trans e15
  have hne2 : Nonempty (Later wt) := ⟨⟨W, hWt⟩⟩
  have HMW := hide hMW
  have HBW := hide hBW
  have HTT := hide hTt
  have HI0 := hide hI0
  have hz1 : mb + 1 ≤ W.heap.size := by omega
  clear hMW hoW hTW hW hBW hTt krt hI0 hkt ko kd ka kb fd hne c00 e00 c01 e01 c10 e10 c11 e11 c12 e12 c13 e13 c14 e14 c15 e15
  refine Go.LaxS.region_out (⟨W, hWt⟩ : Later wt) 10 8 [(2, fun v => v = .pointer (some ⟨mb, 0, none⟩)), (5, fun v => v = fmt E M), (7, fun v => ∃ s : ByteArray, v = .string s ∧ s.size ≤ 300000), (8, fun v => ∃ b, v = .slice (some ⟨b, 0, none⟩) 1 1), (9, fun v => ∃ a b c, v = .slice a b c)] 8 9 (OutI W w.heap.size W.heap.size mb n (.slice vp vl vc)) (OutB w.heap.size) (OutA mb n) (by kernel_rfl) (by kernel_rfl) (by kernel_rfl) (by kernel_rfl) (unhide HI0) OutI.later OutB.later OutA.later (List.forall_mem_cons.2 ⟨⟨_, rfl⟩, List.forall_mem_cons.2 ⟨⟨_, rfl⟩, List.forall_mem_cons.2 ⟨⟨_, ⟨#[]⟩, rfl, by decide⟩, List.forall_mem_cons.2 ⟨⟨_, 0, rfl⟩, List.forall_mem_cons.2 ⟨⟨_, none, 0, 0, rfl⟩, fun _ h => by cases h⟩⟩⟩⟩⟩) ?_
  (refine Go.LaxS.walk_det rfl rfl rfl rfl ?_; go_big_quiet_want; go_big_quiet_op; go_big_quiet_on; refine wpQuiet_nil ?_)
  (refine Go.LaxS.walk_det rfl rfl rfl rfl ?_; go_big_quiet_want; go_big_quiet_op; go_big_quiet_on; refine wpQuiet_nil ?_)
  refine Go.LaxS.out_call rfl (by decide) (by decide) rfl OutI.later ?_ (fun y__ K__ hI__ hK__ => by (have HK__ := Go.Proofs.YgcoaaGreat.NatW.hide hK__; clear hK__; go_wp2_with fail; exact Go.Proofs.YgcoaaGreat.NatW.unhide HK__ _ _ rfl (Below.refl _ _)))
  rintro v rfl
  ((try dsimp only); go_big_quiet_want; go_big_quiet_op; go_big_quiet_on; refine wpQuiet_nil ?_)
  (refine Go.LaxS.walk_det rfl rfl rfl rfl ?_; go_big_quiet_want; go_big_quiet_op; go_big_quiet_on; refine wpQuiet_nil ?_)
  (refine Go.LaxS.walk_det rfl rfl rfl rfl ?_; go_big_quiet_want; go_big_quiet_op; go_big_quiet_on; refine wpQuiet_nil ?_)
  refine Go.LaxS.out_call rfl (by decide) (by decide) rfl OutI.later ?_ (fun y K hI hK => by
    have ab00 := b00 _ hI
    have ab01 := b01 _ hI
    have HK := hide hK
    clear hK
    go_wp2_with fail
    exact unhide HK _ _ rfl (Below.refl _ _))
  rintro v rfl
  ((try dsimp only); go_big_quiet_want; go_big_quiet_op; go_big_quiet_on; refine wpQuiet_nil ?_)
  (refine Go.LaxS.walk_det rfl rfl rfl rfl ?_; go_big_quiet_want; go_big_quiet_op; go_big_quiet_on; refine wpQuiet_nil ?_)
  refine Go.LaxS.out_call rfl (by decide) (by decide) rfl OutI.later ?_ (fun y__ K__ hI__ hK__ => by (go_wp2_with fail; refine (sotoInt_ret E M hf ra (unhide UA)) _ _ ?_; intro v__ w__ hv__ hb__; have hh__ := Go.Proofs.YgcoaaGreat.NatW.hide (hK__ v__ w__ hv__ hb__); clear hK__ hv__; go_wp2_with fail; exact Eq.mp (by kernel_rfl) (Go.Proofs.YgcoaaGreat.NatW.unhide hh__)))
  rintro v ⟨st, rfl, hst5⟩
  ((try dsimp only); go_big_quiet_want; go_big_quiet_op; go_big_quiet_on; refine wpQuiet_nil ?_)
  refine Go.LaxS.out_bs rfl (by decide) rfl OutI.later ?_ (fun y K hI hK => by
    have HK := hide hK
    have hl : w.heap.size ≤ y.at_.heap.size := by have := hI.2.1; omega
    clear hK
    go_wp2_with fail
    exact unhide HK _ _ ⟨_, rfl⟩ ⟨_, _, rfl, hl, by rw [World.cell?_alloc_new]; rfl⟩ ((Below.refl _ _).alloc (Nat.le_refl _) _))
  rintro v ⟨sb, rfl⟩
  ((try dsimp only); go_big_quiet_want; go_big_quiet_op; go_big_quiet_on; refine wpQuiet_nil ?_)
  refine Go.LaxS.out_ap _ rfl (by decide) rfl (by kernel_rfl) (by (repeat (first | exact List.Mem.head _ | apply List.Mem.tail))) ?_ (fun y K hI hB hK => by
    refine wpList_appO rfl _ _ rfl rfl rfl (fun ty => ?_)
    obtain ⟨v', w', q1, q2, q3, q4, q5⟩ := out_app (unhide HG0) hn hz1 ty hI hB
    obtain ⟨p1, p2, p3, rfl⟩ := Own.slice q2
    refine ⟨_, w', q1, ?_⟩
    refine ⟨rfl, ?_⟩
    exact hK _ _ ⟨_, _, _, rfl⟩ q2 (y.ok.trans (q5.mono (by omega))) q3 q4)
  rintro v ⟨p1, p2, p3, rfl⟩
  ((try dsimp only); go_big_quiet_want; go_big_quiet_op; go_big_quiet_on; refine wpQuiet_nil ?_)
  refine Go.LaxS.out_end _ (by decide) (by (repeat (first | exact List.Mem.head _ | apply List.Mem.tail))) ?_
  intro y9 hI9 hA9
  have HA9 := hide hA9
  have HB9 := hide (hbt y9 hI9.2.1)
  have k9 := kot y9
  have fr9 := fot y9
  clear hA9 hI9
  go_wp2_with fail
  all_goals first
    | (refine bodyPost_box rfl ?_; intro r hr; simp [results, Oaag.results82, go_sem] at hr; subst hr; refine ⟨_, rfl, ?_⟩
       exact unhide HK (n + 1) _ (by omega) ((unhide HMW).app (unhide HB9) (unhide HA9)) (below_store (((unhide HBW).mono (by omega)).trans ((unhide HB9).mono (by omega))) (Nat.le_refl _) _))
    | skip

set_option maxRecDepth 20000 in
set_option maxHeartbeats 4000000 in
theorem step_14 (E M : Nat) (hf : fok E M = true) (tb mb n : Nat) (hn : n ≤ 1000) (md kD kA kB imm : Int) (hD0 : 0 ≤ kD) (hD1 : kD ≤ 255) (hA0 : 0 ≤ kA) (hA1 : kA ≤ 255) (hB0 : 0 ≤ kB) (hB1 : kB ≤ 255) (hI : U64 imm) (w : World) (h : Mach E M mb n w) (hT : TabZ tb w) (htb : tb ≤ mb) (K : Ending → World → Prop)
    (hK : ∀ n' w', n' ≤ n + 1 → Mach E M mb n' w' → Below mb w w' → K (.returned (.tuple #[])) w') : Calls Oaag.prog 82 #[.pointer (some ⟨tb, 0, none⟩), fmt E M, .int .u8 md, .pointer (some ⟨mb, 0, none⟩), .agg #[.int .u8 14, .int .u8 kD, .int .u8 kA, .int .u8 kB, .int .u64 imm, .string ⟨#[]⟩] ] w K := by
  obtain ⟨g1, g2, g3, g4⟩ := fok_bd hf
  have HK := hide hK
  clear hK
  obtain ⟨wb, x0, hwb, r0, r1, hB, hZ⟩ := boxes2 w #[.int .u8 E, .int .u8 M] #[.int .u8 14, .int .u8 kD, .int .u8 kA, .int .u8 kB, .int .u64 imm, .string ⟨#[]⟩] 23 91
  have c00 : ∀ x : Later wb, _ = some (.int .u8 E : Value) := Later.cell r0 0 _ rfl
  have c01 : ∀ x : Later wb, _ = some (.int .u8 M : Value) := Later.cell r0 1 _ rfl
  have c10 : ∀ x : Later wb, _ = some (.int .u8 14 : Value) := Later.cell r1 0 _ rfl
  have c11 : ∀ x : Later wb, _ = some (.int .u8 kD : Value) := Later.cell r1 1 _ rfl
  have c12 : ∀ x : Later wb, _ = some (.int .u8 kA : Value) := Later.cell r1 2 _ rfl
  have c13 : ∀ x : Later wb, _ = some (.int .u8 kB : Value) := Later.cell r1 3 _ rfl
  have c14 : ∀ x : Later wb, _ = some (.int .u64 imm : Value) := Later.cell r1 4 _ rfl
  have c15 : ∀ x : Later wb, _ = some (.string ⟨#[]⟩ : Value) := Later.cell r1 5 _ rfl
  have R0 := hide r0
  have R1 := hide r1
  clear r0 r1
  have hne : Nonempty (Later wb) := ⟨x0⟩
  have hm' : ∀ y : Later wb, Mach E M mb n y.at_ := fun y => h.later (hB y)
  obtain ⟨di, hdi, hdi8⟩ := and7 kD hD0 hD1
  obtain ⟨ai, hai, hai8⟩ := and7 kA hA0 hA1
  obtain ⟨bi, hbi, hbi8⟩ := and7 kB hB0 hB1
  obtain ⟨rd, krd, srd⟩ := h.reg di hdi8
  obtain ⟨ra, kra, sra⟩ := h.reg ai hai8
  obtain ⟨rb, krb, srb⟩ := h.reg bi hbi8
  have kd : ∀ y : Later wb, y.at_.cell? ⟨mb, di, none⟩ = some (.int .u64 rd) := fun y => ((hB y).cell (p := ⟨mb, di, none⟩) h.own.1).trans krd
  have ka : ∀ y : Later wb, y.at_.cell? ⟨mb, ai, none⟩ = some (.int .u64 ra) := fun y => ((hB y).cell (p := ⟨mb, ai, none⟩) h.own.1).trans kra
  have kb : ∀ y : Later wb, y.at_.cell? ⟨mb, bi, none⟩ = some (.int .u64 rb) := fun y => ((hB y).cell (p := ⟨mb, bi, none⟩) h.own.1).trans krb
  have fd : ∀ y : Later wb, y.at_.frozen? ⟨mb, di, none⟩ = false := fun y => (hm' y).own.2 di
  obtain ⟨vo, kvo, hown0⟩ := h.out
  obtain ⟨vp, vl, vc, rfl⟩ := hown0.slice
  have hg0 := hown0.block
  have HO := hide (fun y : Later wb => hown0.kept (hB y))
  have HT := hide (fun y : Later wb => hT.kept (hB y) hT.lt)
  have ko : ∀ y : Later wb, y.at_.cell? ⟨mb, 8, none⟩ = some (.slice vp vl vc) := fun y => ((hB y).cell (p := ⟨mb, 8, none⟩) h.own.1).trans kvo
  have HG0 := hide hg0
  clear hown0 kvo hg0 hT
  have ua := Snd.u64 hf sra
  have ub := Snd.u64 hf srb
  have hml := h.own.1
  have UA := hide ua
  have UB := hide ub
  have UI := hide hI
  clear krd kra krb srd sra srb h ua ub hI
  have HM := hide hm'
  clear hm'
  obtain ⟨X, rfl⟩ : ∃ X : Nat, ra = (X : Int) := ⟨ra.toNat, (Int.toNat_of_nonneg (unhide UA).1).symm⟩
  have HX : X < 18446744073709551616 := by have := (unhide UA).2; omega
  go_enter Oaag.func82, Oaag.ntmps82
  go_wp2_with (first
    | ((with_reducible refine Go.Proofs.YgcoaaGreat.NatW.at_later 67 ?_); refine Go.Proofs.YgcoaaGreat.NatW.Ret.run (fmtOk_ret E M hf) _ ?_; rintro _ y__ rfl)
    | ((with_reducible refine Go.Proofs.YgcoaaGreat.NatW.at_reg 2 ?_); (refine Go.Lax.region_reads _ (by kernel_rfl) (by kernel_rfl) ?_; (repeat (first | go_big_quiet_skip | (go_big_quiet_want; go_big_quiet_op; go_big_quiet_on))); refine wpQuiet_nil ?_); intro y))
  (with_reducible refine Go.Proofs.YgcoaaGreat.NatW.at_reg 36 ?_)
  (repeat (first | (rewrite [Go.Proofs.YgcoaaGreat.NatW.frz_ite]; generalize Go.Proofs.YgcoaaGreat.NatW.frzI _ = x__) | (rewrite [Go.Proofs.YgcoaaGreat.NatW.frz_dec]; generalize Go.Proofs.YgcoaaGreat.NatW.frzB _ = x__) | (rewrite [Go.Proofs.YgcoaaGreat.NatW.frz_beq]; generalize Go.Proofs.YgcoaaGreat.NatW.frzB _ = x__) | (rewrite [Go.Proofs.YgcoaaGreat.NatW.frz_not]; generalize Go.Proofs.YgcoaaGreat.NatW.frzB _ = x__) | (rewrite [Go.Proofs.YgcoaaGreat.NatW.frz_and]; generalize Go.Proofs.YgcoaaGreat.NatW.frzB _ = x__) | (rewrite [Go.Proofs.YgcoaaGreat.NatW.frz_or]; generalize Go.Proofs.YgcoaaGreat.NatW.frzB _ = x__) | (rewrite [show ∀ (a b : Int), Value.bool (a != b) = Value.bool (Go.Proofs.YgcoaaGreat.NatW.frzB (a != b)) from fun _ _ => rfl]; generalize Go.Proofs.YgcoaaGreat.NatW.frzB _ = x__)))
  ((first | with_reducible refine Go.Proofs.YgcoaaGreat.NatW.gen_calls ?_ | with_reducible refine Go.Proofs.YgcoaaGreat.NatW.gen_wp ?_ | with_reducible refine Go.Proofs.YgcoaaGreat.NatW.gen_list ?_ | with_reducible refine Go.Proofs.YgcoaaGreat.NatW.gen_body ?_); intro W hW)
  have hMW : Mach E M mb n W := by rw [← hW]; exact unhide HM _
  have hBW : Below w.heap.size w W := by rw [← hW]; exact hB _
  have hzW : w.heap.size + 2 ≤ W.heap.size := by rw [← hW]; exact hZ _
  have hoW : Own W (mb + 1) 9 (.slice vp vl vc) n isS := by rw [← hW]; exact unhide HO _
  have hTW : TabZ tb W := by rw [← hW]; exact unhide HT _
  have e00 := c00 y
  have e01 := c01 y
  have e10 := c10 y
  have e11 := c11 y
  have e12 := c12 y
  have e13 := c13 y
  have e14 := c14 y
  have e15 := c15 y
  rw [hW] at e00 e01 e10 e11 e12 e13 e14 e15
  obtain ⟨wt, hWt, hst, hkt, hbt⟩ := trunc2 W (mb + 1) (by omega)
  have hI0 : OutI W w.heap.size W.heap.size mb n (.slice vp vl vc) W := ⟨hoW, Nat.le_refl _, fun _ _ _ => rfl⟩
  have kot : ∀ t : Later wt, t.at_.cell? ⟨mb, 8, none⟩ = some (.slice vp vl vc) := fun t => (World.cell?_of_block (a := ⟨mb, 8, none⟩) (hkt t mb (by omega))).trans (hW ▸ ko y)
  have fot : ∀ t : Later wt, t.at_.frozen? ⟨mb, 8, none⟩ = false := fun t => (World.frozen?_of_block (a := ⟨mb, 8, none⟩) (hkt t mb (by omega))).trans (hMW.own.2 8)
  have krt : ∀ i r, W.cell? ⟨mb, i, none⟩ = some r → ∀ t : Later wt, t.at_.cell? ⟨mb, i, none⟩ = some r := fun i r hr t => (World.cell?_of_block (a := ⟨mb, i, none⟩) (hkt t mb (by omega))).trans hr
  have hTt : ∀ t : Later wt, (OutI W w.heap.size W.heap.size mb n (.slice vp vl vc)) t.at_ → TabZ tb t.at_ := fun t hI => hTW.kept (hbt t hI.2.1) (by omega)
  have b00 := fun (t : Later wt) (hI : (OutI W w.heap.size W.heap.size mb n (.slice vp vl vc)) t.at_) => (hI.cell (k := w.heap.size) (i := 0) (by omega) (by omega)).trans e00
  have b01 := fun (t : Later wt) (hI : (OutI W w.heap.size W.heap.size mb n (.slice vp vl vc)) t.at_) => (hI.cell (k := w.heap.size) (i := 1) (by omega) (by omega)).trans e01
  have b10 := fun (t : Later wt) (hI : (OutI W w.heap.size W.heap.size mb n (.slice vp vl vc)) t.at_) => (hI.cell (k := w.heap.size + 1) (i := 0) (by omega) (by omega)).trans e10
  have b11 := fun (t : Later wt) (hI : (OutI W w.heap.size W.heap.size mb n (.slice vp vl vc)) t.at_) => (hI.cell (k := w.heap.size + 1) (i := 1) (by omega) (by omega)).trans e11
  have b12 := fun (t : Later wt) (hI : (OutI W w.heap.size W.heap.size mb n (.slice vp vl vc)) t.at_) => (hI.cell (k := w.heap.size + 1) (i := 2) (by omega) (by omega)).trans e12
  have b13 := fun (t : Later wt) (hI : (OutI W w.heap.size W.heap.size mb n (.slice vp vl vc)) t.at_) => (hI.cell (k := w.heap.size + 1) (i := 3) (by omega) (by omega)).trans e13
  have b14 := fun (t : Later wt) (hI : (OutI W w.heap.size W.heap.size mb n (.slice vp vl vc)) t.at_) => (hI.cell (k := w.heap.size + 1) (i := 4) (by omega) (by omega)).trans e14
  have b15 := fun (t : Later wt) (hI : (OutI W w.heap.size W.heap.size mb n (.slice vp vl vc)) t.at_) => (hI.cell (k := w.heap.size + 1) (i := 5) (by omega) (by omega)).trans e15
  have hne2 : Nonempty (Later wt) := ⟨⟨W, hWt⟩⟩
  have HMW := hide hMW
  have HBW := hide hBW
  have HTT := hide hTt
  have HI0 := hide hI0
  have hz1 : mb + 1 ≤ W.heap.size := by omega
  clear hMW hoW hTW hW hBW hTt krt hI0 hkt ko kd ka kb fd hne c00 e00 c01 e01 c10 e10 c11 e11 c12 e12 c13 e13 c14 e14 c15 e15
  refine Go.LaxS.region_out (⟨W, hWt⟩ : Later wt) 11 8 [(2, fun v => v = .pointer (some ⟨mb, 0, none⟩)), (6, fun v => v = fmt E M), (8, fun v => ∃ s : ByteArray, v = .string s ∧ s.size ≤ 300000), (9, fun v => ∃ b, v = .slice (some ⟨b, 0, none⟩) 1 1), (10, fun v => ∃ a b c, v = .slice a b c)] 9 10 (OutI W w.heap.size W.heap.size mb n (.slice vp vl vc)) (OutB w.heap.size) (OutA mb n) (by kernel_rfl) (by kernel_rfl) (by kernel_rfl) (by kernel_rfl) (unhide HI0) OutI.later OutB.later OutA.later (List.forall_mem_cons.2 ⟨⟨_, rfl⟩, List.forall_mem_cons.2 ⟨⟨_, rfl⟩, List.forall_mem_cons.2 ⟨⟨_, ⟨#[]⟩, rfl, by decide⟩, List.forall_mem_cons.2 ⟨⟨_, 0, rfl⟩, List.forall_mem_cons.2 ⟨⟨_, none, 0, 0, rfl⟩, fun _ h => by cases h⟩⟩⟩⟩⟩) ?_
  (refine Go.LaxS.walk_det rfl rfl rfl rfl ?_; go_big_quiet_want; go_big_quiet_op; go_big_quiet_on; refine wpQuiet_nil ?_)
  (refine Go.LaxS.walk_det rfl rfl rfl rfl ?_; go_big_quiet_want; go_big_quiet_op; go_big_quiet_on; refine wpQuiet_nil ?_)
  refine Go.LaxS.out_call rfl (by decide) (by decide) rfl OutI.later ?_ (fun y__ K__ hI__ hK__ => by (have HK__ := Go.Proofs.YgcoaaGreat.NatW.hide hK__; clear hK__; go_wp2_with fail; exact Go.Proofs.YgcoaaGreat.NatW.unhide HK__ _ _ rfl (Below.refl _ _)))
  rintro v rfl
  ((try dsimp only); go_big_quiet_want; go_big_quiet_op; go_big_quiet_on; refine wpQuiet_nil ?_)
  (refine Go.LaxS.walk_det rfl rfl rfl rfl ?_; go_big_quiet_want; go_big_quiet_op; go_big_quiet_on; refine wpQuiet_nil ?_)
  (refine Go.LaxS.walk_det rfl rfl rfl rfl ?_; go_big_quiet_want; go_big_quiet_op; go_big_quiet_on; refine wpQuiet_nil ?_)
  (refine Go.LaxS.walk_det rfl rfl rfl rfl ?_; go_big_quiet_want; go_big_quiet_op; go_big_quiet_on; refine wpQuiet_nil ?_)
  refine Go.LaxS.out_call rfl (by decide) (by decide) rfl OutI.later ?_ (fun y K hI hK => by
    have ab00 := b00 _ hI
    have ab01 := b01 _ hI
    have HK := hide hK
    clear hK
    go_wp2_with fail
    exact unhide HK _ _ rfl (Below.refl _ _))
  rintro v rfl
  ((try dsimp only); go_big_quiet_want; go_big_quiet_op; go_big_quiet_on; refine wpQuiet_nil ?_)
  (refine Go.LaxS.walk_det rfl rfl rfl rfl ?_; go_big_quiet_want; go_big_quiet_op; go_big_quiet_on; refine wpQuiet_nil ?_)
  refine Go.LaxS.out_call rfl (by decide) (by decide) rfl OutI.later ?_ (fun y__ K__ hI__ hK__ => by (have hT__ := (unhide HTT) y__ hI__; go_wp2_with fail; refine (show_zero tb E M hf X HX) _ _ hT__ ?_; intro v__ w__ hv__ hb__; have hh__ := Go.Proofs.YgcoaaGreat.NatW.hide (hK__ v__ w__ hv__ hb__); clear hK__ hv__; go_wp2_with fail; exact Eq.mp (by kernel_rfl) (Go.Proofs.YgcoaaGreat.NatW.unhide hh__)))
  rintro v ⟨st, rfl, hst5⟩
  ((try dsimp only); go_big_quiet_want; go_big_quiet_op; go_big_quiet_on; refine wpQuiet_nil ?_)
  refine Go.LaxS.out_bs rfl (by decide) rfl OutI.later ?_ (fun y K hI hK => by
    have HK := hide hK
    have hl : w.heap.size ≤ y.at_.heap.size := by have := hI.2.1; omega
    clear hK
    go_wp2_with fail
    exact unhide HK _ _ ⟨_, rfl⟩ ⟨_, _, rfl, hl, by rw [World.cell?_alloc_new]; rfl⟩ ((Below.refl _ _).alloc (Nat.le_refl _) _))
  rintro v ⟨sb, rfl⟩
  ((try dsimp only); go_big_quiet_want; go_big_quiet_op; go_big_quiet_on; refine wpQuiet_nil ?_)
  refine Go.LaxS.out_ap _ rfl (by decide) rfl (by kernel_rfl) (by (repeat (first | exact List.Mem.head _ | apply List.Mem.tail))) ?_ (fun y K hI hB hK => by
    refine wpList_appO rfl _ _ rfl rfl rfl (fun ty => ?_)
    obtain ⟨v', w', q1, q2, q3, q4, q5⟩ := out_app (unhide HG0) hn hz1 ty hI hB
    obtain ⟨p1, p2, p3, rfl⟩ := Own.slice q2
    refine ⟨_, w', q1, ?_⟩
    refine ⟨rfl, ?_⟩
    exact hK _ _ ⟨_, _, _, rfl⟩ q2 (y.ok.trans (q5.mono (by omega))) q3 q4)
  rintro v ⟨p1, p2, p3, rfl⟩
  ((try dsimp only); go_big_quiet_want; go_big_quiet_op; go_big_quiet_on; refine wpQuiet_nil ?_)
  refine Go.LaxS.out_end _ (by decide) (by (repeat (first | exact List.Mem.head _ | apply List.Mem.tail))) ?_
  intro y9 hI9 hA9
  have HA9 := hide hA9
  have HB9 := hide (hbt y9 hI9.2.1)
  have k9 := kot y9
  have fr9 := fot y9
  clear hA9 hI9
  go_wp2_with fail
  all_goals first
    | (refine bodyPost_box rfl ?_; intro r hr; simp [results, Oaag.results82, go_sem] at hr; subst hr; refine ⟨_, rfl, ?_⟩
       exact unhide HK (n + 1) _ (by omega) ((unhide HMW).app (unhide HB9) (unhide HA9)) (below_store (((unhide HBW).mono (by omega)).trans ((unhide HB9).mono (by omega))) (Nat.le_refl _) _))
    | skip


end Go.Proofs.YgcoaaGreat.NatW
