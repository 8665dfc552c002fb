/-
  na.Step: the kinds that put out a word.
-/
import Derived.Test.YgcoaaGreatNaI
set_option linter.unusedVariables false
set_option linter.unusedSimpArgs false
set_option maxRecDepth 20000
namespace Go.Proofs.YgcoaaGreat.NatW
open Go.RowKit
open Go.Proofs.YgcoaaGreat.Det
open Go.Proofs.YgcoaaGreat.Limbs Go.Proofs.YgcoaaGreat.Bits
attribute [local go_sem] Go.Instr.field Go.asAgg

set_option maxHeartbeats 4000000 in
theorem nx_83_8 (E M : Nat) (q : Bool) (hq : NaF E M q) (md kD kA kB imm : Int) (hmd : md = 0 ∨ 4 < md) (text : ByteArray) (di ai bi : Nat) (hdi : bits .and .u8 kD 7 = (di : Int)) (hdi8 : di < 8) (hai : bits .and .u8 kA 7 = (ai : Int)) (hai8 : ai < 8) (hbi : bits .and .u8 kB 7 = (bi : Int)) (hbi8 : bi < 8) (R : Nat → Int) (L : List Value) (hn : L.length ≤ 1000) (s0 : ByteArray)
    (hD0 : ∀ tb, DFT tb 151 #[.bool q, .int .u64 (R ai), .int .u64 (R bi)] (.string s0)) : SX 83 E M md 8 kD kA kB imm text R L R (L ++ [.string s0]) := by
  intro tb mb w K htb ho h hK
  have hf := hq.fok
  obtain ⟨g1, g2, g3, g4⟩ := fok_bd hf
  have HK := hide hK
  clear hK
  obtain ⟨wb, x0, hwb, r0, r1, hB, hZ⟩ := boxes2 w #[.int .u8 E, .int .u8 M] #[.int .u8 8, .int .u8 kD, .int .u8 kA, .int .u8 kB, .int .u64 imm, .string text] 23 91
  have c00 : ∀ x : Later wb, _ = some (.int .u8 E : Value) := Later.cell r0 0 _ rfl
  have c01 : ∀ x : Later wb, _ = some (.int .u8 M : Value) := Later.cell r0 1 _ rfl
  have c10 : ∀ x : Later wb, _ = some (.int .u8 8 : Value) := Later.cell r1 0 _ rfl
  have c11 : ∀ x : Later wb, _ = some (.int .u8 kD : Value) := Later.cell r1 1 _ rfl
  have c12 : ∀ x : Later wb, _ = some (.int .u8 kA : Value) := Later.cell r1 2 _ rfl
  have c13 : ∀ x : Later wb, _ = some (.int .u8 kB : Value) := Later.cell r1 3 _ rfl
  have c14 : ∀ x : Later wb, _ = some (.int .u64 imm : Value) := Later.cell r1 4 _ rfl
  have c15 : ∀ x : Later wb, _ = some (.string text : Value) := Later.cell r1 5 _ rfl
  have hne : Nonempty (Later wb) := ⟨x0⟩
  have hm' : ∀ y : Later wb, MX mb R L y.at_ := fun y => h.later (hB y)
  have hon : ∀ y : Later wb, On tb y.at_ := fun y => ho.later (hB y)
  have kd : ∀ y : Later wb, y.at_.cell? ⟨mb, di, none⟩ = some (.int .u64 (R di)) := fun y => ((hB y).cell (p := ⟨mb, di, none⟩) h.own.1).trans (h.reg di hdi8)
  have ka : ∀ y : Later wb, y.at_.cell? ⟨mb, ai, none⟩ = some (.int .u64 (R ai)) := fun y => ((hB y).cell (p := ⟨mb, ai, none⟩) h.own.1).trans (h.reg ai hai8)
  have kb : ∀ y : Later wb, y.at_.cell? ⟨mb, bi, none⟩ = some (.int .u64 (R bi)) := fun y => ((hB y).cell (p := ⟨mb, bi, none⟩) h.own.1).trans (h.reg bi hbi8)
  have fd : ∀ y : Later wb, y.at_.frozen? ⟨mb, di, none⟩ = false := fun y => (hm' y).own.2 di
  have hml := h.own.1
  have HON := hide hon
  have HM := hide hm'
  obtain ⟨vo, kvo, hown0⟩ := h.out
  obtain ⟨vp, vl, vc, rfl⟩ := hown0.slice
  have hg0 := hown0.block
  have HO := hide (fun y : Later wb => hown0.kept (hB y))
  have ko : ∀ y : Later wb, y.at_.cell? ⟨mb, 8, none⟩ = some (.slice vp vl vc) := fun y => ((hB y).cell (p := ⟨mb, 8, none⟩) h.own.1).trans kvo
  have HG0 := hide hg0
  clear hown0 kvo hg0
  have HD0 := hide (hD0 tb)
  refine na_head83 E M q hq md 8 kD kA kB imm text di ai bi hdi hdi8 hai hai8 hbi hbi8 R L tb mb w K h hmd wb x0 hwb r0 r1 hB _ rfl ?_
  clear h ho hon hm' r0 r1 hD0
  intro y u14 u15 u16 u17 u18 u19 u20 u21 u22 u23 u24 u25 u26 u27 u28 u29 u30 u31 u32 u33 u34 u35 u36 u37 u38 u39 u40 u41 u42 u43 u44 u45 u46 u47 u48 u49 u50 u51 u52 u53 u54 u55 u56 u57 u58 u59 u60 u61 u62 u63
  generalize hQ : bodyPost Oaag.prog Oaag.f83 K = Q
  dsimp only [sR, bodyOf, Oaag.f83, Option.getD]
  subst hQ
  go_wp2_with fail
  (with_reducible refine at_reg 18 ?_)
  (repeat (first | (rewrite [Go.Proofs.YgcoaaGreat.NatW.frz_ite]; generalize Go.Proofs.YgcoaaGreat.NatW.frzI _ = x__) | (rewrite [Go.Proofs.YgcoaaGreat.NatW.frz_dec]; generalize Go.Proofs.YgcoaaGreat.NatW.frzB _ = x__) | (rewrite [Go.Proofs.YgcoaaGreat.NatW.frz_beq]; generalize Go.Proofs.YgcoaaGreat.NatW.frzB _ = x__) | (rewrite [Go.Proofs.YgcoaaGreat.NatW.frz_not]; generalize Go.Proofs.YgcoaaGreat.NatW.frzB _ = x__) | (rewrite [Go.Proofs.YgcoaaGreat.NatW.frz_and]; generalize Go.Proofs.YgcoaaGreat.NatW.frzB _ = x__) | (rewrite [Go.Proofs.YgcoaaGreat.NatW.frz_or]; generalize Go.Proofs.YgcoaaGreat.NatW.frzB _ = x__) | (rewrite [show ∀ (a b : Int), Value.bool (a != b) = Value.bool (Go.Proofs.YgcoaaGreat.NatW.frzB (a != b)) from fun _ _ => rfl]; generalize Go.Proofs.YgcoaaGreat.NatW.frzB _ = x__)))
  ((first | with_reducible refine gen_calls ?_ | with_reducible refine gen_wp ?_ | with_reducible refine gen_list ?_ | with_reducible refine gen_body ?_); intro W hW)
  have hMW : MX mb R L W := by rw [← hW]; exact unhide HM _
  have hBW : Below w.heap.size w W := by rw [← hW]; exact hB _
  have hzW : w.heap.size + 2 ≤ W.heap.size := by rw [← hW]; exact hZ _
  have hoW : OwnL W (mb + 1) (.slice vp vl vc) L := by rw [← hW]; exact unhide HO _
  have hTW : On tb W := by rw [← hW]; exact unhide HON _
  have e00 := c00 y
  have e01 := c01 y
  have e10 := c10 y
  have e11 := c11 y
  have e12 := c12 y
  have e13 := c13 y
  have e14 := c14 y
  have e15 := c15 y
  rw [hW] at e00 e01 e10 e11 e12 e13 e14 e15
  obtain ⟨wt, hWt, hst, hkt, hbt⟩ := trunc2 W (mb + 1) (by omega)
  have hI0 : OxI W w.heap.size W.heap.size mb L (.slice vp vl vc) W := ⟨hoW, Nat.le_refl _, fun _ _ _ => rfl⟩
  have kot : ∀ t : Later wt, t.at_.cell? ⟨mb, 8, none⟩ = some (.slice vp vl vc) := fun t => (World.cell?_of_block (a := ⟨mb, 8, none⟩) (hkt t mb (by omega))).trans (hW ▸ ko y)
  have fot : ∀ t : Later wt, t.at_.frozen? ⟨mb, 8, none⟩ = false := fun t => (World.frozen?_of_block (a := ⟨mb, 8, none⟩) (hkt t mb (by omega))).trans (hMW.own.2 8)
  have hTt : ∀ t : Later wt, (OxI W w.heap.size W.heap.size mb L (.slice vp vl vc)) t.at_ → On tb t.at_ := fun t hI => hTW.kept (hbt t hI.2.1) (by omega)
  have b00 := fun (t : Later wt) (hI : (OxI W w.heap.size W.heap.size mb L (.slice vp vl vc)) t.at_) => (hI.cell (k := w.heap.size) (i := 0) (by omega) (by omega)).trans e00
  have b01 := fun (t : Later wt) (hI : (OxI W w.heap.size W.heap.size mb L (.slice vp vl vc)) t.at_) => (hI.cell (k := w.heap.size) (i := 1) (by omega) (by omega)).trans e01
  have b10 := fun (t : Later wt) (hI : (OxI W w.heap.size W.heap.size mb L (.slice vp vl vc)) t.at_) => (hI.cell (k := w.heap.size + 1) (i := 0) (by omega) (by omega)).trans e10
  have b11 := fun (t : Later wt) (hI : (OxI W w.heap.size W.heap.size mb L (.slice vp vl vc)) t.at_) => (hI.cell (k := w.heap.size + 1) (i := 1) (by omega) (by omega)).trans e11
  have b12 := fun (t : Later wt) (hI : (OxI W w.heap.size W.heap.size mb L (.slice vp vl vc)) t.at_) => (hI.cell (k := w.heap.size + 1) (i := 2) (by omega) (by omega)).trans e12
  have b13 := fun (t : Later wt) (hI : (OxI W w.heap.size W.heap.size mb L (.slice vp vl vc)) t.at_) => (hI.cell (k := w.heap.size + 1) (i := 3) (by omega) (by omega)).trans e13
  have b14 := fun (t : Later wt) (hI : (OxI W w.heap.size W.heap.size mb L (.slice vp vl vc)) t.at_) => (hI.cell (k := w.heap.size + 1) (i := 4) (by omega) (by omega)).trans e14
  have b15 := fun (t : Later wt) (hI : (OxI W w.heap.size W.heap.size mb L (.slice vp vl vc)) t.at_) => (hI.cell (k := w.heap.size + 1) (i := 5) (by omega) (by omega)).trans e15
  have hne2 : Nonempty (Later wt) := ⟨⟨W, hWt⟩⟩
  have HMW := hide hMW
  have HBW := hide hBW
  have HTT := hide hTt
  have HI0 := hide hI0
  have hz1 : mb + 1 ≤ W.heap.size := by omega
  clear hMW hoW hTW hW hBW hTt hI0 hkt ko kd ka kb fd hne c00 e00 c01 e01 c10 e10 c11 e11 c12 e12 c13 e13 c14 e14 c15 e15
  refine Go.LaxS.region_out (⟨W, hWt⟩ : Later wt) 11 8 [(2, fun v => v = .pointer (some ⟨mb, 0, none⟩)), (8, fun v => v = .string s0), (9, fun v => ∃ b, v = .slice (some ⟨b, 0, none⟩) 1 1), (10, fun v => ∃ a b c, v = .slice a b c)] 9 10 (OxI W w.heap.size W.heap.size mb L (.slice vp vl vc)) (OxB w.heap.size s0) (OxA mb L s0) (by kernel_rfl) (by kernel_rfl) (by kernel_rfl) (by kernel_rfl) (unhide HI0) OxI.later OxB.later OxA.later (List.forall_mem_cons.2 ⟨⟨_, rfl⟩, List.forall_mem_cons.2 ⟨⟨_, rfl⟩, List.forall_mem_cons.2 ⟨⟨_, 0, rfl⟩, List.forall_mem_cons.2 ⟨⟨_, none, 0, 0, rfl⟩, fun _ h => by cases h⟩⟩⟩⟩) ?_
  (refine Go.LaxS.walk_det rfl rfl rfl rfl ?_; go_big_quiet_want; go_big_quiet_op; go_big_quiet_on; refine wpQuiet_nil ?_)
  (refine Go.LaxS.walk_det rfl rfl rfl rfl ?_; go_big_quiet_want; go_big_quiet_op; go_big_quiet_on; refine wpQuiet_nil ?_)
  refine Go.LaxS.out_call rfl (by decide) (by decide) rfl OxI.later ?_ (fun y__ K__ hI__ hK__ => by (have HK__ := hide hK__; clear hK__; go_wp2_with fail; exact unhide HK__ _ _ rfl (Below.refl _ _)))
  rintro v rfl
  ((try dsimp only); go_big_quiet_want; go_big_quiet_op; go_big_quiet_on; refine wpQuiet_nil ?_)
  (refine Go.LaxS.walk_det rfl rfl rfl rfl ?_; go_big_quiet_want; go_big_quiet_op; go_big_quiet_on; refine wpQuiet_nil ?_)
  (refine Go.LaxS.walk_det rfl rfl rfl rfl ?_; go_big_quiet_want; go_big_quiet_op; go_big_quiet_on; refine wpQuiet_nil ?_)
  (refine Go.LaxS.walk_det rfl rfl rfl rfl ?_; go_big_quiet_want; go_big_quiet_op; go_big_quiet_on; refine wpQuiet_nil ?_)
  (refine Go.LaxS.walk_det rfl rfl rfl rfl ?_; go_big_quiet_want; go_big_quiet_op; go_big_quiet_on; refine wpQuiet_nil ?_)
  (refine Go.LaxS.walk_det rfl rfl rfl rfl ?_; go_big_quiet_want; go_big_quiet_op; go_big_quiet_on; refine wpQuiet_nil ?_)
  refine Go.LaxS.out_call rfl (by decide) (by decide) rfl OxI.later ?_ (fun y__ K__ hI__ hK__ => by (go_wp2_with fail; refine (unhide HD0) _ _ ((unhide HTT) _ hI__) ?_; intro w__ hb__; have hh__ := hide (hK__ _ w__ rfl hb__); clear hK__; go_wp2_with fail; exact Eq.mp (by kernel_rfl) (unhide hh__)))
  rintro v rfl
  ((try dsimp only); go_big_quiet_want; go_big_quiet_op; go_big_quiet_on; refine wpQuiet_nil ?_)
  refine Go.LaxS.out_bs rfl (by decide) rfl OxI.later ?_ (fun y K hI hK => by
    have HK := hide hK
    have hl : w.heap.size ≤ y.at_.heap.size := by have := hI.2.1; omega
    clear hK
    go_wp2_with fail
    exact unhide HK _ _ ⟨_, rfl⟩ ⟨_, rfl, hl, by rw [World.cell?_alloc_new]; rfl⟩ ((Below.refl _ _).alloc (Nat.le_refl _) _))
  rintro v ⟨sb, rfl⟩
  ((try dsimp only); go_big_quiet_want; go_big_quiet_op; go_big_quiet_on; refine wpQuiet_nil ?_)
  refine Go.LaxS.out_ap _ rfl (by decide) rfl (by kernel_rfl) (by (repeat (first | exact List.Mem.head _ | apply List.Mem.tail))) ?_ (fun y K hI hB hK => by
    refine wpList_appO rfl _ _ rfl rfl rfl (fun ty => ?_)
    obtain ⟨v', w', q1, q2, q3, q4, q5⟩ := ox_app (unhide HG0) hn hz1 ty hI hB
    obtain ⟨p1, p2, p3, rfl⟩ := OwnL.slice q2
    refine ⟨_, w', q1, ?_⟩
    refine ⟨rfl, ?_⟩
    exact hK _ _ ⟨_, _, _, rfl⟩ q2 (y.ok.trans (q5.mono (by omega))) q3 q4)
  rintro v ⟨p1, p2, p3, rfl⟩
  ((try dsimp only); go_big_quiet_want; go_big_quiet_op; go_big_quiet_on; refine wpQuiet_nil ?_)
  refine Go.LaxS.out_end _ (by decide) (by (repeat (first | exact List.Mem.head _ | apply List.Mem.tail))) ?_
  intro y9 hI9 hA9
  have HA9 := hide hA9
  have HB9 := hide (hbt y9 hI9.2.1)
  have k9 := kot y9
  have fr9 := fot y9
  clear hA9 hI9
  go_wp2_with fail
  all_goals first
    | (refine bodyPost_box rfl ?_; intro r hr; simp [results, Oaag.results83, go_sem] at hr; subst hr; refine ⟨_, rfl, ?_⟩
       exact unhide HK _ ((unhide HMW).app (unhide HB9) (unhide HA9)) (below_store (((unhide HBW).mono (by omega)).trans ((unhide HB9).mono (by omega))) (Nat.le_refl _) _))
    | fail

set_option maxHeartbeats 4000000 in
theorem nx_83_11 (E M : Nat) (q : Bool) (hq : NaF E M q) (md kD kA kB imm : Int) (hmd : md = 0 ∨ 4 < md) (text : ByteArray) (di ai bi : Nat) (hdi : bits .and .u8 kD 7 = (di : Int)) (hdi8 : di < 8) (hai : bits .and .u8 kA 7 = (ai : Int)) (hai8 : ai < 8) (hbi : bits .and .u8 kB 7 = (bi : Int)) (hbi8 : bi < 8) (R : Nat → Int) (L : List Value) (hn : L.length ≤ 1000) (s0 : ByteArray)
    (hD0 : ∀ tb, DFT tb 153 #[.bool q, .int .u64 (R ai)] (.string s0)) : SX 83 E M md 11 kD kA kB imm text R L R (L ++ [.string s0]) := by
  intro tb mb w K htb ho h hK
  have hf := hq.fok
  obtain ⟨g1, g2, g3, g4⟩ := fok_bd hf
  have HK := hide hK
  clear hK
  obtain ⟨wb, x0, hwb, r0, r1, hB, hZ⟩ := boxes2 w #[.int .u8 E, .int .u8 M] #[.int .u8 11, .int .u8 kD, .int .u8 kA, .int .u8 kB, .int .u64 imm, .string text] 23 91
  have c00 : ∀ x : Later wb, _ = some (.int .u8 E : Value) := Later.cell r0 0 _ rfl
  have c01 : ∀ x : Later wb, _ = some (.int .u8 M : Value) := Later.cell r0 1 _ rfl
  have c10 : ∀ x : Later wb, _ = some (.int .u8 11 : Value) := Later.cell r1 0 _ rfl
  have c11 : ∀ x : Later wb, _ = some (.int .u8 kD : Value) := Later.cell r1 1 _ rfl
  have c12 : ∀ x : Later wb, _ = some (.int .u8 kA : Value) := Later.cell r1 2 _ rfl
  have c13 : ∀ x : Later wb, _ = some (.int .u8 kB : Value) := Later.cell r1 3 _ rfl
  have c14 : ∀ x : Later wb, _ = some (.int .u64 imm : Value) := Later.cell r1 4 _ rfl
  have c15 : ∀ x : Later wb, _ = some (.string text : Value) := Later.cell r1 5 _ rfl
  have hne : Nonempty (Later wb) := ⟨x0⟩
  have hm' : ∀ y : Later wb, MX mb R L y.at_ := fun y => h.later (hB y)
  have hon : ∀ y : Later wb, On tb y.at_ := fun y => ho.later (hB y)
  have kd : ∀ y : Later wb, y.at_.cell? ⟨mb, di, none⟩ = some (.int .u64 (R di)) := fun y => ((hB y).cell (p := ⟨mb, di, none⟩) h.own.1).trans (h.reg di hdi8)
  have ka : ∀ y : Later wb, y.at_.cell? ⟨mb, ai, none⟩ = some (.int .u64 (R ai)) := fun y => ((hB y).cell (p := ⟨mb, ai, none⟩) h.own.1).trans (h.reg ai hai8)
  have kb : ∀ y : Later wb, y.at_.cell? ⟨mb, bi, none⟩ = some (.int .u64 (R bi)) := fun y => ((hB y).cell (p := ⟨mb, bi, none⟩) h.own.1).trans (h.reg bi hbi8)
  have fd : ∀ y : Later wb, y.at_.frozen? ⟨mb, di, none⟩ = false := fun y => (hm' y).own.2 di
  have hml := h.own.1
  have HON := hide hon
  have HM := hide hm'
  obtain ⟨vo, kvo, hown0⟩ := h.out
  obtain ⟨vp, vl, vc, rfl⟩ := hown0.slice
  have hg0 := hown0.block
  have HO := hide (fun y : Later wb => hown0.kept (hB y))
  have ko : ∀ y : Later wb, y.at_.cell? ⟨mb, 8, none⟩ = some (.slice vp vl vc) := fun y => ((hB y).cell (p := ⟨mb, 8, none⟩) h.own.1).trans kvo
  have HG0 := hide hg0
  clear hown0 kvo hg0
  have HD0 := hide (hD0 tb)
  refine na_head83 E M q hq md 11 kD kA kB imm text di ai bi hdi hdi8 hai hai8 hbi hbi8 R L tb mb w K h hmd wb x0 hwb r0 r1 hB _ rfl ?_
  clear h ho hon hm' r0 r1 hD0
  intro y u14 u15 u16 u17 u18 u19 u20 u21 u22 u23 u24 u25 u26 u27 u28 u29 u30 u31 u32 u33 u34 u35 u36 u37 u38 u39 u40 u41 u42 u43 u44 u45 u46 u47 u48 u49 u50 u51 u52 u53 u54 u55 u56 u57 u58 u59 u60 u61 u62 u63
  generalize hQ : bodyPost Oaag.prog Oaag.f83 K = Q
  dsimp only [sR, bodyOf, Oaag.f83, Option.getD]
  subst hQ
  go_wp2_with fail
  (with_reducible refine at_reg 23 ?_)
  (repeat (first | (rewrite [Go.Proofs.YgcoaaGreat.NatW.frz_ite]; generalize Go.Proofs.YgcoaaGreat.NatW.frzI _ = x__) | (rewrite [Go.Proofs.YgcoaaGreat.NatW.frz_dec]; generalize Go.Proofs.YgcoaaGreat.NatW.frzB _ = x__) | (rewrite [Go.Proofs.YgcoaaGreat.NatW.frz_beq]; generalize Go.Proofs.YgcoaaGreat.NatW.frzB _ = x__) | (rewrite [Go.Proofs.YgcoaaGreat.NatW.frz_not]; generalize Go.Proofs.YgcoaaGreat.NatW.frzB _ = x__) | (rewrite [Go.Proofs.YgcoaaGreat.NatW.frz_and]; generalize Go.Proofs.YgcoaaGreat.NatW.frzB _ = x__) | (rewrite [Go.Proofs.YgcoaaGreat.NatW.frz_or]; generalize Go.Proofs.YgcoaaGreat.NatW.frzB _ = x__) | (rewrite [show ∀ (a b : Int), Value.bool (a != b) = Value.bool (Go.Proofs.YgcoaaGreat.NatW.frzB (a != b)) from fun _ _ => rfl]; generalize Go.Proofs.YgcoaaGreat.NatW.frzB _ = x__)))
  ((first | with_reducible refine gen_calls ?_ | with_reducible refine gen_wp ?_ | with_reducible refine gen_list ?_ | with_reducible refine gen_body ?_); intro W hW)
  have hMW : MX mb R L W := by rw [← hW]; exact unhide HM _
  have hBW : Below w.heap.size w W := by rw [← hW]; exact hB _
  have hzW : w.heap.size + 2 ≤ W.heap.size := by rw [← hW]; exact hZ _
  have hoW : OwnL W (mb + 1) (.slice vp vl vc) L := by rw [← hW]; exact unhide HO _
  have hTW : On tb W := by rw [← hW]; exact unhide HON _
  have e00 := c00 y
  have e01 := c01 y
  have e10 := c10 y
  have e11 := c11 y
  have e12 := c12 y
  have e13 := c13 y
  have e14 := c14 y
  have e15 := c15 y
  rw [hW] at e00 e01 e10 e11 e12 e13 e14 e15
  obtain ⟨wt, hWt, hst, hkt, hbt⟩ := trunc2 W (mb + 1) (by omega)
  have hI0 : OxI W w.heap.size W.heap.size mb L (.slice vp vl vc) W := ⟨hoW, Nat.le_refl _, fun _ _ _ => rfl⟩
  have kot : ∀ t : Later wt, t.at_.cell? ⟨mb, 8, none⟩ = some (.slice vp vl vc) := fun t => (World.cell?_of_block (a := ⟨mb, 8, none⟩) (hkt t mb (by omega))).trans (hW ▸ ko y)
  have fot : ∀ t : Later wt, t.at_.frozen? ⟨mb, 8, none⟩ = false := fun t => (World.frozen?_of_block (a := ⟨mb, 8, none⟩) (hkt t mb (by omega))).trans (hMW.own.2 8)
  have hTt : ∀ t : Later wt, (OxI W w.heap.size W.heap.size mb L (.slice vp vl vc)) t.at_ → On tb t.at_ := fun t hI => hTW.kept (hbt t hI.2.1) (by omega)
  have b00 := fun (t : Later wt) (hI : (OxI W w.heap.size W.heap.size mb L (.slice vp vl vc)) t.at_) => (hI.cell (k := w.heap.size) (i := 0) (by omega) (by omega)).trans e00
  have b01 := fun (t : Later wt) (hI : (OxI W w.heap.size W.heap.size mb L (.slice vp vl vc)) t.at_) => (hI.cell (k := w.heap.size) (i := 1) (by omega) (by omega)).trans e01
  have b10 := fun (t : Later wt) (hI : (OxI W w.heap.size W.heap.size mb L (.slice vp vl vc)) t.at_) => (hI.cell (k := w.heap.size + 1) (i := 0) (by omega) (by omega)).trans e10
  have b11 := fun (t : Later wt) (hI : (OxI W w.heap.size W.heap.size mb L (.slice vp vl vc)) t.at_) => (hI.cell (k := w.heap.size + 1) (i := 1) (by omega) (by omega)).trans e11
  have b12 := fun (t : Later wt) (hI : (OxI W w.heap.size W.heap.size mb L (.slice vp vl vc)) t.at_) => (hI.cell (k := w.heap.size + 1) (i := 2) (by omega) (by omega)).trans e12
  have b13 := fun (t : Later wt) (hI : (OxI W w.heap.size W.heap.size mb L (.slice vp vl vc)) t.at_) => (hI.cell (k := w.heap.size + 1) (i := 3) (by omega) (by omega)).trans e13
  have b14 := fun (t : Later wt) (hI : (OxI W w.heap.size W.heap.size mb L (.slice vp vl vc)) t.at_) => (hI.cell (k := w.heap.size + 1) (i := 4) (by omega) (by omega)).trans e14
  have b15 := fun (t : Later wt) (hI : (OxI W w.heap.size W.heap.size mb L (.slice vp vl vc)) t.at_) => (hI.cell (k := w.heap.size + 1) (i := 5) (by omega) (by omega)).trans e15
  have hne2 : Nonempty (Later wt) := ⟨⟨W, hWt⟩⟩
  have HMW := hide hMW
  have HBW := hide hBW
  have HTT := hide hTt
  have HI0 := hide hI0
  have hz1 : mb + 1 ≤ W.heap.size := by omega
  clear hMW hoW hTW hW hBW hTt hI0 hkt ko kd ka kb fd hne c00 e00 c01 e01 c10 e10 c11 e11 c12 e12 c13 e13 c14 e14 c15 e15
  refine Go.LaxS.region_out (⟨W, hWt⟩ : Later wt) 10 8 [(2, fun v => v = .pointer (some ⟨mb, 0, none⟩)), (7, fun v => v = .string s0), (8, fun v => ∃ b, v = .slice (some ⟨b, 0, none⟩) 1 1), (9, fun v => ∃ a b c, v = .slice a b c)] 8 9 (OxI W w.heap.size W.heap.size mb L (.slice vp vl vc)) (OxB w.heap.size s0) (OxA mb L s0) (by kernel_rfl) (by kernel_rfl) (by kernel_rfl) (by kernel_rfl) (unhide HI0) OxI.later OxB.later OxA.later (List.forall_mem_cons.2 ⟨⟨_, rfl⟩, List.forall_mem_cons.2 ⟨⟨_, rfl⟩, List.forall_mem_cons.2 ⟨⟨_, 0, rfl⟩, List.forall_mem_cons.2 ⟨⟨_, none, 0, 0, rfl⟩, fun _ h => by cases h⟩⟩⟩⟩) ?_
  (refine Go.LaxS.walk_det rfl rfl rfl rfl ?_; go_big_quiet_want; go_big_quiet_op; go_big_quiet_on; refine wpQuiet_nil ?_)
  (refine Go.LaxS.walk_det rfl rfl rfl rfl ?_; go_big_quiet_want; go_big_quiet_op; go_big_quiet_on; refine wpQuiet_nil ?_)
  refine Go.LaxS.out_call rfl (by decide) (by decide) rfl OxI.later ?_ (fun y__ K__ hI__ hK__ => by (have HK__ := hide hK__; clear hK__; go_wp2_with fail; exact unhide HK__ _ _ rfl (Below.refl _ _)))
  rintro v rfl
  ((try dsimp only); go_big_quiet_want; go_big_quiet_op; go_big_quiet_on; refine wpQuiet_nil ?_)
  (refine Go.LaxS.walk_det rfl rfl rfl rfl ?_; go_big_quiet_want; go_big_quiet_op; go_big_quiet_on; refine wpQuiet_nil ?_)
  (refine Go.LaxS.walk_det rfl rfl rfl rfl ?_; go_big_quiet_want; go_big_quiet_op; go_big_quiet_on; refine wpQuiet_nil ?_)
  (refine Go.LaxS.walk_det rfl rfl rfl rfl ?_; go_big_quiet_want; go_big_quiet_op; go_big_quiet_on; refine wpQuiet_nil ?_)
  (refine Go.LaxS.walk_det rfl rfl rfl rfl ?_; go_big_quiet_want; go_big_quiet_op; go_big_quiet_on; refine wpQuiet_nil ?_)
  refine Go.LaxS.out_call rfl (by decide) (by decide) rfl OxI.later ?_ (fun y__ K__ hI__ hK__ => by (go_wp2_with fail; refine (unhide HD0) _ _ ((unhide HTT) _ hI__) ?_; intro w__ hb__; have hh__ := hide (hK__ _ w__ rfl hb__); clear hK__; go_wp2_with fail; exact Eq.mp (by kernel_rfl) (unhide hh__)))
  rintro v rfl
  ((try dsimp only); go_big_quiet_want; go_big_quiet_op; go_big_quiet_on; refine wpQuiet_nil ?_)
  refine Go.LaxS.out_bs rfl (by decide) rfl OxI.later ?_ (fun y K hI hK => by
    have HK := hide hK
    have hl : w.heap.size ≤ y.at_.heap.size := by have := hI.2.1; omega
    clear hK
    go_wp2_with fail
    exact unhide HK _ _ ⟨_, rfl⟩ ⟨_, rfl, hl, by rw [World.cell?_alloc_new]; rfl⟩ ((Below.refl _ _).alloc (Nat.le_refl _) _))
  rintro v ⟨sb, rfl⟩
  ((try dsimp only); go_big_quiet_want; go_big_quiet_op; go_big_quiet_on; refine wpQuiet_nil ?_)
  refine Go.LaxS.out_ap _ rfl (by decide) rfl (by kernel_rfl) (by (repeat (first | exact List.Mem.head _ | apply List.Mem.tail))) ?_ (fun y K hI hB hK => by
    refine wpList_appO rfl _ _ rfl rfl rfl (fun ty => ?_)
    obtain ⟨v', w', q1, q2, q3, q4, q5⟩ := ox_app (unhide HG0) hn hz1 ty hI hB
    obtain ⟨p1, p2, p3, rfl⟩ := OwnL.slice q2
    refine ⟨_, w', q1, ?_⟩
    refine ⟨rfl, ?_⟩
    exact hK _ _ ⟨_, _, _, rfl⟩ q2 (y.ok.trans (q5.mono (by omega))) q3 q4)
  rintro v ⟨p1, p2, p3, rfl⟩
  ((try dsimp only); go_big_quiet_want; go_big_quiet_op; go_big_quiet_on; refine wpQuiet_nil ?_)
  refine Go.LaxS.out_end _ (by decide) (by (repeat (first | exact List.Mem.head _ | apply List.Mem.tail))) ?_
  intro y9 hI9 hA9
  have HA9 := hide hA9
  have HB9 := hide (hbt y9 hI9.2.1)
  have k9 := kot y9
  have fr9 := fot y9
  clear hA9 hI9
  go_wp2_with fail
  all_goals first
    | (refine bodyPost_box rfl ?_; intro r hr; simp [results, Oaag.results83, go_sem] at hr; subst hr; refine ⟨_, rfl, ?_⟩
       exact unhide HK _ ((unhide HMW).app (unhide HB9) (unhide HA9)) (below_store (((unhide HBW).mono (by omega)).trans ((unhide HB9).mono (by omega))) (Nat.le_refl _) _))
    | fail

set_option maxHeartbeats 4000000 in
theorem nx_83_14 (E M : Nat) (q : Bool) (hq : NaF E M q) (md kD kA kB imm : Int) (hmd : md = 0 ∨ 4 < md) (text : ByteArray) (di ai bi : Nat) (hdi : bits .and .u8 kD 7 = (di : Int)) (hdi8 : di < 8) (hai : bits .and .u8 kA 7 = (ai : Int)) (hai8 : ai < 8) (hbi : bits .and .u8 kB 7 = (bi : Int)) (hbi8 : bi < 8) (R : Nat → Int) (L : List Value) (hn : L.length ≤ 1000) (s0 : ByteArray)
    (hD0 : ∀ tb, DFT tb 156 #[.pointer (some ⟨tb, 0, none⟩), fmt E M, .int .u64 (R ai)] (.string s0)) : SX 83 E M md 14 kD kA kB imm text R L R (L ++ [.string s0]) := by
  intro tb mb w K htb ho h hK
  have hf := hq.fok
  obtain ⟨g1, g2, g3, g4⟩ := fok_bd hf
  have HK := hide hK
  clear hK
  obtain ⟨wb, x0, hwb, r0, r1, hB, hZ⟩ := boxes2 w #[.int .u8 E, .int .u8 M] #[.int .u8 14, .int .u8 kD, .int .u8 kA, .int .u8 kB, .int .u64 imm, .string text] 23 91
  have c00 : ∀ x : Later wb, _ = some (.int .u8 E : Value) := Later.cell r0 0 _ rfl
  have c01 : ∀ x : Later wb, _ = some (.int .u8 M : Value) := Later.cell r0 1 _ rfl
  have c10 : ∀ x : Later wb, _ = some (.int .u8 14 : Value) := Later.cell r1 0 _ rfl
  have c11 : ∀ x : Later wb, _ = some (.int .u8 kD : Value) := Later.cell r1 1 _ rfl
  have c12 : ∀ x : Later wb, _ = some (.int .u8 kA : Value) := Later.cell r1 2 _ rfl
  have c13 : ∀ x : Later wb, _ = some (.int .u8 kB : Value) := Later.cell r1 3 _ rfl
  have c14 : ∀ x : Later wb, _ = some (.int .u64 imm : Value) := Later.cell r1 4 _ rfl
  have c15 : ∀ x : Later wb, _ = some (.string text : Value) := Later.cell r1 5 _ rfl
  have hne : Nonempty (Later wb) := ⟨x0⟩
  have hm' : ∀ y : Later wb, MX mb R L y.at_ := fun y => h.later (hB y)
  have hon : ∀ y : Later wb, On tb y.at_ := fun y => ho.later (hB y)
  have kd : ∀ y : Later wb, y.at_.cell? ⟨mb, di, none⟩ = some (.int .u64 (R di)) := fun y => ((hB y).cell (p := ⟨mb, di, none⟩) h.own.1).trans (h.reg di hdi8)
  have ka : ∀ y : Later wb, y.at_.cell? ⟨mb, ai, none⟩ = some (.int .u64 (R ai)) := fun y => ((hB y).cell (p := ⟨mb, ai, none⟩) h.own.1).trans (h.reg ai hai8)
  have kb : ∀ y : Later wb, y.at_.cell? ⟨mb, bi, none⟩ = some (.int .u64 (R bi)) := fun y => ((hB y).cell (p := ⟨mb, bi, none⟩) h.own.1).trans (h.reg bi hbi8)
  have fd : ∀ y : Later wb, y.at_.frozen? ⟨mb, di, none⟩ = false := fun y => (hm' y).own.2 di
  have hml := h.own.1
  have HON := hide hon
  have HM := hide hm'
  obtain ⟨vo, kvo, hown0⟩ := h.out
  obtain ⟨vp, vl, vc, rfl⟩ := hown0.slice
  have hg0 := hown0.block
  have HO := hide (fun y : Later wb => hown0.kept (hB y))
  have ko : ∀ y : Later wb, y.at_.cell? ⟨mb, 8, none⟩ = some (.slice vp vl vc) := fun y => ((hB y).cell (p := ⟨mb, 8, none⟩) h.own.1).trans kvo
  have HG0 := hide hg0
  clear hown0 kvo hg0
  have HD0 := hide (hD0 tb)
  refine na_head83 E M q hq md 14 kD kA kB imm text di ai bi hdi hdi8 hai hai8 hbi hbi8 R L tb mb w K h hmd wb x0 hwb r0 r1 hB _ rfl ?_
  clear h ho hon hm' r0 r1 hD0
  intro y u14 u15 u16 u17 u18 u19 u20 u21 u22 u23 u24 u25 u26 u27 u28 u29 u30 u31 u32 u33 u34 u35 u36 u37 u38 u39 u40 u41 u42 u43 u44 u45 u46 u47 u48 u49 u50 u51 u52 u53 u54 u55 u56 u57 u58 u59 u60 u61 u62 u63
  generalize hQ : bodyPost Oaag.prog Oaag.f83 K = Q
  dsimp only [sR, bodyOf, Oaag.f83, Option.getD]
  subst hQ
  go_wp2_with fail
  (with_reducible refine at_reg 29 ?_)
  (repeat (first | (rewrite [Go.Proofs.YgcoaaGreat.NatW.frz_ite]; generalize Go.Proofs.YgcoaaGreat.NatW.frzI _ = x__) | (rewrite [Go.Proofs.YgcoaaGreat.NatW.frz_dec]; generalize Go.Proofs.YgcoaaGreat.NatW.frzB _ = x__) | (rewrite [Go.Proofs.YgcoaaGreat.NatW.frz_beq]; generalize Go.Proofs.YgcoaaGreat.NatW.frzB _ = x__) | (rewrite [Go.Proofs.YgcoaaGreat.NatW.frz_not]; generalize Go.Proofs.YgcoaaGreat.NatW.frzB _ = x__) | (rewrite [Go.Proofs.YgcoaaGreat.NatW.frz_and]; generalize Go.Proofs.YgcoaaGreat.NatW.frzB _ = x__) | (rewrite [Go.Proofs.YgcoaaGreat.NatW.frz_or]; generalize Go.Proofs.YgcoaaGreat.NatW.frzB _ = x__) | (rewrite [show ∀ (a b : Int), Value.bool (a != b) = Value.bool (Go.Proofs.YgcoaaGreat.NatW.frzB (a != b)) from fun _ _ => rfl]; generalize Go.Proofs.YgcoaaGreat.NatW.frzB _ = x__)))
  ((first | with_reducible refine gen_calls ?_ | with_reducible refine gen_wp ?_ | with_reducible refine gen_list ?_ | with_reducible refine gen_body ?_); intro W hW)
  have hMW : MX mb R L W := by rw [← hW]; exact unhide HM _
  have hBW : Below w.heap.size w W := by rw [← hW]; exact hB _
  have hzW : w.heap.size + 2 ≤ W.heap.size := by rw [← hW]; exact hZ _
  have hoW : OwnL W (mb + 1) (.slice vp vl vc) L := by rw [← hW]; exact unhide HO _
  have hTW : On tb W := by rw [← hW]; exact unhide HON _
  have e00 := c00 y
  have e01 := c01 y
  have e10 := c10 y
  have e11 := c11 y
  have e12 := c12 y
  have e13 := c13 y
  have e14 := c14 y
  have e15 := c15 y
  rw [hW] at e00 e01 e10 e11 e12 e13 e14 e15
  obtain ⟨wt, hWt, hst, hkt, hbt⟩ := trunc2 W (mb + 1) (by omega)
  have hI0 : OxI W w.heap.size W.heap.size mb L (.slice vp vl vc) W := ⟨hoW, Nat.le_refl _, fun _ _ _ => rfl⟩
  have kot : ∀ t : Later wt, t.at_.cell? ⟨mb, 8, none⟩ = some (.slice vp vl vc) := fun t => (World.cell?_of_block (a := ⟨mb, 8, none⟩) (hkt t mb (by omega))).trans (hW ▸ ko y)
  have fot : ∀ t : Later wt, t.at_.frozen? ⟨mb, 8, none⟩ = false := fun t => (World.frozen?_of_block (a := ⟨mb, 8, none⟩) (hkt t mb (by omega))).trans (hMW.own.2 8)
  have hTt : ∀ t : Later wt, (OxI W w.heap.size W.heap.size mb L (.slice vp vl vc)) t.at_ → On tb t.at_ := fun t hI => hTW.kept (hbt t hI.2.1) (by omega)
  have b00 := fun (t : Later wt) (hI : (OxI W w.heap.size W.heap.size mb L (.slice vp vl vc)) t.at_) => (hI.cell (k := w.heap.size) (i := 0) (by omega) (by omega)).trans e00
  have b01 := fun (t : Later wt) (hI : (OxI W w.heap.size W.heap.size mb L (.slice vp vl vc)) t.at_) => (hI.cell (k := w.heap.size) (i := 1) (by omega) (by omega)).trans e01
  have b10 := fun (t : Later wt) (hI : (OxI W w.heap.size W.heap.size mb L (.slice vp vl vc)) t.at_) => (hI.cell (k := w.heap.size + 1) (i := 0) (by omega) (by omega)).trans e10
  have b11 := fun (t : Later wt) (hI : (OxI W w.heap.size W.heap.size mb L (.slice vp vl vc)) t.at_) => (hI.cell (k := w.heap.size + 1) (i := 1) (by omega) (by omega)).trans e11
  have b12 := fun (t : Later wt) (hI : (OxI W w.heap.size W.heap.size mb L (.slice vp vl vc)) t.at_) => (hI.cell (k := w.heap.size + 1) (i := 2) (by omega) (by omega)).trans e12
  have b13 := fun (t : Later wt) (hI : (OxI W w.heap.size W.heap.size mb L (.slice vp vl vc)) t.at_) => (hI.cell (k := w.heap.size + 1) (i := 3) (by omega) (by omega)).trans e13
  have b14 := fun (t : Later wt) (hI : (OxI W w.heap.size W.heap.size mb L (.slice vp vl vc)) t.at_) => (hI.cell (k := w.heap.size + 1) (i := 4) (by omega) (by omega)).trans e14
  have b15 := fun (t : Later wt) (hI : (OxI W w.heap.size W.heap.size mb L (.slice vp vl vc)) t.at_) => (hI.cell (k := w.heap.size + 1) (i := 5) (by omega) (by omega)).trans e15
  have hne2 : Nonempty (Later wt) := ⟨⟨W, hWt⟩⟩
  have HMW := hide hMW
  have HBW := hide hBW
  have HTT := hide hTt
  have HI0 := hide hI0
  have hz1 : mb + 1 ≤ W.heap.size := by omega
  clear hMW hoW hTW hW hBW hTt hI0 hkt ko kd ka kb fd hne c00 e00 c01 e01 c10 e10 c11 e11 c12 e12 c13 e13 c14 e14 c15 e15
  refine Go.LaxS.region_out (⟨W, hWt⟩ : Later wt) 11 8 [(2, fun v => v = .pointer (some ⟨mb, 0, none⟩)), (6, fun v => v = fmt E M), (8, fun v => v = .string s0), (9, fun v => ∃ b, v = .slice (some ⟨b, 0, none⟩) 1 1), (10, fun v => ∃ a b c, v = .slice a b c)] 9 10 (OxI W w.heap.size W.heap.size mb L (.slice vp vl vc)) (OxB w.heap.size s0) (OxA mb L s0) (by kernel_rfl) (by kernel_rfl) (by kernel_rfl) (by kernel_rfl) (unhide HI0) OxI.later OxB.later OxA.later (List.forall_mem_cons.2 ⟨⟨_, rfl⟩, List.forall_mem_cons.2 ⟨⟨_, rfl⟩, List.forall_mem_cons.2 ⟨⟨_, rfl⟩, List.forall_mem_cons.2 ⟨⟨_, 0, rfl⟩, List.forall_mem_cons.2 ⟨⟨_, none, 0, 0, rfl⟩, fun _ h => by cases h⟩⟩⟩⟩⟩) ?_
  (refine Go.LaxS.walk_det rfl rfl rfl rfl ?_; go_big_quiet_want; go_big_quiet_op; go_big_quiet_on; refine wpQuiet_nil ?_)
  (refine Go.LaxS.walk_det rfl rfl rfl rfl ?_; go_big_quiet_want; go_big_quiet_op; go_big_quiet_on; refine wpQuiet_nil ?_)
  refine Go.LaxS.out_call rfl (by decide) (by decide) rfl OxI.later ?_ (fun y__ K__ hI__ hK__ => by (have HK__ := hide hK__; clear hK__; go_wp2_with fail; exact unhide HK__ _ _ rfl (Below.refl _ _)))
  rintro v rfl
  ((try dsimp only); go_big_quiet_want; go_big_quiet_op; go_big_quiet_on; refine wpQuiet_nil ?_)
  (refine Go.LaxS.walk_det rfl rfl rfl rfl ?_; go_big_quiet_want; go_big_quiet_op; go_big_quiet_on; refine wpQuiet_nil ?_)
  (refine Go.LaxS.walk_det rfl rfl rfl rfl ?_; go_big_quiet_want; go_big_quiet_op; go_big_quiet_on; refine wpQuiet_nil ?_)
  (refine Go.LaxS.walk_det rfl rfl rfl rfl ?_; go_big_quiet_want; go_big_quiet_op; go_big_quiet_on; refine wpQuiet_nil ?_)
  refine Go.LaxS.out_call rfl (by decide) (by decide) rfl OxI.later ?_ (fun y K hI hK => by
    have ab00 := b00 _ hI
    have ab01 := b01 _ hI
    have HK := hide hK
    clear hK
    go_wp2_with fail
    exact unhide HK _ _ rfl (Below.refl _ _))
  rintro v rfl
  ((try dsimp only); go_big_quiet_want; go_big_quiet_op; go_big_quiet_on; refine wpQuiet_nil ?_)
  (refine Go.LaxS.walk_det rfl rfl rfl rfl ?_; go_big_quiet_want; go_big_quiet_op; go_big_quiet_on; refine wpQuiet_nil ?_)
  refine Go.LaxS.out_call rfl (by decide) (by decide) rfl OxI.later ?_ (fun y__ K__ hI__ hK__ => by (go_wp2_with fail; refine (unhide HD0) _ _ ((unhide HTT) _ hI__) ?_; intro w__ hb__; have hh__ := hide (hK__ _ w__ rfl hb__); clear hK__; go_wp2_with fail; exact Eq.mp (by kernel_rfl) (unhide hh__)))
  rintro v rfl
  ((try dsimp only); go_big_quiet_want; go_big_quiet_op; go_big_quiet_on; refine wpQuiet_nil ?_)
  refine Go.LaxS.out_bs rfl (by decide) rfl OxI.later ?_ (fun y K hI hK => by
    have HK := hide hK
    have hl : w.heap.size ≤ y.at_.heap.size := by have := hI.2.1; omega
    clear hK
    go_wp2_with fail
    exact unhide HK _ _ ⟨_, rfl⟩ ⟨_, rfl, hl, by rw [World.cell?_alloc_new]; rfl⟩ ((Below.refl _ _).alloc (Nat.le_refl _) _))
  rintro v ⟨sb, rfl⟩
  ((try dsimp only); go_big_quiet_want; go_big_quiet_op; go_big_quiet_on; refine wpQuiet_nil ?_)
  refine Go.LaxS.out_ap _ rfl (by decide) rfl (by kernel_rfl) (by (repeat (first | exact List.Mem.head _ | apply List.Mem.tail))) ?_ (fun y K hI hB hK => by
    refine wpList_appO rfl _ _ rfl rfl rfl (fun ty => ?_)
    obtain ⟨v', w', q1, q2, q3, q4, q5⟩ := ox_app (unhide HG0) hn hz1 ty hI hB
    obtain ⟨p1, p2, p3, rfl⟩ := OwnL.slice q2
    refine ⟨_, w', q1, ?_⟩
    refine ⟨rfl, ?_⟩
    exact hK _ _ ⟨_, _, _, rfl⟩ q2 (y.ok.trans (q5.mono (by omega))) q3 q4)
  rintro v ⟨p1, p2, p3, rfl⟩
  ((try dsimp only); go_big_quiet_want; go_big_quiet_op; go_big_quiet_on; refine wpQuiet_nil ?_)
  refine Go.LaxS.out_end _ (by decide) (by (repeat (first | exact List.Mem.head _ | apply List.Mem.tail))) ?_
  intro y9 hI9 hA9
  have HA9 := hide hA9
  have HB9 := hide (hbt y9 hI9.2.1)
  have k9 := kot y9
  have fr9 := fot y9
  clear hA9 hI9
  go_wp2_with fail
  all_goals first
    | (refine bodyPost_box rfl ?_; intro r hr; simp [results, Oaag.results83, go_sem] at hr; subst hr; refine ⟨_, rfl, ?_⟩
       exact unhide HK _ ((unhide HMW).app (unhide HB9) (unhide HA9)) (below_store (((unhide HBW).mono (by omega)).trans ((unhide HB9).mono (by omega))) (Nat.le_refl _) _))
    | fail
end Go.Proofs.YgcoaaGreat.NatW
