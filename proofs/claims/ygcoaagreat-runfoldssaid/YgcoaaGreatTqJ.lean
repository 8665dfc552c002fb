/-
  The top: runFoldsOn, refused.
-/
import Derived.Test.YgcoaaGreatTqI
set_option linter.unusedVariables false
set_option linter.unusedSimpArgs false
set_option maxRecDepth 20000
namespace Go.Proofs.YgcoaaGreat.NatW
open Go.RowKit
open Go.Proofs.YgcoaaGreat.Det
open Go.Proofs.YgcoaaGreat.Limbs Go.Proofs.YgcoaaGreat.Bits
attribute [local go_sem] Go.Instr.field Go.asAgg

set_option maxHeartbeats 4000000 in
theorem rfo_F (eng : Int) (h0 : 0 ≤ eng) (E M : Nat) (md : Int) (tb : Nat) (v : Value) (ops : List OpT) (ha : alwB eng E M md = false) (S : Nat → St) (hS : Tr 86 eng E M md ops 256 S) (hz : ∀ i, S i = .zero) (w : World) (ho : On tb w) (hs : Scr w.heap.size w v ops) :
    Calls Oaag.prog 46 #[.pointer (some ⟨tb, 0, none⟩), .int .u8 eng, fmt E M, .int .u8 md, v] w fun e w' => e = .returned (.bool true) ∧ Below w.heap.size w w' := by
  have HO := hide ho
  have HS := hide hs
  obtain ⟨a, cap, rfl, -⟩ := hs
  clear ho
  go_enter Oaag.func46, Oaag.ntmps46
  go_wp2_with (fail)
  refine gen_wp ?_
  intro wl hwl
  have hsz : wl.heap.size = w.heap.size + 1 + 1 := by rw [← hwl]; simp only [size_new]
  have hbl : Below w.heap.size w wl := by
    rw [← hwl]
    exact ((Below.refl _ _).alloc (Nat.le_refl _) _).alloc (by simp only [size_new]; omega) _
  have hbx : wl.heap[w.heap.size]? = some (.cells #[.int .u8 E, .int .u8 M] 23 (0, 0)) := by
    rw [← hwl]
    exact row_old (row_new _ _ _ rfl)
  have hmx : MX (w.heap.size + 1) St.zero.R St.zero.L wl := by
    have := MX.new (w.alloc (.cells #[.int .u8 E, .int .u8 M] 23))
    rw [hwl] at this
    simp only [size_new] at this
    exact this
  clear hwl
  go_loopw [12] (fun t12 wr => FfR (w.heap.size + 1) ops.length S wl t12 wr) (fun t12 _ => 256 - (intOf t12).toNat)
  case atStart => exact ⟨0, by omega, by omega, rfl, by rw [hS.zero]; exact hmx, Below.refl _ _⟩
  case round =>
    obtain ⟨i, hi, hl, rfl, hm, hb⟩ := hrel
    by_cases hlen : i < ops.length
    · by_cases h256 : i < 256
      · obtain ⟨o, hop⟩ : ∃ o, ops[i]? = some o := ⟨ops[i], List.getElem?_eq_getElem hlen⟩
        obtain ⟨W0, x0, hx0, hM0, hB0⟩ : ∃ (W0 : World) (x0 : Later W0), wr = x0.at_ ∧ MX (w.heap.size + 1) (S i).R (S i).L W0 ∧ Below (w.heap.size + 1) wl W0 := ⟨wr, ⟨wr, Below.refl _ _⟩, rfl, hm, hb⟩
        subst hx0
        obtain ⟨a', cap', hv, hcs⟩ := ((unhide HS).kept hbl (Nat.le_refl _)).kept hB0 (by omega)
        obtain ⟨b, off, rfl, hfalse, hc⟩ := hcs i o hop
        cases hv
        have hblk : b < W0.heap.size := by have := hM0.own.1; omega
        have j0 : ∀ x : Later W0, x.at_.cell? ⟨b, off + i * 6, none⟩ = some (.int .u8 o.kd) := fun x => (x.ok.cell (p := ⟨b, off + i * 6, none⟩) hblk).trans (hc 0 _ rfl)
        have j1 : ∀ x : Later W0, x.at_.cell? ⟨b, off + i * 6 + 1, none⟩ = some (.int .u8 o.kD) := fun x => (x.ok.cell (p := ⟨b, off + i * 6 + 1, none⟩) hblk).trans (hc 1 _ rfl)
        have j2 : ∀ x : Later W0, x.at_.cell? ⟨b, off + i * 6 + 2, none⟩ = some (.int .u8 o.kA) := fun x => (x.ok.cell (p := ⟨b, off + i * 6 + 2, none⟩) hblk).trans (hc 2 _ rfl)
        have j3 : ∀ x : Later W0, x.at_.cell? ⟨b, off + i * 6 + 3, none⟩ = some (.int .u8 o.kB) := fun x => (x.ok.cell (p := ⟨b, off + i * 6 + 3, none⟩) hblk).trans (hc 3 _ rfl)
        have j4 : ∀ x : Later W0, x.at_.cell? ⟨b, off + i * 6 + 4, none⟩ = some (.int .u64 o.imm) := fun x => (x.ok.cell (p := ⟨b, off + i * 6 + 4, none⟩) hblk).trans (hc 4 _ rfl)
        have j5 : ∀ x : Later W0, x.at_.cell? ⟨b, off + i * 6 + 5, none⟩ = some (.string o.text) := fun x => (x.ok.cell (p := ⟨b, off + i * 6 + 5, none⟩) hblk).trans (hc 5 _ rfl)
        have h00 := (hB0.block w.heap.size (by omega)).trans hbx
        have c00 : ∀ x : Later W0, _ = some (.int .u8 E : Value) := Later.cell h00 0 _ rfl
        have c01 : ∀ x : Later W0, _ = some (.int .u8 M : Value) := Later.cell h00 1 _ rfl
        have hne : Nonempty (Later W0) := ⟨x0⟩
        have hst := hS.step i h256 o hop
        have hon : On tb W0 := (((unhide HO).later hbl).kept hB0 (by have := (unhide HO).lt; omega))
        have htb : tb < w.heap.size + 1 := by have := (unhide HO).lt; omega
        have HST := hide hst
        have HX := hide hM0
        have HON := hide hon
        clear hst hM0 hon hc hcs h00 hm hb hbx hmx hS HO HS
        go_wp2_with (fail)
        (with_reducible refine at_reg 5 ?_)
        refine region_then _ 8 3 (by kernel_rfl) (by kernel_rfl) (by kernel_rfl) ?_
        simp only [List.take, List.drop]
        (repeat (first | go_big_quiet_skip | (go_big_quiet_want; go_big_quiet_op; go_big_quiet_on)))
        refine wpQuiet_nil ?_
        intro y1
        go_wp2_with (first
          | (with_reducible refine at_fn 86 ?_
             refine (unhide HST) tb (w.heap.size + 1) _ _ htb ((unhide HON).later y1.ok) ((unhide HX).later y1.ok) ?_
             intro W9 hm9 hb9
             have HM9 := hide hm9
             have HB9 := hide (hB0.trans ((y1.ok.mono (Nat.le_of_lt (unhide HX).own.1)).trans hb9))
             clear hm9 hb9)
          | fail)
        exact ⟨⟨i + 1, by omega, by omega, by simp, unhide HM9, unhide HB9⟩, by simp [intOf]; omega⟩
      · obtain rfl : i = 256 := by omega
        rw [hz] at hm
        obtain ⟨W0, x0, hx0, hR⟩ : ∃ (W0 : World) (x0 : Later W0), wr = x0.at_ ∧ Rf tb w.heap.size E M (.slice a ops.length cap) ops .zero w W0 := ⟨wr, ⟨wr, Below.refl _ _⟩, rfl, ⟨((unhide HO).later hbl).kept hb (by have := (unhide HO).lt; omega), (unhide HO).lt, (hb.block w.heap.size (by omega)).trans hbx, hm, ((unhide HS).kept hbl (Nat.le_refl _)).kept hb (by omega), hbl.trans (hb.mono (by omega))⟩⟩
        subst hx0
        have c00 : ∀ x : Later W0, _ = some (.int .u8 E : Value) := Later.cell hR.h0 0 _ rfl
        have c01 : ∀ x : Later W0, _ = some (.int .u8 M : Value) := Later.cell hR.h0 1 _ rfl
        have hne : Nonempty (Later W0) := ⟨x0⟩
        have hn0 : w.heap.size + 1 < W0.heap.size := hR.mx.own.1
        have HR := hide hR
        clear hR hm hb hbx hmx hS HO HS hsz hbl
        go_wp2_with (fail)
        (with_reducible refine at_reg 6 ?_)
        refine Go.LaxS.region_gen _ 11 6 [(5, fun v => v = outNo), (9, fun v => v = .bool false), (10, fun v => ∃ q, v = .pointer (some ⟨q, 0, none⟩))] [(10, fun v w' => ∃ q, v = .pointer (some ⟨q, 0, none⟩) ∧ NewOut W0.heap.size q w')] [] (fun _ => True) (by kernel_rfl) (by kernel_rfl) (by kernel_rfl) (by kernel_rfl) trivial (fun _ _ _ _ => trivial) (List.forall_mem_cons.2 ⟨fun v w1 w2 h hb => by
          obtain ⟨q, h1, h2⟩ := h
          exact ⟨q, h1, h2.later hb⟩, fun _ h => by cases h⟩) (List.forall_mem_cons.2 ⟨⟨_, rfl⟩, List.forall_mem_cons.2 ⟨⟨_, rfl⟩, List.forall_mem_cons.2 ⟨⟨_, 0, rfl⟩, fun _ h => by cases h⟩⟩⟩) ?_
        iterate 5 (refine Go.LaxS.walk_det rfl rfl rfl rfl ?_; go_big_quiet_want; go_big_quiet_op; go_big_quiet_on; refine wpQuiet_nil ?_)
        refine Go.LaxS.gen_call rfl rfl rfl (fun _ _ _ _ => trivial) ?_ (fun y K hI hG hK => by
          go_wp2_with fail
          refine (run_no eng h0 E M md tb _ ops false ha (Or.inl rfl) y.at_ ((unhide HR).on.later y.ok) (((unhide HR).scr.kept y.ok (by omega)).up (by have := y.ok.size; omega))).mono ?_
          rintro e w' ⟨rfl, hb⟩
          have hh := Go.Proofs.YgcoaaGreat.NatW.hide (hK _ w' rfl trivial hb)
          clear hK
          go_wp2_with fail
          exact Eq.mp (by kernel_rfl) (Go.Proofs.YgcoaaGreat.NatW.unhide hh))
        rintro v9 rfl
        ((try dsimp only); go_big_quiet_want; go_big_quiet_op; go_big_quiet_on; refine wpQuiet_nil ?_)
        iterate 3 (refine Go.LaxS.walk_det rfl rfl rfl rfl ?_; go_big_quiet_want; go_big_quiet_op; go_big_quiet_on; refine wpQuiet_nil ?_)
        refine Go.LaxS.gen_call rfl rfl rfl (fun _ _ _ _ => trivial) ?_ (fun y K hI hG hK => by
          go_wp2_with fail
          refine aw_dft eng E M md h0 tb y.at_ _ ((unhide HR).on.later y.ok) ?_
          rw [ha]
          intro w' hb
          have hh := Go.Proofs.YgcoaaGreat.NatW.hide (hK _ w' rfl trivial hb)
          clear hK
          go_wp2_with fail
          exact Eq.mp (by kernel_rfl) (Go.Proofs.YgcoaaGreat.NatW.unhide hh))
        rintro v9 rfl
        ((try dsimp only); go_big_quiet_want; go_big_quiet_op; go_big_quiet_on; refine wpQuiet_nil ?_)
        refine Go.LaxS.gen_call rfl rfl rfl (fun _ _ _ _ => trivial) ?_ (fun y K hI hG hK => by
          have hh := Go.Proofs.YgcoaaGreat.NatW.hide (hK _ (y.at_.alloc (.cells #[.bool false, .int .u64 0, .int .u64 0, .int .u64 0, .int .u64 0, .int .u64 0, .int .u64 0, .int .u64 0, .int .u64 0, .slice none 0 0] 127)) ⟨_, rfl⟩ ⟨_, rfl, ⟨y.ok.size, row_new _ _ _ rfl, Mine.new _ _ _⟩⟩ ((Below.refl _ _).alloc (Nat.le_refl _) _))
          clear hK
          go_wp2_with fail
          exact Eq.mp (by kernel_rfl) (Go.Proofs.YgcoaaGreat.NatW.unhide hh))
        rintro v9 ⟨q, rfl⟩
        ((try dsimp only); go_big_quiet_want; go_big_quiet_op; go_big_quiet_on; refine wpQuiet_nil ?_)
        refine Go.LaxS.gen_end ?_
        intro y hI hG
        obtain ⟨q', e9, hN⟩ : ∃ q', _ = Value.pointer (some ⟨q', 0, none⟩) ∧ NewOut W0.heap.size q' y.at_ := hG (10, _) (by (repeat (first | exact List.Mem.head _ | apply List.Mem.tail)))
        cases e9
        clear hG
        have m0 : y.at_.cell? ⟨w.heap.size + 1, 0, none⟩ = some (.int .u64 0) := (y.ok.cell (p := ⟨w.heap.size + 1, 0, none⟩) hn0).trans ((unhide HR).mx.reg 0 (by omega))
        have m1 : y.at_.cell? ⟨w.heap.size + 1, 1, none⟩ = some (.int .u64 0) := (y.ok.cell (p := ⟨w.heap.size + 1, 1, none⟩) hn0).trans ((unhide HR).mx.reg 1 (by omega))
        have m2 : y.at_.cell? ⟨w.heap.size + 1, 2, none⟩ = some (.int .u64 0) := (y.ok.cell (p := ⟨w.heap.size + 1, 2, none⟩) hn0).trans ((unhide HR).mx.reg 2 (by omega))
        have m3 : y.at_.cell? ⟨w.heap.size + 1, 3, none⟩ = some (.int .u64 0) := (y.ok.cell (p := ⟨w.heap.size + 1, 3, none⟩) hn0).trans ((unhide HR).mx.reg 3 (by omega))
        have m4 : y.at_.cell? ⟨w.heap.size + 1, 4, none⟩ = some (.int .u64 0) := (y.ok.cell (p := ⟨w.heap.size + 1, 4, none⟩) hn0).trans ((unhide HR).mx.reg 4 (by omega))
        have m5 : y.at_.cell? ⟨w.heap.size + 1, 5, none⟩ = some (.int .u64 0) := (y.ok.cell (p := ⟨w.heap.size + 1, 5, none⟩) hn0).trans ((unhide HR).mx.reg 5 (by omega))
        have m6 : y.at_.cell? ⟨w.heap.size + 1, 6, none⟩ = some (.int .u64 0) := (y.ok.cell (p := ⟨w.heap.size + 1, 6, none⟩) hn0).trans ((unhide HR).mx.reg 6 (by omega))
        have m7 : y.at_.cell? ⟨w.heap.size + 1, 7, none⟩ = some (.int .u64 0) := (y.ok.cell (p := ⟨w.heap.size + 1, 7, none⟩) hn0).trans ((unhide HR).mx.reg 7 (by omega))
        obtain ⟨vo, m8', hown⟩ := (unhide HR).mx.out
        obtain ⟨a9, cap9, rfl, -⟩ := hown.rd
        have m8 : y.at_.cell? ⟨w.heap.size + 1, 8, none⟩ = some (.slice a9 0 cap9) := (y.ok.cell (p := ⟨w.heap.size + 1, 8, none⟩) hn0).trans m8'
        clear m8' hown
        have n0 := cellr hN.row 0 _ rfl
        have z0 := hN.own.2 0
        have n1 := cellr hN.row 1 _ rfl
        have z1 := hN.own.2 1
        have n2 := cellr hN.row 2 _ rfl
        have z2 := hN.own.2 2
        have n3 := cellr hN.row 3 _ rfl
        have z3 := hN.own.2 3
        have n4 := cellr hN.row 4 _ rfl
        have z4 := hN.own.2 4
        have n5 := cellr hN.row 5 _ rfl
        have z5 := hN.own.2 5
        have n6 := cellr hN.row 6 _ rfl
        have z6 := hN.own.2 6
        have n7 := cellr hN.row 7 _ rfl
        have z7 := hN.own.2 7
        have n8 := cellr hN.row 8 _ rfl
        have z8 := hN.own.2 8
        have n9 := cellr hN.row 9 _ rfl
        have z9 := hN.own.2 9
        have hqle := hN.le
        have hq1 : ¬ q = w.heap.size + 1 := by omega
        have hq2 : ¬ w.heap.size + 1 = q := by omega
        clear hN
        unfold outNo outV
        dsimp only
        go_wp2_with (first
          | (with_reducible refine at_fn 89 ?_
             refine gen_calls ?_
             intro W5 hW5
             have hb5 : Below w.heap.size w W5 := by rw [← hW5]; exact ((((((((((((unhide HR).below.trans (y.ok.mono (by omega)))).setCell (by show w.heap.size ≤ q; omega) _).setCell (by show w.heap.size ≤ q; omega) _).setCell (by show w.heap.size ≤ q; omega) _).setCell (by show w.heap.size ≤ q; omega) _).setCell (by show w.heap.size ≤ q; omega) _).setCell (by show w.heap.size ≤ q; omega) _).setCell (by show w.heap.size ≤ q; omega) _).setCell (by show w.heap.size ≤ q; omega) _).setCell (by show w.heap.size ≤ q; omega) _).setCell (by show w.heap.size ≤ q; omega) _
             have p0 : W5.cell? ⟨q, 0, none⟩ = some (.bool true) := by rw [← hW5]; simp [go_sem, n0, n1, n2, n3, n4, n5, n6, n7, n8, n9]
             have p1 : W5.cell? ⟨q, 1, none⟩ = some (.int .u64 0) := by rw [← hW5]; simp [go_sem, n0, n1, n2, n3, n4, n5, n6, n7, n8, n9]
             have p2 : W5.cell? ⟨q, 2, none⟩ = some (.int .u64 0) := by rw [← hW5]; simp [go_sem, n0, n1, n2, n3, n4, n5, n6, n7, n8, n9]
             have p3 : W5.cell? ⟨q, 3, none⟩ = some (.int .u64 0) := by rw [← hW5]; simp [go_sem, n0, n1, n2, n3, n4, n5, n6, n7, n8, n9]
             have p4 : W5.cell? ⟨q, 4, none⟩ = some (.int .u64 0) := by rw [← hW5]; simp [go_sem, n0, n1, n2, n3, n4, n5, n6, n7, n8, n9]
             have p5 : W5.cell? ⟨q, 5, none⟩ = some (.int .u64 0) := by rw [← hW5]; simp [go_sem, n0, n1, n2, n3, n4, n5, n6, n7, n8, n9]
             have p6 : W5.cell? ⟨q, 6, none⟩ = some (.int .u64 0) := by rw [← hW5]; simp [go_sem, n0, n1, n2, n3, n4, n5, n6, n7, n8, n9]
             have p7 : W5.cell? ⟨q, 7, none⟩ = some (.int .u64 0) := by rw [← hW5]; simp [go_sem, n0, n1, n2, n3, n4, n5, n6, n7, n8, n9]
             have p8 : W5.cell? ⟨q, 8, none⟩ = some (.int .u64 0) := by rw [← hW5]; simp [go_sem, n0, n1, n2, n3, n4, n5, n6, n7, n8, n9]
             have p9 : W5.cell? ⟨q, 9, none⟩ = some (.slice none 0 0) := by rw [← hW5]; simp [go_sem, n0, n1, n2, n3, n4, n5, n6, n7, n8, n9]
             have hqlt : q < W5.heap.size := World.block_lt_of_cell? _ _ p0
             clear hW5 n0 n1 n2 n3 n4 n5 n6 n7 n8 n9 z0 z1 z2 z3 z4 z5 z6 z7 z8 z9 m0 m1 m2 m3 m4 m5 m6 m7 m8
             refine (same_run W5 (fun _ => 0) (.slice a9 0 cap9) (.slice none 0 0) [] ⟨a9, cap9, rfl, by simp⟩ ⟨none, 0, rfl, by simp⟩ (by simp) (by simp)).mono ?_
             rintro _ W6 ⟨rfl, hb6⟩
             replace p0 := (hb6.cell (p := ⟨q, 0, none⟩) hqlt).trans p0
             replace p1 := (hb6.cell (p := ⟨q, 1, none⟩) hqlt).trans p1
             replace p2 := (hb6.cell (p := ⟨q, 2, none⟩) hqlt).trans p2
             replace p3 := (hb6.cell (p := ⟨q, 3, none⟩) hqlt).trans p3
             replace p4 := (hb6.cell (p := ⟨q, 4, none⟩) hqlt).trans p4
             replace p5 := (hb6.cell (p := ⟨q, 5, none⟩) hqlt).trans p5
             replace p6 := (hb6.cell (p := ⟨q, 6, none⟩) hqlt).trans p6
             replace p7 := (hb6.cell (p := ⟨q, 7, none⟩) hqlt).trans p7
             replace p8 := (hb6.cell (p := ⟨q, 8, none⟩) hqlt).trans p8
             replace p9 := (hb6.cell (p := ⟨q, 9, none⟩) hqlt).trans p9
             have hbz := hb5.trans (hb6.mono hb5.size)
             clear hb5 hb6 hqlt)
          | (with_reducible refine at_fn 90 ?_
             refine (equal_run _ true (fun _ => 0) (.slice none 0 0) (.slice none 0 0) [] ⟨none, 0, rfl, by simp⟩ ⟨none, 0, rfl, by simp⟩ (by simp) (by simp)).mono ?_
             rintro _ W7 ⟨rfl, hb7⟩
             have HB := hide (hbz.trans (hb7.mono hbz.size))
             clear hbz hb7)
          | fail)
        go_ret
        exact ⟨rfl, unhide HB⟩
    · obtain rfl : i = ops.length := by omega
      rw [hz] at hm
      obtain ⟨W0, x0, hx0, hR⟩ : ∃ (W0 : World) (x0 : Later W0), wr = x0.at_ ∧ Rf tb w.heap.size E M (.slice a ops.length cap) ops .zero w W0 := ⟨wr, ⟨wr, Below.refl _ _⟩, rfl, ⟨((unhide HO).later hbl).kept hb (by have := (unhide HO).lt; omega), (unhide HO).lt, (hb.block w.heap.size (by omega)).trans hbx, hm, ((unhide HS).kept hbl (Nat.le_refl _)).kept hb (by omega), hbl.trans (hb.mono (by omega))⟩⟩
      subst hx0
      have c00 : ∀ x : Later W0, _ = some (.int .u8 E : Value) := Later.cell hR.h0 0 _ rfl
      have c01 : ∀ x : Later W0, _ = some (.int .u8 M : Value) := Later.cell hR.h0 1 _ rfl
      have hne : Nonempty (Later W0) := ⟨x0⟩
      have hn0 : w.heap.size + 1 < W0.heap.size := hR.mx.own.1
      have HR := hide hR
      clear hR hm hb hbx hmx hS HO HS hsz hbl
      go_wp2_with (fail)
      (with_reducible refine at_reg 6 ?_)
      refine Go.LaxS.region_gen _ 11 6 [(5, fun v => v = outNo), (9, fun v => v = .bool false), (10, fun v => ∃ q, v = .pointer (some ⟨q, 0, none⟩))] [(10, fun v w' => ∃ q, v = .pointer (some ⟨q, 0, none⟩) ∧ NewOut W0.heap.size q w')] [] (fun _ => True) (by kernel_rfl) (by kernel_rfl) (by kernel_rfl) (by kernel_rfl) trivial (fun _ _ _ _ => trivial) (List.forall_mem_cons.2 ⟨fun v w1 w2 h hb => by
        obtain ⟨q, h1, h2⟩ := h
        exact ⟨q, h1, h2.later hb⟩, fun _ h => by cases h⟩) (List.forall_mem_cons.2 ⟨⟨_, rfl⟩, List.forall_mem_cons.2 ⟨⟨_, rfl⟩, List.forall_mem_cons.2 ⟨⟨_, 0, rfl⟩, fun _ h => by cases h⟩⟩⟩) ?_
      iterate 5 (refine Go.LaxS.walk_det rfl rfl rfl rfl ?_; go_big_quiet_want; go_big_quiet_op; go_big_quiet_on; refine wpQuiet_nil ?_)
      refine Go.LaxS.gen_call rfl rfl rfl (fun _ _ _ _ => trivial) ?_ (fun y K hI hG hK => by
        go_wp2_with fail
        refine (run_no eng h0 E M md tb _ ops false ha (Or.inl rfl) y.at_ ((unhide HR).on.later y.ok) (((unhide HR).scr.kept y.ok (by omega)).up (by have := y.ok.size; omega))).mono ?_
        rintro e w' ⟨rfl, hb⟩
        have hh := Go.Proofs.YgcoaaGreat.NatW.hide (hK _ w' rfl trivial hb)
        clear hK
        go_wp2_with fail
        exact Eq.mp (by kernel_rfl) (Go.Proofs.YgcoaaGreat.NatW.unhide hh))
      rintro v9 rfl
      ((try dsimp only); go_big_quiet_want; go_big_quiet_op; go_big_quiet_on; refine wpQuiet_nil ?_)
      iterate 3 (refine Go.LaxS.walk_det rfl rfl rfl rfl ?_; go_big_quiet_want; go_big_quiet_op; go_big_quiet_on; refine wpQuiet_nil ?_)
      refine Go.LaxS.gen_call rfl rfl rfl (fun _ _ _ _ => trivial) ?_ (fun y K hI hG hK => by
        go_wp2_with fail
        refine aw_dft eng E M md h0 tb y.at_ _ ((unhide HR).on.later y.ok) ?_
        rw [ha]
        intro w' hb
        have hh := Go.Proofs.YgcoaaGreat.NatW.hide (hK _ w' rfl trivial hb)
        clear hK
        go_wp2_with fail
        exact Eq.mp (by kernel_rfl) (Go.Proofs.YgcoaaGreat.NatW.unhide hh))
      rintro v9 rfl
      ((try dsimp only); go_big_quiet_want; go_big_quiet_op; go_big_quiet_on; refine wpQuiet_nil ?_)
      refine Go.LaxS.gen_call rfl rfl rfl (fun _ _ _ _ => trivial) ?_ (fun y K hI hG hK => by
        have hh := Go.Proofs.YgcoaaGreat.NatW.hide (hK _ (y.at_.alloc (.cells #[.bool false, .int .u64 0, .int .u64 0, .int .u64 0, .int .u64 0, .int .u64 0, .int .u64 0, .int .u64 0, .int .u64 0, .slice none 0 0] 127)) ⟨_, rfl⟩ ⟨_, rfl, ⟨y.ok.size, row_new _ _ _ rfl, Mine.new _ _ _⟩⟩ ((Below.refl _ _).alloc (Nat.le_refl _) _))
        clear hK
        go_wp2_with fail
        exact Eq.mp (by kernel_rfl) (Go.Proofs.YgcoaaGreat.NatW.unhide hh))
      rintro v9 ⟨q, rfl⟩
      ((try dsimp only); go_big_quiet_want; go_big_quiet_op; go_big_quiet_on; refine wpQuiet_nil ?_)
      refine Go.LaxS.gen_end ?_
      intro y hI hG
      obtain ⟨q', e9, hN⟩ : ∃ q', _ = Value.pointer (some ⟨q', 0, none⟩) ∧ NewOut W0.heap.size q' y.at_ := hG (10, _) (by (repeat (first | exact List.Mem.head _ | apply List.Mem.tail)))
      cases e9
      clear hG
      have m0 : y.at_.cell? ⟨w.heap.size + 1, 0, none⟩ = some (.int .u64 0) := (y.ok.cell (p := ⟨w.heap.size + 1, 0, none⟩) hn0).trans ((unhide HR).mx.reg 0 (by omega))
      have m1 : y.at_.cell? ⟨w.heap.size + 1, 1, none⟩ = some (.int .u64 0) := (y.ok.cell (p := ⟨w.heap.size + 1, 1, none⟩) hn0).trans ((unhide HR).mx.reg 1 (by omega))
      have m2 : y.at_.cell? ⟨w.heap.size + 1, 2, none⟩ = some (.int .u64 0) := (y.ok.cell (p := ⟨w.heap.size + 1, 2, none⟩) hn0).trans ((unhide HR).mx.reg 2 (by omega))
      have m3 : y.at_.cell? ⟨w.heap.size + 1, 3, none⟩ = some (.int .u64 0) := (y.ok.cell (p := ⟨w.heap.size + 1, 3, none⟩) hn0).trans ((unhide HR).mx.reg 3 (by omega))
      have m4 : y.at_.cell? ⟨w.heap.size + 1, 4, none⟩ = some (.int .u64 0) := (y.ok.cell (p := ⟨w.heap.size + 1, 4, none⟩) hn0).trans ((unhide HR).mx.reg 4 (by omega))
      have m5 : y.at_.cell? ⟨w.heap.size + 1, 5, none⟩ = some (.int .u64 0) := (y.ok.cell (p := ⟨w.heap.size + 1, 5, none⟩) hn0).trans ((unhide HR).mx.reg 5 (by omega))
      have m6 : y.at_.cell? ⟨w.heap.size + 1, 6, none⟩ = some (.int .u64 0) := (y.ok.cell (p := ⟨w.heap.size + 1, 6, none⟩) hn0).trans ((unhide HR).mx.reg 6 (by omega))
      have m7 : y.at_.cell? ⟨w.heap.size + 1, 7, none⟩ = some (.int .u64 0) := (y.ok.cell (p := ⟨w.heap.size + 1, 7, none⟩) hn0).trans ((unhide HR).mx.reg 7 (by omega))
      obtain ⟨vo, m8', hown⟩ := (unhide HR).mx.out
      obtain ⟨a9, cap9, rfl, -⟩ := hown.rd
      have m8 : y.at_.cell? ⟨w.heap.size + 1, 8, none⟩ = some (.slice a9 0 cap9) := (y.ok.cell (p := ⟨w.heap.size + 1, 8, none⟩) hn0).trans m8'
      clear m8' hown
      have n0 := cellr hN.row 0 _ rfl
      have z0 := hN.own.2 0
      have n1 := cellr hN.row 1 _ rfl
      have z1 := hN.own.2 1
      have n2 := cellr hN.row 2 _ rfl
      have z2 := hN.own.2 2
      have n3 := cellr hN.row 3 _ rfl
      have z3 := hN.own.2 3
      have n4 := cellr hN.row 4 _ rfl
      have z4 := hN.own.2 4
      have n5 := cellr hN.row 5 _ rfl
      have z5 := hN.own.2 5
      have n6 := cellr hN.row 6 _ rfl
      have z6 := hN.own.2 6
      have n7 := cellr hN.row 7 _ rfl
      have z7 := hN.own.2 7
      have n8 := cellr hN.row 8 _ rfl
      have z8 := hN.own.2 8
      have n9 := cellr hN.row 9 _ rfl
      have z9 := hN.own.2 9
      have hqle := hN.le
      have hq1 : ¬ q = w.heap.size + 1 := by omega
      have hq2 : ¬ w.heap.size + 1 = q := by omega
      clear hN
      unfold outNo outV
      dsimp only
      go_wp2_with (first
        | (with_reducible refine at_fn 89 ?_
           refine gen_calls ?_
           intro W5 hW5
           have hb5 : Below w.heap.size w W5 := by rw [← hW5]; exact ((((((((((((unhide HR).below.trans (y.ok.mono (by omega)))).setCell (by show w.heap.size ≤ q; omega) _).setCell (by show w.heap.size ≤ q; omega) _).setCell (by show w.heap.size ≤ q; omega) _).setCell (by show w.heap.size ≤ q; omega) _).setCell (by show w.heap.size ≤ q; omega) _).setCell (by show w.heap.size ≤ q; omega) _).setCell (by show w.heap.size ≤ q; omega) _).setCell (by show w.heap.size ≤ q; omega) _).setCell (by show w.heap.size ≤ q; omega) _).setCell (by show w.heap.size ≤ q; omega) _
           have p0 : W5.cell? ⟨q, 0, none⟩ = some (.bool true) := by rw [← hW5]; simp [go_sem, n0, n1, n2, n3, n4, n5, n6, n7, n8, n9]
           have p1 : W5.cell? ⟨q, 1, none⟩ = some (.int .u64 0) := by rw [← hW5]; simp [go_sem, n0, n1, n2, n3, n4, n5, n6, n7, n8, n9]
           have p2 : W5.cell? ⟨q, 2, none⟩ = some (.int .u64 0) := by rw [← hW5]; simp [go_sem, n0, n1, n2, n3, n4, n5, n6, n7, n8, n9]
           have p3 : W5.cell? ⟨q, 3, none⟩ = some (.int .u64 0) := by rw [← hW5]; simp [go_sem, n0, n1, n2, n3, n4, n5, n6, n7, n8, n9]
           have p4 : W5.cell? ⟨q, 4, none⟩ = some (.int .u64 0) := by rw [← hW5]; simp [go_sem, n0, n1, n2, n3, n4, n5, n6, n7, n8, n9]
           have p5 : W5.cell? ⟨q, 5, none⟩ = some (.int .u64 0) := by rw [← hW5]; simp [go_sem, n0, n1, n2, n3, n4, n5, n6, n7, n8, n9]
           have p6 : W5.cell? ⟨q, 6, none⟩ = some (.int .u64 0) := by rw [← hW5]; simp [go_sem, n0, n1, n2, n3, n4, n5, n6, n7, n8, n9]
           have p7 : W5.cell? ⟨q, 7, none⟩ = some (.int .u64 0) := by rw [← hW5]; simp [go_sem, n0, n1, n2, n3, n4, n5, n6, n7, n8, n9]
           have p8 : W5.cell? ⟨q, 8, none⟩ = some (.int .u64 0) := by rw [← hW5]; simp [go_sem, n0, n1, n2, n3, n4, n5, n6, n7, n8, n9]
           have p9 : W5.cell? ⟨q, 9, none⟩ = some (.slice none 0 0) := by rw [← hW5]; simp [go_sem, n0, n1, n2, n3, n4, n5, n6, n7, n8, n9]
           have hqlt : q < W5.heap.size := World.block_lt_of_cell? _ _ p0
           clear hW5 n0 n1 n2 n3 n4 n5 n6 n7 n8 n9 z0 z1 z2 z3 z4 z5 z6 z7 z8 z9 m0 m1 m2 m3 m4 m5 m6 m7 m8
           refine (same_run W5 (fun _ => 0) (.slice a9 0 cap9) (.slice none 0 0) [] ⟨a9, cap9, rfl, by simp⟩ ⟨none, 0, rfl, by simp⟩ (by simp) (by simp)).mono ?_
           rintro _ W6 ⟨rfl, hb6⟩
           replace p0 := (hb6.cell (p := ⟨q, 0, none⟩) hqlt).trans p0
           replace p1 := (hb6.cell (p := ⟨q, 1, none⟩) hqlt).trans p1
           replace p2 := (hb6.cell (p := ⟨q, 2, none⟩) hqlt).trans p2
           replace p3 := (hb6.cell (p := ⟨q, 3, none⟩) hqlt).trans p3
           replace p4 := (hb6.cell (p := ⟨q, 4, none⟩) hqlt).trans p4
           replace p5 := (hb6.cell (p := ⟨q, 5, none⟩) hqlt).trans p5
           replace p6 := (hb6.cell (p := ⟨q, 6, none⟩) hqlt).trans p6
           replace p7 := (hb6.cell (p := ⟨q, 7, none⟩) hqlt).trans p7
           replace p8 := (hb6.cell (p := ⟨q, 8, none⟩) hqlt).trans p8
           replace p9 := (hb6.cell (p := ⟨q, 9, none⟩) hqlt).trans p9
           have hbz := hb5.trans (hb6.mono hb5.size)
           clear hb5 hb6 hqlt)
        | (with_reducible refine at_fn 90 ?_
           refine (equal_run _ true (fun _ => 0) (.slice none 0 0) (.slice none 0 0) [] ⟨none, 0, rfl, by simp⟩ ⟨none, 0, rfl, by simp⟩ (by simp) (by simp)).mono ?_
           rintro _ W7 ⟨rfl, hb7⟩
           have HB := hide (hbz.trans (hb7.mono hbz.size))
           clear hbz hb7)
        | fail)
      go_ret
      exact ⟨rfl, unhide HB⟩
end Go.Proofs.YgcoaaGreat.NatW
