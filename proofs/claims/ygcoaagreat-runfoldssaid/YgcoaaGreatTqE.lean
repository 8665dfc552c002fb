/-
  The top: foldFrom, fold.
-/
import Derived.Test.YgcoaaGreatTqD
import Derived.Test.YgcoaaGreatExpA
set_option linter.unusedVariables false
set_option linter.unusedSimpArgs false
set_option maxRecDepth 20000
namespace Go.Proofs.YgcoaaGreat.NatW
open Go.RowKit
open Go.Proofs.YgcoaaGreat.Det
open Go.Proofs.YgcoaaGreat.Limbs Go.Proofs.YgcoaaGreat.Bits
attribute [local go_sem] Go.Instr.field Go.asAgg

theorem OwnL.low {w : World} {base base' : Nat} {v : Value} {L : List Value} (h : OwnL w base v L) (hb : base' ≤ base) : OwnL w base' v L := by
  obtain ⟨h1, h2⟩ := h
  refine ⟨h1, ?_⟩
  rcases h2 with h2 | ⟨g, cap, cur, e1, e2, e3⟩
  · exact .inl h2
  · exact .inr ⟨g, cap, cur, e1, Nat.le_trans hb e2, e3⟩
def FfR (mb : Nat) (n : Nat) (S : Nat → St) (wl : World) (t : Value) (wr : World) : Prop := ∃ i : Nat, i ≤ 256 ∧ i ≤ n ∧ t = .int .i64 (i : Int) ∧ MX mb (S i).R (S i).L wr ∧ Below mb wl wr

set_option maxHeartbeats 4000000 in
theorem ff_run (eng : Int) (E M : Nat) (md : Int) (tb : Nat) (v : Value) (ops : List OpT) (S : Nat → St) (hS : Tr 43 eng E M md ops 256 S) (w : World) (ho : On tb w) (hs : Scr w.heap.size w v ops) :
    Calls Oaag.prog 161 #[.pointer (some ⟨tb, 0, none⟩), .int .u8 eng, fmt E M, .int .u8 md, .agg #[.int .u64 0, .int .u64 0, .int .u64 0, .int .u64 0, .int .u64 0, .int .u64 0, .int .u64 0, .int .u64 0], v] w fun e w' => ∃ v', e = .returned (macV (S (min ops.length 256)).R v') ∧ OwnL w' w.heap.size v' (S (min ops.length 256)).L ∧ Below w.heap.size w w' := by
  have HO := hide ho
  have HS := hide hs
  obtain ⟨a, cap, rfl, -⟩ := hs
  clear ho
  go_enter Oaag.func161, Oaag.ntmps161
  go_wp2_with (fail)
  refine gen_wp ?_
  intro wl hwl
  have hsz : wl.heap.size = w.heap.size + 4 := by rw [← hwl]; simp only [size_new]
  have hbl : Below w.heap.size w wl := by
    rw [← hwl]
    exact ((((Below.refl _ _).alloc (Nat.le_refl _) _).alloc (by simp only [size_new]; omega) _).alloc (by simp only [size_new]; omega) _).alloc (by simp only [size_new]; omega) _
  have hbx : wl.heap[w.heap.size]? = some (.cells #[.int .u8 E, .int .u8 M] 23 (0, 0)) := by
    rw [← hwl]
    exact row_old (row_old (row_old (row_new _ _ _ rfl)))
  have hrc : Mine wl (w.heap.size + 1 + 1) := by
    rw [← hwl, show w.heap.size + 1 + 1 = ((w.alloc (.cells #[.int .u8 E, .int .u8 M] 23)).alloc (.cells #[.int .u64 0, .int .u64 0, .int .u64 0, .int .u64 0, .int .u64 0, .int .u64 0, .int .u64 0, .int .u64 0] 86)).heap.size by simp only [size_new]]
    exact (Mine.new _ _ _).alloc _
  have hrr : wl.heap[w.heap.size + 1 + 1]? = some (.cells #[.int .u64 0, .int .u64 0, .int .u64 0, .int .u64 0, .int .u64 0, .int .u64 0, .int .u64 0, .int .u64 0, .slice none 0 0] 89 (0, 0)) := by
    rw [← hwl]
    exact row_old (row_new _ _ _ (by simp only [size_new]))
  have hmx : MX (w.heap.size + 1 + 1 + 1) St.zero.R St.zero.L wl := by
    have := MX.new (((w.alloc (.cells #[.int .u8 E, .int .u8 M] 23)).alloc (.cells #[.int .u64 0, .int .u64 0, .int .u64 0, .int .u64 0, .int .u64 0, .int .u64 0, .int .u64 0, .int .u64 0] 86)).alloc (.cells #[.int .u64 0, .int .u64 0, .int .u64 0, .int .u64 0, .int .u64 0, .int .u64 0, .int .u64 0, .int .u64 0, .slice none 0 0] 89))
    rw [hwl] at this
    simp only [size_new] at this
    exact this
  clear hwl
  go_loopw [14] (fun t14 wr => FfR (w.heap.size + 1 + 1 + 1) ops.length S wl t14 wr) (fun t14 _ => 256 - (intOf t14).toNat)
  case atStart => exact ⟨0, by omega, by omega, rfl, by rw [hS.zero]; exact hmx, Below.refl _ _⟩
  case round =>
    obtain ⟨i, hi, hl, rfl, hm, hb⟩ := hrel
    by_cases hlen : i < ops.length
    · by_cases h256 : i < 256
      · obtain ⟨o, hop⟩ : ∃ o, ops[i]? = some o := ⟨ops[i], List.getElem?_eq_getElem hlen⟩
        obtain ⟨W0, x0, hx0, hM0, hB0⟩ : ∃ (W0 : World) (x0 : Later W0), wr = x0.at_ ∧ MX (w.heap.size + 1 + 1 + 1) (S i).R (S i).L W0 ∧ Below (w.heap.size + 1 + 1 + 1) wl W0 := ⟨wr, ⟨wr, Below.refl _ _⟩, rfl, hm, hb⟩
        subst hx0
        obtain ⟨a', cap', hv, hcs⟩ := ((unhide HS).kept hbl (Nat.le_refl _)).kept hB0 (by omega)
        obtain ⟨b, off, rfl, hbb, hc⟩ := hcs i o hop
        cases hv
        have hblk : b < W0.heap.size := by have := hM0.own.1; omega
        have j0 : ∀ x : Later W0, x.at_.cell? ⟨b, off + i * 6, none⟩ = some (.int .u8 o.kd) := fun x => (x.ok.cell (p := ⟨b, off + i * 6, none⟩) hblk).trans (hc 0 _ rfl)
        have j1 : ∀ x : Later W0, x.at_.cell? ⟨b, off + i * 6 + 1, none⟩ = some (.int .u8 o.kD) := fun x => (x.ok.cell (p := ⟨b, off + i * 6 + 1, none⟩) hblk).trans (hc 1 _ rfl)
        have j2 : ∀ x : Later W0, x.at_.cell? ⟨b, off + i * 6 + 2, none⟩ = some (.int .u8 o.kA) := fun x => (x.ok.cell (p := ⟨b, off + i * 6 + 2, none⟩) hblk).trans (hc 2 _ rfl)
        have j3 : ∀ x : Later W0, x.at_.cell? ⟨b, off + i * 6 + 3, none⟩ = some (.int .u8 o.kB) := fun x => (x.ok.cell (p := ⟨b, off + i * 6 + 3, none⟩) hblk).trans (hc 3 _ rfl)
        have j4 : ∀ x : Later W0, x.at_.cell? ⟨b, off + i * 6 + 4, none⟩ = some (.int .u64 o.imm) := fun x => (x.ok.cell (p := ⟨b, off + i * 6 + 4, none⟩) hblk).trans (hc 4 _ rfl)
        have j5 : ∀ x : Later W0, x.at_.cell? ⟨b, off + i * 6 + 5, none⟩ = some (.string o.text) := fun x => (x.ok.cell (p := ⟨b, off + i * 6 + 5, none⟩) hblk).trans (hc 5 _ rfl)
        have h0 := (hB0.block w.heap.size (by omega)).trans hbx
        have c00 : ∀ x : Later W0, _ = some (.int .u8 E : Value) := Later.cell h0 0 _ rfl
        have c01 : ∀ x : Later W0, _ = some (.int .u8 M : Value) := Later.cell h0 1 _ rfl
        have hne : Nonempty (Later W0) := ⟨x0⟩
        have hst := hS.step i h256 o hop
        have hon : On tb W0 := (((unhide HO).later hbl).kept hB0 (by have := (unhide HO).lt; omega))
        have htb : tb < w.heap.size + 1 + 1 + 1 := by have := (unhide HO).lt; omega
        have HST := hide hst
        have HX := hide hM0
        have HON := hide hon
        clear hst hM0 hon hc hcs h0 hm hb hrr hbx hmx hS HO HS
        go_wp2_with (fail)
        (with_reducible refine at_reg 5 ?_)
        refine region_then _ 8 3 (by kernel_rfl) (by kernel_rfl) (by kernel_rfl) ?_
        simp only [List.take, List.drop]
        (repeat (first | go_big_quiet_skip | (go_big_quiet_want; go_big_quiet_op; go_big_quiet_on)))
        refine wpQuiet_nil ?_
        intro y1
        go_wp2_with (first
          | (with_reducible refine at_fn 43 ?_
             refine (unhide HST) tb (w.heap.size + 1 + 1 + 1) _ _ htb ((unhide HON).later y1.ok) ((unhide HX).later y1.ok) ?_
             intro W9 hm9 hb9
             have HM9 := hide hm9
             have HB9 := hide (hB0.trans ((y1.ok.mono (Nat.le_of_lt (unhide HX).own.1)).trans hb9))
             clear hm9 hb9)
          | fail)
        exact ⟨⟨i + 1, by omega, by omega, by simp, unhide HM9, unhide HB9⟩, by simp [intOf]; omega⟩
      · obtain rfl : i = 256 := by omega
        have m0 := hm.reg 0 (by omega)
        have m1 := hm.reg 1 (by omega)
        have m2 := hm.reg 2 (by omega)
        have m3 := hm.reg 3 (by omega)
        have m4 := hm.reg 4 (by omega)
        have m5 := hm.reg 5 (by omega)
        have m6 := hm.reg 6 (by omega)
        have m7 := hm.reg 7 (by omega)
        obtain ⟨vo, m8, hown⟩ := hm.out
        have hmi : min ops.length 256 = 256 := by omega
        have hmn := hrc.kept hb (by omega)
        have hrw := (hb.block (w.heap.size + 1 + 1) (by omega)).trans hrr
        clear hS HO HS
        have n0 := cellr hrw 0 _ rfl
        have z0 := hmn.2 0
        have n1 := cellr hrw 1 _ rfl
        have z1 := hmn.2 1
        have n2 := cellr hrw 2 _ rfl
        have z2 := hmn.2 2
        have n3 := cellr hrw 3 _ rfl
        have z3 := hmn.2 3
        have n4 := cellr hrw 4 _ rfl
        have z4 := hmn.2 4
        have n5 := cellr hrw 5 _ rfl
        have z5 := hmn.2 5
        have n6 := cellr hrw 6 _ rfl
        have z6 := hmn.2 6
        have n7 := cellr hrw 7 _ rfl
        have z7 := hmn.2 7
        have n8 := cellr hrw 8 _ rfl
        have z8 := hmn.2 8
        clear hrw hmn hrr hrc hmx
        obtain ⟨a9, cap9, rfl, hrd⟩ := hown.rd
        go_wp2_with (fail)
        refine bodyPost_box rfl ?_
        intro r hr
        simp [results, Oaag.results161, go_sem, n0, n1, n2, n3, n4, n5, n6, n7, n8] at hr
        subst hr
        rw [hmi]
        exact ⟨_, rfl, _, rfl, OwnL.low (((((((((hown.other _ (by omega)).other _ (by omega)).other _ (by omega)).other _ (by omega)).other _ (by omega)).other _ (by omega)).other _ (by omega)).other _ (by omega)).other _ (by omega)) (by omega), (((((((((hbl.trans (hb.mono (by omega))).setCell (by show w.heap.size ≤ w.heap.size + 1 + 1; omega) _).setCell (by show w.heap.size ≤ w.heap.size + 1 + 1; omega) _).setCell (by show w.heap.size ≤ w.heap.size + 1 + 1; omega) _).setCell (by show w.heap.size ≤ w.heap.size + 1 + 1; omega) _).setCell (by show w.heap.size ≤ w.heap.size + 1 + 1; omega) _).setCell (by show w.heap.size ≤ w.heap.size + 1 + 1; omega) _).setCell (by show w.heap.size ≤ w.heap.size + 1 + 1; omega) _).setCell (by show w.heap.size ≤ w.heap.size + 1 + 1; omega) _).setCell (by show w.heap.size ≤ w.heap.size + 1 + 1; omega) _⟩
    · have m0 := hm.reg 0 (by omega)
      have m1 := hm.reg 1 (by omega)
      have m2 := hm.reg 2 (by omega)
      have m3 := hm.reg 3 (by omega)
      have m4 := hm.reg 4 (by omega)
      have m5 := hm.reg 5 (by omega)
      have m6 := hm.reg 6 (by omega)
      have m7 := hm.reg 7 (by omega)
      obtain ⟨vo, m8, hown⟩ := hm.out
      have hmi : min ops.length 256 = i := by omega
      have hmn := hrc.kept hb (by omega)
      have hrw := (hb.block (w.heap.size + 1 + 1) (by omega)).trans hrr
      clear hS HO HS
      have n0 := cellr hrw 0 _ rfl
      have z0 := hmn.2 0
      have n1 := cellr hrw 1 _ rfl
      have z1 := hmn.2 1
      have n2 := cellr hrw 2 _ rfl
      have z2 := hmn.2 2
      have n3 := cellr hrw 3 _ rfl
      have z3 := hmn.2 3
      have n4 := cellr hrw 4 _ rfl
      have z4 := hmn.2 4
      have n5 := cellr hrw 5 _ rfl
      have z5 := hmn.2 5
      have n6 := cellr hrw 6 _ rfl
      have z6 := hmn.2 6
      have n7 := cellr hrw 7 _ rfl
      have z7 := hmn.2 7
      have n8 := cellr hrw 8 _ rfl
      have z8 := hmn.2 8
      clear hrw hmn hrr hrc hmx
      obtain ⟨a9, cap9, rfl, hrd⟩ := hown.rd
      go_wp2_with (fail)
      refine bodyPost_box rfl ?_
      intro r hr
      simp [results, Oaag.results161, go_sem, n0, n1, n2, n3, n4, n5, n6, n7, n8] at hr
      subst hr
      rw [hmi]
      exact ⟨_, rfl, _, rfl, OwnL.low (((((((((hown.other _ (by omega)).other _ (by omega)).other _ (by omega)).other _ (by omega)).other _ (by omega)).other _ (by omega)).other _ (by omega)).other _ (by omega)).other _ (by omega)) (by omega), (((((((((hbl.trans (hb.mono (by omega))).setCell (by show w.heap.size ≤ w.heap.size + 1 + 1; omega) _).setCell (by show w.heap.size ≤ w.heap.size + 1 + 1; omega) _).setCell (by show w.heap.size ≤ w.heap.size + 1 + 1; omega) _).setCell (by show w.heap.size ≤ w.heap.size + 1 + 1; omega) _).setCell (by show w.heap.size ≤ w.heap.size + 1 + 1; omega) _).setCell (by show w.heap.size ≤ w.heap.size + 1 + 1; omega) _).setCell (by show w.heap.size ≤ w.heap.size + 1 + 1; omega) _).setCell (by show w.heap.size ≤ w.heap.size + 1 + 1; omega) _).setCell (by show w.heap.size ≤ w.heap.size + 1 + 1; omega) _⟩
end Go.Proofs.YgcoaaGreat.NatW
