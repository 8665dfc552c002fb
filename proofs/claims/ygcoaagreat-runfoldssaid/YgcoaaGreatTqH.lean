/-
  The top: Run, its loop.
-/
import Derived.Test.YgcoaaGreatTqG
set_option linter.unusedVariables false
set_option linter.unusedSimpArgs false
set_option maxRecDepth 20000
namespace Go.Proofs.YgcoaaGreat.NatW
open Go.RowKit
open Go.Proofs.YgcoaaGreat.Det
open Go.Proofs.YgcoaaGreat.Limbs Go.Proofs.YgcoaaGreat.Bits
attribute [local go_sem] Go.Instr.field Go.asAgg

set_option maxHeartbeats 4000000 in
theorem run_yes (eng : Int) (h0 : 0 ≤ eng) (E M : Nat) (md : Int) (tb : Nat) (v : Value) (ops : List OpT) (ha : alwB eng E M md = true) (hn : ops.length ≤ 256) (S : Nat → St) (hS : Tr 86 eng E M md ops 256 S) (w : World) (ho : On tb w) (hs : Scr w.heap.size w v ops) :
    Calls Oaag.prog 87 #[.pointer (some ⟨tb, 0, none⟩), .int .u8 eng, fmt E M, .int .u8 md, v] w fun e w' => ∃ v', e = .returned (outV false (S ops.length).R v') ∧ OwnL w' w.heap.size v' (S ops.length).L ∧ Below w.heap.size w w' := by
  have hlq : ¬ (ops.length : Int) > 256 := by omega
  have HO := hide ho
  have HS := hide hs
  obtain ⟨a, cap, rfl, -⟩ := hs
  have HA := hide (al_dft eng E M md h0 tb)
  clear ho
  go_enter Oaag.func87, Oaag.ntmps87
  go_wp2_with (first
    | (with_reducible refine at_fn 159 ?_
       refine gen_calls ?_
       intro wl hwl
       have hsz : wl.heap.size = w.heap.size + 1 + 1 := by rw [← hwl]; simp only [size_new]
       have hbl : Below w.heap.size w wl := by
         rw [← hwl]
         exact ((Below.refl _ _).alloc (Nat.le_refl _) _).alloc (by simp only [size_new]; omega) _
       have hrc : Mine wl (w.heap.size + 1) := by
         rw [← hwl, show w.heap.size + 1 = (w.alloc (.cells #[.int .u8 E, .int .u8 M] 23)).heap.size by simp only [size_new]]
         exact Mine.new _ _ _
       have hrr : wl.heap[w.heap.size + 1]? = some (.cells #[.bool false, .int .u64 0, .int .u64 0, .int .u64 0, .int .u64 0, .int .u64 0, .int .u64 0, .int .u64 0, .int .u64 0, .slice none 0 0] 127 (0, 0)) := by
         rw [← hwl]
         exact row_new _ _ _ (by simp only [size_new])
       have hbx : wl.heap[w.heap.size]? = some (.cells #[.int .u8 E, .int .u8 M] 23 (0, 0)) := by
         rw [← hwl]
         exact row_old (row_new _ _ _ rfl)
       clear hwl
       refine (unhide HA) wl _ ((unhide HO).later hbl) ?_
       rw [ha]
       intro W2 hb2
       have hsz2 : w.heap.size + 1 + 1 ≤ W2.heap.size := by have := hb2.size; omega
       have hmn := hrc.kept hb2 (by omega)
       have hrw := (hb2.block (w.heap.size + 1) (by omega)).trans hrr
       have hbw := (hb2.block w.heap.size (by omega)).trans hbx
       have hbl2 : Below w.heap.size w W2 := hbl.trans (hb2.mono (by omega))
       clear hb2 hrc hrr hbx hbl hsz)
    | fail)
  refine gen_wp ?_
  intro wl hwl
  have hbl3 : Below W2.heap.size W2 wl := by
    rw [← hwl]
    exact (Below.refl _ _).alloc (Nat.le_refl _) _
  have hsz3 : wl.heap.size = W2.heap.size + 1 := by rw [← hwl]; simp only [size_new]
  have hmx : MX W2.heap.size St.zero.R St.zero.L wl := by rw [← hwl]; exact MX.new W2
  clear hwl
  go_loopw [28] (fun t28 wr => FfR W2.heap.size ops.length S wl t28 wr) (fun t28 _ => 256 - (intOf t28).toNat)
  case atStart => exact ⟨0, by omega, by omega, rfl, by rw [hS.zero]; exact hmx, Below.refl _ _⟩
  case round =>
    obtain ⟨i, hi, hl, rfl, hm, hb⟩ := hrel
    have hb3 : Below W2.heap.size W2 wr := hbl3.trans hb
    by_cases hlen : i < ops.length
    · obtain ⟨o, hop⟩ : ∃ o, ops[i]? = some o := ⟨ops[i], List.getElem?_eq_getElem hlen⟩
      obtain ⟨a', cap', hv, hcs⟩ := ((unhide HS).kept hbl2 (Nat.le_refl _)).kept hb3 (by omega)
      obtain ⟨b, off, rfl, hbb, hc⟩ := hcs i o hop
      cases hv
      have hblk : b < wr.heap.size := by have := hm.own.1; omega
      have j0 : wr.cell? ⟨b, off + i * 6, none⟩ = some (.int .u8 o.kd) := hc 0 _ rfl
      have j1 : wr.cell? ⟨b, off + i * 6 + 1, none⟩ = some (.int .u8 o.kD) := hc 1 _ rfl
      have j2 : wr.cell? ⟨b, off + i * 6 + 2, none⟩ = some (.int .u8 o.kA) := hc 2 _ rfl
      have j3 : wr.cell? ⟨b, off + i * 6 + 3, none⟩ = some (.int .u8 o.kB) := hc 3 _ rfl
      have j4 : wr.cell? ⟨b, off + i * 6 + 4, none⟩ = some (.int .u64 o.imm) := hc 4 _ rfl
      have j5 : wr.cell? ⟨b, off + i * 6 + 5, none⟩ = some (.string o.text) := hc 5 _ rfl
      have h00 := (hb3.block w.heap.size (by omega)).trans hbw
      have k0 : (wr.alloc (.cells #[.int .u8 o.kd, .int .u8 o.kD, .int .u8 o.kA, .int .u8 o.kB, .int .u64 o.imm, .string o.text] 91)).cell? ⟨w.heap.size, 0, none⟩ = some (.int .u8 E) := cellr (row_old h00) 0 _ rfl
      have k1 : (wr.alloc (.cells #[.int .u8 o.kd, .int .u8 o.kD, .int .u8 o.kA, .int .u8 o.kB, .int .u64 o.imm, .string o.text] 91)).cell? ⟨w.heap.size, 1, none⟩ = some (.int .u8 M) := cellr (row_old h00) 1 _ rfl
      have hst := hS.step i (by omega) o hop
      have hon : On tb wr := (((unhide HO).later hbl2).kept hb3 (by have := (unhide HO).lt; omega))
      have htb : tb < W2.heap.size := by have := (unhide HO).lt; omega
      have HST := hide hst
      have HX := hide hm
      have HON := hide hon
      have HB := hide hb
      have hwlt : W2.heap.size < wr.heap.size := hm.own.1
      clear hst hm hon hc hcs h00 hb hb3 hbl3 hmx hS HO HS hbw hrw hmn HA
      go_wp2_with (first
        | (with_reducible refine at_fn 86 ?_
           refine gen_calls ?_
           intro W8 hW8
           have hb8 : Below wr.heap.size wr W8 := by rw [← hW8]; exact (Below.refl _ _).alloc (Nat.le_refl _) _
           clear hW8
           refine (unhide HST) tb W2.heap.size _ _ htb ((unhide HON).later hb8) ((unhide HX).later hb8) ?_
           intro W9 hm9 hb9
           have HM9 := hide hm9
           have HB9 := hide ((unhide HB).trans ((hb8.mono (Nat.le_of_lt hwlt)).trans hb9))
           clear hm9 hb9 hb8)
        | fail)
      all_goals first
        | exact ⟨⟨i + 1, by omega, by omega, by simp, unhide HM9, unhide HB9⟩, by simp [intOf]; omega⟩
        | fail
    · obtain rfl : i = ops.length := by omega
      have m0 := hm.reg 0 (by omega)
      have m1 := hm.reg 1 (by omega)
      have m2 := hm.reg 2 (by omega)
      have m3 := hm.reg 3 (by omega)
      have m4 := hm.reg 4 (by omega)
      have m5 := hm.reg 5 (by omega)
      have m6 := hm.reg 6 (by omega)
      have m7 := hm.reg 7 (by omega)
      obtain ⟨vo, m8, hown⟩ := hm.out
      have hmn2 := hmn.kept hb3 (by omega)
      have hrw2 := (hb3.block (w.heap.size + 1) (by omega)).trans hrw
      have n0 := cellr hrw2 0 _ rfl
      have z0 := hmn2.2 0
      have n1 := cellr hrw2 1 _ rfl
      have z1 := hmn2.2 1
      have n2 := cellr hrw2 2 _ rfl
      have z2 := hmn2.2 2
      have n3 := cellr hrw2 3 _ rfl
      have z3 := hmn2.2 3
      have n4 := cellr hrw2 4 _ rfl
      have z4 := hmn2.2 4
      have n5 := cellr hrw2 5 _ rfl
      have z5 := hmn2.2 5
      have n6 := cellr hrw2 6 _ rfl
      have z6 := hmn2.2 6
      have n7 := cellr hrw2 7 _ rfl
      have z7 := hmn2.2 7
      have n8 := cellr hrw2 8 _ rfl
      have z8 := hmn2.2 8
      have n9 := cellr hrw2 9 _ rfl
      have z9 := hmn2.2 9
      have hbf : Below w.heap.size w wr := hbl2.trans (hb3.mono (by omega))
      have HR := hide hown
      obtain ⟨a9, cap9, rfl, -⟩ := hown.rd
      clear hS HO HS hrw2 hmn2 hrw hmn hmx hbl3 hb hb3 hown HA hbw
      go_wp2_with (fail)
      refine bodyPost_box rfl ?_
      intro r hr
      simp [results, Oaag.results87, go_sem, n0, n1, n2, n3, n4, n5, n6, n7, n8, n9] at hr
      subst hr
      have hown := unhide HR
      exact ⟨_, rfl, _, rfl, OwnL.low ((((((((((hown.other _ (by omega)).other _ (by omega)).other _ (by omega)).other _ (by omega)).other _ (by omega)).other _ (by omega)).other _ (by omega)).other _ (by omega)).other _ (by omega)).other _ (by omega)) (by omega), ((((((((((hbf).setCell (by show w.heap.size ≤ w.heap.size + 1; omega) _).setCell (by show w.heap.size ≤ w.heap.size + 1; omega) _).setCell (by show w.heap.size ≤ w.heap.size + 1; omega) _).setCell (by show w.heap.size ≤ w.heap.size + 1; omega) _).setCell (by show w.heap.size ≤ w.heap.size + 1; omega) _).setCell (by show w.heap.size ≤ w.heap.size + 1; omega) _).setCell (by show w.heap.size ≤ w.heap.size + 1; omega) _).setCell (by show w.heap.size ≤ w.heap.size + 1; omega) _).setCell (by show w.heap.size ≤ w.heap.size + 1; omega) _).setCell (by show w.heap.size ≤ w.heap.size + 1; omega) _⟩
end Go.Proofs.YgcoaaGreat.NatW
