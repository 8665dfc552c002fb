/-
  Package law: biteWalk.
-/
import Derived.Test.YgcoaaGreatWdA
import Derived.Test.YgcoaaGreatNatQ
import Derived.Test.YgcoaaGreatCkC
import Derived.Test.YgcoaaGreatCkE
import Derived.Test.YgcoaaGreatCkF
import Derived.Test.YgcoaaGreatCkG
set_option linter.unusedVariables false
set_option linter.unusedSimpArgs false
namespace Go.Proofs.YgcoaaGreat.NatW
attribute [local go_sem] Go.Instr.field Go.asAgg
open Go.RowKit
open Go.Proofs.YgcoaaGreat.Limbs Go.Proofs.YgcoaaGreat.Bits

theorem nrm_app (a : Addr) (n : Nat) : nrm (some a) (lim n ++ [0]) = false := by
  simp [nrm]
theorem Sl.away81 {w : World} {a : Option Addr} {cap : Nat} {l : List Nat} (h : Sl w a cap l) {b : Nat} {s1 s2 s3 : Option Addr} {l1 l2 l3 k1 k2 k3 : Nat} {p q r : Int} (hr : w.heap[b]? = some (.cells #[.slice s1 l1 k1, .slice s2 l2 k2, .slice s3 l3 k3, .int .u64 p, .int .u64 q, .int .u64 r] 81 (0, 0))) (i : Nat) (u : Value) : Sl (w.setCell ⟨b, i, none⟩ u) a cap l := by
  refine ⟨h.le, h.nil, h.lt, fun j hj => ?_⟩
  obtain ⟨c, off, e, hc⟩ := h.cell j hj
  refine ⟨c, off, e, ?_⟩
  rw [cell_set _ _ _ _ _ _ _ hc, if_neg]
  rintro ⟨e1, e2⟩
  subst e1
  rw [cell_of_row _ _ _ _ _ _ hr] at hc
  generalize off + j = z at hc
  match z, hc with
  | 0, hc => simp at hc
  | 1, hc => simp at hc
  | 2, hc => simp at hc
  | 3, hc => simp at hc
  | 4, hc => simp at hc
  | 5, hc => simp at hc
  | z + 6, hc => simp at hc

theorem app_0 (w : World) (a : Addr) (a2 a3 : Option Addr) (c1 c2 c3 x1 x2 x3 : Nat) (P R N : Int) (h : Sl w (some a) c1 (lim x1 ++ [0])) (h2 : Sl w a2 c2 (lim x2)) (n2 : nrm a2 (lim x2) = true) (h3 : Sl w a3 c3 (lim x3)) (n3 : nrm a3 (lim x3) = true) (q1 : (lim x1).length ≤ 1000) (q2 : (lim x2).length ≤ 1000) (q3 : (lim x3).length ≤ 1000) :
    Calls Oaag.prog 41 #[.agg #[.slice (some a) ((lim x1).length + 1) c1, .slice a2 (lim x2).length c2, .slice a3 (lim x3).length c3, .int .u64 P, .int .u64 R, .int .u64 N]] w fun e w' => e = .returned (.bool false) ∧ Below w.heap.size w w' := by
  have h9 := check_0 w (some a) c1 (lim x1 ++ [0]) h a2 c2 (lim x2) h2 a3 c3 (lim x3) h3 (by first | omega | (simp; omega)) (by first | omega | (simp; omega)) (by first | omega | (simp; omega)) P R N (nrm_app a _)
  simp only [wk, List.length_append, List.length_singleton] at h9
  exact h9
theorem app_1 (w : World) (a : Addr) (a1 a3 : Option Addr) (c1 c2 c3 x1 x2 x3 : Nat) (P R N : Int) (h : Sl w (some a) c2 (lim x2 ++ [0])) (h1 : Sl w a1 c1 (lim x1)) (n1 : nrm a1 (lim x1) = true) (h3 : Sl w a3 c3 (lim x3)) (n3 : nrm a3 (lim x3) = true) (q1 : (lim x1).length ≤ 1000) (q2 : (lim x2).length ≤ 1000) (q3 : (lim x3).length ≤ 1000) :
    Calls Oaag.prog 41 #[.agg #[.slice a1 (lim x1).length c1, .slice (some a) ((lim x2).length + 1) c2, .slice a3 (lim x3).length c3, .int .u64 P, .int .u64 R, .int .u64 N]] w fun e w' => e = .returned (.bool false) ∧ Below w.heap.size w w' := by
  have h9 := check_1 w a1 c1 (lim x1) h1 (some a) c2 (lim x2 ++ [0]) h a3 c3 (lim x3) h3 (by first | omega | (simp; omega)) (by first | omega | (simp; omega)) (by first | omega | (simp; omega)) P R N n1 (nrm_app a _)
  simp only [wk, List.length_append, List.length_singleton] at h9
  exact h9
theorem app_2 (w : World) (a : Addr) (a1 a2 : Option Addr) (c1 c2 c3 x1 x2 x3 : Nat) (P R N : Int) (h : Sl w (some a) c3 (lim x3 ++ [0])) (h1 : Sl w a1 c1 (lim x1)) (n1 : nrm a1 (lim x1) = true) (h2 : Sl w a2 c2 (lim x2)) (n2 : nrm a2 (lim x2) = true) (q1 : (lim x1).length ≤ 1000) (q2 : (lim x2).length ≤ 1000) (q3 : (lim x3).length ≤ 1000) :
    Calls Oaag.prog 41 #[.agg #[.slice a1 (lim x1).length c1, .slice a2 (lim x2).length c2, .slice (some a) ((lim x3).length + 1) c3, .int .u64 P, .int .u64 R, .int .u64 N]] w fun e w' => e = .returned (.bool false) ∧ Below w.heap.size w w' := by
  have h9 := check_2 w a1 c1 (lim x1) h1 a2 c2 (lim x2) h2 (some a) c3 (lim x3 ++ [0]) h (by first | omega | (simp; omega)) (by first | omega | (simp; omega)) (by first | omega | (simp; omega)) P R N n1 n2 (nrm_app a _)
  simp only [wk, List.length_append, List.length_singleton] at h9
  exact h9

set_option maxRecDepth 20000 in
set_option maxHeartbeats 8000000 in
theorem biteWalk_any (w : World) (db : Nat) (h : Dice db w) (hurt : Int) : Calls Oaag.prog 16 #[.pointer (some ⟨db, 0, none⟩), .int .u8 hurt] w fun e w' => e = .returned (.bool true) ∧ Below db w w' := by
  have HD := hide h
  have hlt := h.lt
  clear h
  go_enter Oaag.func16, Oaag.ntmps16
  go_wp2_with fail
  refine (walked_any w db (unhide HD)).mono ?_
  rintro e w1 ⟨a1, a2, a3, c1, c2, c3, x1, x2, x3, P, R, N, ok, rfl, hwk, d1, b1⟩
  have B1 := hide b1
  have HW1 := hide hwk
  have hd1 := d1.lt
  clear HD d1 b1 hwk
  cases ok with
  | false =>
    go_wp2_with fail
    go_ret
    exact ⟨rfl, (unhide B1).alloc (by omega) _⟩
  | true =>
  have HWK := hide (unhide HW1 rfl)
  clear HW1
  go_wp2_with fail
  obtain ⟨bx, hbx⟩ : ∃ b, b = w1.heap.size := ⟨_, rfl⟩
  have hdx : db < bx := by omega
  ((first | with_reducible refine Go.Proofs.YgcoaaGreat.NatW.gen_calls ?_ | with_reducible refine Go.Proofs.YgcoaaGreat.NatW.gen_wp ?_ | with_reducible refine Go.Proofs.YgcoaaGreat.NatW.gen_list ?_ | with_reducible refine Go.Proofs.YgcoaaGreat.NatW.gen_body ?_); intro W hW)
  have rW := heap_alloc_new w1 (.cells (wv a1 a2 a3 c1 c2 c3 x1 x2 x3 P R N) 81)
  rw [show w1.alloc (.cells (wv a1 a2 a3 c1 c2 c3 x1 x2 x3 P R N) 81) = W from hW, ← hbx] at rW
  have hbW : Below w1.heap.size w1 W := by rw [← hW]; exact (Below.refl _ _).alloc (Nat.le_refl _) _
  rw [← hbx]
  have HW2 := hide ((unhide HWK).later hbW)
  have B2 := hide ((unhide B1).trans (hbW.mono (by omega)))
  clear hW hbW HWK B1 hbx
  have HCK := hide ((unhide HW2).check W)
  refine (unhide HCK).mono ?_
  clear HCK
  rintro e w6 ⟨rfl, b6⟩
  have r6 : w6.heap[bx]? = some (.cells (wv a1 a2 a3 c1 c2 c3 x1 x2 x3 P R N) 81 (0, 0)) := (b6.block _ (Array.getElem?_eq_some_iff.1 rW).1).trans rW
  have hz6 : bx < w6.heap.size := (Array.getElem?_eq_some_iff.1 r6).1
  have HK := hide ((unhide HW2).later b6)
  have B6 := hide ((unhide B2).trans (b6.mono (by have := (unhide B2).size; omega)))
  clear b6 rW HW2 B2
  clear W
  have hl1 := (unhide HK).l1
  have hl2 := (unhide HK).l2
  have hl3 := (unhide HK).len
  have N1 : Hid (nrm a1 (lim x1) = true) := hide (unhide HK).r1.normal
  have N2 : Hid (nrm a2 (lim x2) = true) := hide (unhide HK).r2.normal
  have N3 : Hid (nrm a3 (lim x3) = true) := hide (unhide HK).r3.normal
  have I1 : Hid (a1.isNone = false) := hide (isNone_of (unhide HK).r1 (unhide HK).p1)
  have I2 : Hid (a2.isNone = false) := hide (isNone_of (unhide HK).r2 (unhide HK).p2)
  have HS1 := hide ((unhide HK).r1.sl.away81 r6)
  have HS2 := hide ((unhide HK).r2.sl.away81 r6)
  have HS3 := hide ((unhide HK).r3.sl.away81 r6)
  have hle : cmpI (val (lim x1) + val (lim x2)) (val (lim x3)) ≤ 0 := by
    rw [val_lim, val_lim, val_lim]
    unfold cmpI
    have := (unhide HK).le
    split
    · omega
    · rw [if_neg (by omega)]; omega
  have HLE := hide hle
  have hPP := (unhide HK).hP
  have hRR := (unhide HK).hR
  have hNN := hide (unhide HK).hN
  clear hle
  have k0 := cell_of_row w6 (bx) 0 _ _ _ (r6)
  have k1 := cell_of_row w6 (bx) 1 _ _ _ (r6)
  have k2 := cell_of_row w6 (bx) 2 _ _ _ (r6)
  have k3 := cell_of_row w6 (bx) 3 _ _ _ (r6)
  have k4 := cell_of_row w6 (bx) 4 _ _ _ (r6)
  have k5 := cell_of_row w6 (bx) 5 _ _ _ (r6)
  simp only [wk, List.getElem?_toArray, List.getElem?_cons_zero, List.getElem?_cons_succ] at k0 k1 k2 k3 k4 k5
  have f0 := frozen_of_row w6 (bx) 0 _ _ (r6)
  have f1 := frozen_of_row w6 (bx) 1 _ _ (r6)
  have f2 := frozen_of_row w6 (bx) 2 _ _ (r6)
  have f3 := frozen_of_row w6 (bx) 3 _ _ (r6)
  have f4 := frozen_of_row w6 (bx) 4 _ _ (r6)
  have f5 := frozen_of_row w6 (bx) 5 _ _ (r6)
  have R6 := hide r6
  clear r6
  by_cases e0 : hurt = 0
  · subst e0
    go_wp2_with (at_builtin; refine wpList_nat2 rfl _ _ rfl (unhide HK).r1 (by omega) (by omega) rfl rfl ?_; intro a9 c9 w9 hs9 hb9 hk9 ho9; have r9 : w9.heap[bx]? = _ := (hk9 bx hz6 (fun g hg => Ne.symm ((unhide HK).r1.ne_row (unhide R6) g hg))).trans (unhide R6); have j0 := cell_of_row w9 bx 0 _ _ _ r9; have j1 := cell_of_row w9 bx 1 _ _ _ r9; have j2 := cell_of_row w9 bx 2 _ _ _ r9; have j3 := cell_of_row w9 bx 3 _ _ _ r9; have j4 := cell_of_row w9 bx 4 _ _ _ r9; have j5 := cell_of_row w9 bx 5 _ _ _ r9; (simp only [wk, List.getElem?_toArray, List.getElem?_cons_zero, List.getElem?_cons_succ] at j0 j1 j2 j3 j4 j5); have g0 := frozen_of_row w9 bx 0 _ _ r9; have HS9 := hide (hs9.away81 r9); have T1 := hide ((ho9 _ _ _ _ (unhide HK).r1).away81 r9); have T2 := hide ((ho9 _ _ _ _ (unhide HK).r2).away81 r9); have T3 := hide ((ho9 _ _ _ _ (unhide HK).r3).away81 r9); have HB9 := hide hb9; have hz9 : bx < w9.heap.size := (Array.getElem?_eq_some_iff.1 r9).1; clear hs9 hb9 hk9 ho9 r9 k0 k1 k2 k3 k4 k5 f0 f1 f2 f3 f4 f5)
    refine (app_0 _ a9 a2 a3 c9 c2 c3 x1 x2 x3 P R N (unhide HS9 _ _) (unhide T2 _ _) (unhide N2) (unhide T3 _ _) (unhide N3) hl1 hl2 hl3).mono ?_
    rintro e wA ⟨rfl, bA⟩
    have HBA := hide bA
    clear bA
    go_wp2_with fail
    go_ret
    refine ⟨rfl, ?_⟩
    refine Below.trans (below_store ((unhide B6).trans ((unhide HB9).mono (by omega))) (by omega) _) ((unhide HBA).mono ?_)
    simp only [World.size_setCell]
    omega
  by_cases e1 : hurt = 1
  · subst e1
    go_wp2_with (at_builtin; refine wpList_nat2 rfl _ _ rfl (unhide HK).r2 (by omega) (by omega) rfl rfl ?_; intro a9 c9 w9 hs9 hb9 hk9 ho9; have r9 : w9.heap[bx]? = _ := (hk9 bx hz6 (fun g hg => Ne.symm ((unhide HK).r2.ne_row (unhide R6) g hg))).trans (unhide R6); have j0 := cell_of_row w9 bx 0 _ _ _ r9; have j1 := cell_of_row w9 bx 1 _ _ _ r9; have j2 := cell_of_row w9 bx 2 _ _ _ r9; have j3 := cell_of_row w9 bx 3 _ _ _ r9; have j4 := cell_of_row w9 bx 4 _ _ _ r9; have j5 := cell_of_row w9 bx 5 _ _ _ r9; (simp only [wk, List.getElem?_toArray, List.getElem?_cons_zero, List.getElem?_cons_succ] at j0 j1 j2 j3 j4 j5); have g1 := frozen_of_row w9 bx 1 _ _ r9; have HS9 := hide (hs9.away81 r9); have T1 := hide ((ho9 _ _ _ _ (unhide HK).r1).away81 r9); have T2 := hide ((ho9 _ _ _ _ (unhide HK).r2).away81 r9); have T3 := hide ((ho9 _ _ _ _ (unhide HK).r3).away81 r9); have HB9 := hide hb9; have hz9 : bx < w9.heap.size := (Array.getElem?_eq_some_iff.1 r9).1; clear hs9 hb9 hk9 ho9 r9 k0 k1 k2 k3 k4 k5 f0 f1 f2 f3 f4 f5)
    refine (app_1 _ a9 a1 a3 c1 c9 c3 x1 x2 x3 P R N (unhide HS9 _ _) (unhide T1 _ _) (unhide N1) (unhide T3 _ _) (unhide N3) hl1 hl2 hl3).mono ?_
    rintro e wA ⟨rfl, bA⟩
    have HBA := hide bA
    clear bA
    go_wp2_with fail
    go_ret
    refine ⟨rfl, ?_⟩
    refine Below.trans (below_store ((unhide B6).trans ((unhide HB9).mono (by omega))) (by omega) _) ((unhide HBA).mono ?_)
    simp only [World.size_setCell]
    omega
  by_cases e2 : hurt = 2
  · subst e2
    go_wp2_with (at_builtin; refine wpList_nat2 rfl _ _ rfl (unhide HK).r3 (by omega) (by omega) rfl rfl ?_; intro a9 c9 w9 hs9 hb9 hk9 ho9; have r9 : w9.heap[bx]? = _ := (hk9 bx hz6 (fun g hg => Ne.symm ((unhide HK).r3.ne_row (unhide R6) g hg))).trans (unhide R6); have j0 := cell_of_row w9 bx 0 _ _ _ r9; have j1 := cell_of_row w9 bx 1 _ _ _ r9; have j2 := cell_of_row w9 bx 2 _ _ _ r9; have j3 := cell_of_row w9 bx 3 _ _ _ r9; have j4 := cell_of_row w9 bx 4 _ _ _ r9; have j5 := cell_of_row w9 bx 5 _ _ _ r9; (simp only [wk, List.getElem?_toArray, List.getElem?_cons_zero, List.getElem?_cons_succ] at j0 j1 j2 j3 j4 j5); have g2 := frozen_of_row w9 bx 2 _ _ r9; have HS9 := hide (hs9.away81 r9); have T1 := hide ((ho9 _ _ _ _ (unhide HK).r1).away81 r9); have T2 := hide ((ho9 _ _ _ _ (unhide HK).r2).away81 r9); have T3 := hide ((ho9 _ _ _ _ (unhide HK).r3).away81 r9); have HB9 := hide hb9; have hz9 : bx < w9.heap.size := (Array.getElem?_eq_some_iff.1 r9).1; clear hs9 hb9 hk9 ho9 r9 k0 k1 k2 k3 k4 k5 f0 f1 f2 f3 f4 f5)
    refine (app_2 _ a9 a1 a2 c1 c2 c9 x1 x2 x3 P R N (unhide HS9 _ _) (unhide T1 _ _) (unhide N1) (unhide T2 _ _) (unhide N2) hl1 hl2 hl3).mono ?_
    rintro e wA ⟨rfl, bA⟩
    have HBA := hide bA
    clear bA
    go_wp2_with fail
    go_ret
    refine ⟨rfl, ?_⟩
    refine Below.trans (below_store ((unhide B6).trans ((unhide HB9).mono (by omega))) (by omega) _) ((unhide HBA).mono ?_)
    simp only [World.size_setCell]
    omega
  by_cases e3 : hurt = 3
  · subst e3
    go_wp2_with fail
    refine (check_3 _ none 0 [] (Sl.empty _) a2 c2 (lim x2) (unhide HS2 _ _) a3 c3 (lim x3) (unhide HS3 _ _) (by decide) (by omega) (by omega) P R N rfl (unhide N2) (unhide N3) rfl).mono ?_
    rintro e wA ⟨rfl, bA⟩
    have HBA := hide bA
    clear bA
    go_wp2_with fail
    go_ret
    refine ⟨rfl, ?_⟩
    refine Below.trans (below_store (unhide B6) (by omega) _) ((unhide HBA).mono ?_)
    simp only [World.size_setCell]
    omega
  by_cases e4 : hurt = 4
  · subst e4
    go_wp2_with fail
    refine (check_4 _ a1 c1 (lim x1) (unhide HS1 _ _) none 0 [] (Sl.empty _) a3 c3 (lim x3) (unhide HS3 _ _) (by omega) (by decide) (by omega) P R N (unhide N1) rfl (unhide N3) (unhide I1) rfl).mono ?_
    rintro e wA ⟨rfl, bA⟩
    have HBA := hide bA
    clear bA
    go_wp2_with fail
    go_ret
    refine ⟨rfl, ?_⟩
    refine Below.trans (below_store (unhide B6) (by omega) _) ((unhide HBA).mono ?_)
    simp only [World.size_setCell]
    omega
  by_cases e5 : hurt = 5
  · subst e5
    go_wp2_with fail
    refine (take_any w6 a3 c3 (lim x3) (unhide HK).r3.sl (by omega)).mono ?_
    rintro e w7 ⟨a9, c9, rfl, hr9, b7⟩
    rw [val_lim] at hr9 ⊢
    have r7 : w7.heap[bx]? = some (.cells (wv a1 a2 a3 c1 c2 c3 x1 x2 x3 P R N) 81 (0, 0)) := (b7.block _ hz6).trans (unhide R6)
    have HS9 := hide (hr9.sl.away81 r7)
    have N9 : Hid (nrm a9 (lim x3) = true) := hide hr9.normal
    have I9 : Hid (a9.isNone = false) := hide (isNone_of hr9 (by have := (unhide HK).p1; have := (unhide HK).le; omega))
    have T2 := hide (((unhide HK).r2.sl.later b7).away81 r7)
    have T3 := hide (((unhide HK).r3.sl.later b7).away81 r7)
    have B7 := hide ((unhide B6).trans (b7.mono (by omega)))
    have hz7 : bx < w7.heap.size := (Array.getElem?_eq_some_iff.1 r7).1
    have hgt : cmpI (val (lim x3) + val (lim x2)) (val (lim x3)) = 1 := by
      rw [val_lim, val_lim]
      unfold cmpI
      have := (unhide HK).p2
      rw [if_neg (by omega), if_pos (by omega)]
    have HGT := hide hgt
    clear hgt b7 hr9 k0 k1 k2 k3 k4 k5 f0 f1 f2 f3 f4 f5
    have k0 := cell_of_row w7 (bx) 0 _ _ _ (r7)
    have k1 := cell_of_row w7 (bx) 1 _ _ _ (r7)
    have k2 := cell_of_row w7 (bx) 2 _ _ _ (r7)
    have k3 := cell_of_row w7 (bx) 3 _ _ _ (r7)
    have k4 := cell_of_row w7 (bx) 4 _ _ _ (r7)
    have k5 := cell_of_row w7 (bx) 5 _ _ _ (r7)
    simp only [wk, List.getElem?_toArray, List.getElem?_cons_zero, List.getElem?_cons_succ] at k0 k1 k2 k3 k4 k5
    have f0 := frozen_of_row w7 (bx) 0 _ _ (r7)
    have f1 := frozen_of_row w7 (bx) 1 _ _ (r7)
    have f2 := frozen_of_row w7 (bx) 2 _ _ (r7)
    have f3 := frozen_of_row w7 (bx) 3 _ _ (r7)
    have f4 := frozen_of_row w7 (bx) 4 _ _ (r7)
    have f5 := frozen_of_row w7 (bx) 5 _ _ (r7)
    clear r7
    go_wp2_with fail
    refine (check_5 _ a9 c9 (lim x3) (unhide HS9 _ _) a2 c2 (lim x2) (unhide T2 _ _) a3 c3 (lim x3) (unhide T3 _ _) (by omega) (by omega) (by omega) P R N (unhide N9) (unhide N2) (unhide N3) (unhide I9) (unhide I2) 1 (unhide HGT) (by decide)).mono ?_
    rintro e wA ⟨rfl, bA⟩
    have HBA := hide bA
    clear bA
    go_wp2_with fail
    go_ret
    refine ⟨rfl, ?_⟩
    refine Below.trans (below_store (unhide B7) (by omega) _) ((unhide HBA).mono ?_)
    simp only [World.size_setCell]
    omega
  by_cases e6 : hurt = 6
  · subst e6
    go_wp2_with fail
    refine (check_6 _ a1 c1 (lim x1) (unhide HS1 _ _) a2 c2 (lim x2) (unhide HS2 _ _) a3 c3 (lim x3) (unhide HS3 _ _) (by omega) (by omega) (by omega) 0 R N (unhide N1) (unhide N2) (unhide N3) (unhide I1) (unhide I2) _ rfl (decide_eq_true (unhide HLE)) (by decide)).mono ?_
    rintro e wA ⟨rfl, bA⟩
    have HBA := hide bA
    clear bA
    go_wp2_with fail
    go_ret
    refine ⟨rfl, ?_⟩
    refine Below.trans (below_store (unhide B6) (by omega) _) ((unhide HBA).mono ?_)
    simp only [World.size_setCell]
    omega
  by_cases e7 : hurt = 7
  · subst e7
    by_cases hmx : N = 18446744073709551615
    · have hw0 : IntKind.u64.wrap ((N : Int) + 1) = 0 := by rw [hmx]; rfl
      have HMX := hide hmx
      clear hmx
      go_wp2_with fail
      refine (check_6 _ a1 c1 (lim x1) (unhide HS1 _ _) a2 c2 (lim x2) (unhide HS2 _ _) a3 c3 (lim x3) (unhide HS3 _ _) (by omega) (by omega) (by omega) 0 R N (unhide N1) (unhide N2) (unhide N3) (unhide I1) (unhide I2) _ rfl (decide_eq_true (unhide HLE)) (by decide)).mono ?_
      rintro e wA ⟨rfl, bA⟩
      have HBA := hide bA
      clear bA
      go_wp2_with fail
      go_ret
      refine ⟨rfl, ?_⟩
      refine Below.trans (below_store (unhide B6) (by omega) _) ((unhide HBA).mono ?_)
      simp only [World.size_setCell]
      omega
    · have hw0 : IntKind.u64.wrap ((N : Int) + 1) = ((N + 1 : Nat) : Int) := by have := unhide hNN; rw [IntKind.wrap_u64]; omega
      clear hmx
      obtain ⟨M, hM⟩ : ∃ M, M = N + 1 := ⟨_, rfl⟩
      rw [← hM] at hw0
      have HM := hide hM
      clear hM
      go_wp2_with fail
      refine (check_7 _ a1 c1 (lim x1) (unhide HS1 _ _) a2 c2 (lim x2) (unhide HS2 _ _) a3 c3 (lim x3) (unhide HS3 _ _) (by omega) (by omega) (by omega) M R N (unhide N1) (unhide N2) (unhide N3) (unhide I1) (unhide I2) _ rfl (decide_eq_true (unhide HLE)) (decide_eq_true (by have := unhide HM; omega)) (decide_eq_false (by have := unhide HM; omega))).mono ?_
      rintro e wA ⟨rfl, bA⟩
      have HBA := hide bA
      clear bA
      go_wp2_with fail
      go_ret
      refine ⟨rfl, ?_⟩
      refine Below.trans (below_store (unhide B6) (by omega) _) ((unhide HBA).mono ?_)
      simp only [World.size_setCell]
      omega
  by_cases e8 : hurt = 8
  · subst e8
    go_wp2_with fail
    refine (check_8 _ a1 c1 (lim x1) (unhide HS1 _ _) a2 c2 (lim x2) (unhide HS2 _ _) a3 c3 (lim x3) (unhide HS3 _ _) (by omega) (by omega) (by omega) P 0 N (unhide N1) (unhide N2) (unhide N3) (unhide I1) (unhide I2) _ rfl (decide_eq_true (unhide HLE)) (decide_eq_true (by omega)) (decide_eq_true (by omega)) (by decide)).mono ?_
    rintro e wA ⟨rfl, bA⟩
    have HBA := hide bA
    clear bA
    go_wp2_with fail
    go_ret
    refine ⟨rfl, ?_⟩
    refine Below.trans (below_store (unhide B6) (by omega) _) ((unhide HBA).mono ?_)
    simp only [World.size_setCell]
    omega
  · by_cases hmx : N = 18446744073709551615
    · have hw0 : IntKind.u64.wrap ((N : Int) + 1) = 0 := by rw [hmx]; rfl
      have HMX := hide hmx
      clear hmx
      go_wp2_with fail
      refine (check_8 _ a1 c1 (lim x1) (unhide HS1 _ _) a2 c2 (lim x2) (unhide HS2 _ _) a3 c3 (lim x3) (unhide HS3 _ _) (by omega) (by omega) (by omega) P 0 N (unhide N1) (unhide N2) (unhide N3) (unhide I1) (unhide I2) _ rfl (decide_eq_true (unhide HLE)) (decide_eq_true (by omega)) (decide_eq_true (by omega)) (by decide)).mono ?_
      rintro e wA ⟨rfl, bA⟩
      have HBA := hide bA
      clear bA
      go_wp2_with fail
      go_ret
      refine ⟨rfl, ?_⟩
      refine Below.trans (below_store (unhide B6) (by omega) _) ((unhide HBA).mono ?_)
      simp only [World.size_setCell]
      omega
    · have hw0 : IntKind.u64.wrap ((N : Int) + 1) = ((N + 1 : Nat) : Int) := by have := unhide hNN; rw [IntKind.wrap_u64]; omega
      clear hmx
      obtain ⟨M, hM⟩ : ∃ M, M = N + 1 := ⟨_, rfl⟩
      rw [← hM] at hw0
      have HM := hide hM
      clear hM
      go_wp2_with fail
      refine (check_9 _ a1 c1 (lim x1) (unhide HS1 _ _) a2 c2 (lim x2) (unhide HS2 _ _) a3 c3 (lim x3) (unhide HS3 _ _) (by omega) (by omega) (by omega) P M N (unhide N1) (unhide N2) (unhide N3) (unhide I1) (unhide I2) _ rfl (decide_eq_true (unhide HLE)) (decide_eq_true (by omega)) (decide_eq_true (by omega)) (decide_eq_true (by have := unhide HM; omega)) (decide_eq_false (by have := unhide HM; omega))).mono ?_
      rintro e wA ⟨rfl, bA⟩
      have HBA := hide bA
      clear bA
      go_wp2_with fail
      go_ret
      refine ⟨rfl, ?_⟩
      refine Below.trans (below_store (unhide B6) (by omega) _) ((unhide HBA).mono ?_)
      simp only [World.size_setCell]
      omega
end Go.Proofs.YgcoaaGreat.NatW
