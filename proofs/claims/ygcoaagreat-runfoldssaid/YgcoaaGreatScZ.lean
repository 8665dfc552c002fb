/-
  Package dec: Scan, exactly: the whole.
-/
import Derived.Test.YgcoaaGreatScY
import Derived.Test.YgcoaaGreatScB1
import Derived.Test.YgcoaaGreatScB2
import Derived.Test.YgcoaaGreatScB3
import Derived.Test.YgcoaaGreatScB4
import Derived.Test.YgcoaaGreatScB5
import Derived.Test.YgcoaaGreatScB6
import Derived.Test.YgcoaaGreatScB7
import Derived.Test.YgcoaaGreatScB8
import Derived.Test.YgcoaaGreatScB9
import Derived.Test.YgcoaaGreatScB10
set_option linter.unusedVariables false
set_option linter.unusedSimpArgs false
set_option maxRecDepth 20000
namespace Go.Proofs.YgcoaaGreat.NatW
open Go.RowKit
open Go.Proofs.YgcoaaGreat.Det
attribute [local go_sem] Go.Instr.field Go.asAgg

theorem mk_ex2 : ∃ mk, Mk mk ∧ ∀ n d e, Canon (mk n d e).dig (mk n d e).exp := by
  have h : ∀ x : Bool × ByteArray × Int, ∃ m : MK, Canon m.dig m.exp ∧ (-1000000000 ≤ x.2.2 → x.2.2 ≤ 1000000000 → x.2.1.size ≤ 1000000 → Canon m.dig m.exp ∧ DF 35 #[.bool x.1, .string x.2.1, .int .i64 x.2.2] m.val) := by
    rintro ⟨n, d, e⟩
    by_cases hb : -1000000000 ≤ e ∧ e ≤ 1000000000 ∧ d.size ≤ 1000000
    · obtain ⟨m, hm⟩ := make_x n d e hb.1 hb.2.1 hb.2.2
      exact ⟨m, hm.1, fun _ _ _ => hm⟩
    · exact ⟨⟨false, ⟨#[]⟩, 0, false⟩, .inl ⟨rfl, rfl⟩, fun a b c => absurd ⟨a, b, c⟩ hb⟩
  obtain ⟨f, hf⟩ := Classical.skolem.1 h
  exact ⟨fun n d e => f (n, d, e), fun n d e => (hf (n, d, e)).2, fun n d e => (hf (n, d, e)).1⟩
theorem mkscan_num (m : MK) (h : Canon m.dig m.exp) : NumR m.scan := by
  unfold MK.scan
  split
  · exact numR_fin _ h
  · exact numR_big
theorem numRinf (n : Bool) : NumR (scanV 1 n ⟨#[]⟩ 0 0 0) := ⟨1, n, ⟨#[]⟩, 0, 0, 0, rfl, by decide, by decide, by decide, by decide, by decide⟩
theorem numRnan : NumR (scanV 2 false ⟨#[]⟩ 0 0 0) := ⟨2, false, ⟨#[]⟩, 0, 0, 0, rfl, by decide, by decide, by decide, by decide, by decide⟩
theorem finV_num (mk : Bool → ByteArray → Int → MK) (hc : ∀ n d e, Canon (mk n d e).dig (mk n d e).exp) (s : DS) (n : Nat) : NumR (finV mk s n) := by
  unfold finV
  split
  · exact mkscan_num _ (hc _ _ _)
  · exact mkscan_num _ (hc _ _ _)
  · exact mkscan_num _ (hc _ _ _)
  · exact mkscan_num _ (hc _ _ _)
  · split
    · exact numR_wrong _ _
    · cases (s.at_ == 3 || s.at_ == 8)
      · exact numR_wrong _ _
      · exact numRinf _
    · cases (s.at_ == 3)
      · exact numR_wrong _ _
      · exact numRnan
  · exact numR_wrong _ _
theorem scanF_num (mk : Bool → ByteArray → Int → MK) (hc : ∀ n d e, Canon (mk n d e).dig (mk n d e).exp) (text : ByteArray) : ∀ (k pos : Nat) (s : DS), NumR (scanF mk text k pos s) := by
  intro k
  induction k with
  | zero => intro pos s; exact finV_num mk hc s _
  | succ k ih =>
    intro pos s
    unfold scanF
    split
    · split
      · exact ih _ _
      · exact numR_wrong _ _
    · exact finV_num mk hc s _

set_option maxHeartbeats 8000000 in
theorem scan_xs (text : ByteArray) (hts : text.size ≤ 1024) : ∃ v, NumR v ∧ DF 254 #[.string text] v := by
  obtain ⟨mk, hmk, hcan⟩ := mk_ex2
  refine ⟨scanF mk text text.size 0 ⟨false, false, [], 0, 0, 0, 0, 0⟩, scanF_num mk hcan text _ _ _, fun w tb K hon hK => ?_⟩
  obtain ⟨V, hV0⟩ : ∃ V, scanF mk text text.size 0 ⟨false, false, [], 0, 0, 0, 0, 0⟩ = V := ⟨_, rfl⟩
  rw [hV0] at hK
  have HK := hide hK
  clear hK
  go_enter Oaag.func254, Oaag.ntmps254
  go_wp2_with fail
  go_step3
  go_wp2_with fail
  go_step3
  go_wp2_with fail
  ((first | with_reducible refine gen_calls ?_ | with_reducible refine gen_wp ?_ | with_reducible refine gen_list ?_ | with_reducible refine gen_body ?_); intro W hW)
  obtain ⟨r0, r1, r2, r3, hbW⟩ := four_of (show (((w.alloc _).alloc _).alloc _).alloc _ = W from hW)
  have hsz : W.heap.size = w.heap.size + 4 := by rw [← (show (((w.alloc _).alloc _).alloc _).alloc _ = W from hW)]; simp
  clear hW
  have ht := hon.lt
  have hS : SW tb w w.heap.size (w.heap.size + 1 + 1) (w.heap.size + 1 + 1 + 1) text 0 ⟨false, false, [], 0, 0, 0, 0, 0⟩ (.slice (some ⟨w.heap.size + 1, 0, none⟩) 0 40) W :=
    ⟨hon.later hbW, hbW, ⟨Nat.le_refl _, by omega, by omega, by omega⟩, r0, r2, r3, .inr ⟨w.heap.size + 1, 40, _, 341, rfl, ⟨Nat.le_refl _, by omega⟩, r1, by decide, by decide, by simp, by simp⟩⟩
  have HS := hide hS
  clear r0 r1 r2 r3 hbW hsz hS
  go_loopw [5, 6, 7, 18] (fun t5 t6 t7 _ wr => ScR tb w w.heap.size (w.heap.size + 1 + 1) (w.heap.size + 1 + 1 + 1) text mk V t5 t6 t7 wr) (fun _ _ _ _ wr => text.size - wr.iterPos (w.heap.size + 1 + 1 + 1))
  case atStart => exact ⟨0, _, _, rfl, rfl, rfl, by unfold Okk; dsimp only; exact ⟨by omega, by omega, by omega, by simp, by omega, by omega⟩, hV0, unhide HS⟩
  case round =>
    clear HS
    obtain ⟨pos, ⟨neg, eneg, dig, frac, exp, st, wk, at_⟩, v, rfl, rfl, rfl, ⟨k1, k2, k3, k4, k5, k6⟩, hV, hS0⟩ := hrel
    dsimp only at k1 k2 k3 k4 k5 k6
    by_cases hp : pos < text.size
    case pos =>
      rcases (by omega : st = 0 ∨ st = 1 ∨ st = 2 ∨ st = 3 ∨ st = 4 ∨ st = 5 ∨ st = 6 ∨ st = 7 ∨ st = 8 ∨ st = 9) with rfl | rfl | rfl | rfl | rfl | rfl | rfl | rfl | rfl | rfl
      · exact rnd_0 text hts mk w tb K V HK _ ht wr pos neg eneg dig frac exp wk at_ k2 k3 k4 k5 k6 hp v hV hS0 _ _ _ _ _ _ _ _ _ _ _ _ _ _ _ _ _ _ _ _ _ _ _ _ _ _ _ _ _ _ _ _ _ _ _ _ _ _ _ _ _ _ _ _ _ _ _ _ _ _ _ _ _ _ _ _ _ _ _ _ _ _ _ _ _ _ _ _ _ _ _ _ _ _ _ _ _ _ _ _ _ _ _ _ _ _ _ _ _ _ _ _ _ _ _ _ _ _ _ _ _ _ _ _ _ _ _ _ _ _ _ _ _ _ _ _ _ _ _ _ _ _ _ _ _ _ _ _ _ _ _ _ _ _ _ _ _ _ _ _ _ _ _ _ _ _ _ _ _ _ _
      · exact rnd_1 text hts mk w tb K V HK _ ht wr pos neg eneg dig frac exp wk at_ k2 k3 k4 k5 k6 hp v hV hS0 _ _ _ _ _ _ _ _ _ _ _ _ _ _ _ _ _ _ _ _ _ _ _ _ _ _ _ _ _ _ _ _ _ _ _ _ _ _ _ _ _ _ _ _ _ _ _ _ _ _ _ _ _ _ _ _ _ _ _ _ _ _ _ _ _ _ _ _ _ _ _ _ _ _ _ _ _ _ _ _ _ _ _ _ _ _ _ _ _ _ _ _ _ _ _ _ _ _ _ _ _ _ _ _ _ _ _ _ _ _ _ _ _ _ _ _ _ _ _ _ _ _ _ _ _ _ _ _ _ _ _ _ _ _ _ _ _ _ _ _ _ _ _ _ _ _ _ _ _ _ _
      · exact rnd_2 text hts mk w tb K V HK _ ht wr pos neg eneg dig frac exp wk at_ k2 k3 k4 k5 k6 hp v hV hS0 _ _ _ _ _ _ _ _ _ _ _ _ _ _ _ _ _ _ _ _ _ _ _ _ _ _ _ _ _ _ _ _ _ _ _ _ _ _ _ _ _ _ _ _ _ _ _ _ _ _ _ _ _ _ _ _ _ _ _ _ _ _ _ _ _ _ _ _ _ _ _ _ _ _ _ _ _ _ _ _ _ _ _ _ _ _ _ _ _ _ _ _ _ _ _ _ _ _ _ _ _ _ _ _ _ _ _ _ _ _ _ _ _ _ _ _ _ _ _ _ _ _ _ _ _ _ _ _ _ _ _ _ _ _ _ _ _ _ _ _ _ _ _ _ _ _ _ _ _ _ _
      · exact rnd_3 text hts mk w tb K V HK _ ht wr pos neg eneg dig frac exp wk at_ k2 k3 k4 k5 k6 hp v hV hS0 _ _ _ _ _ _ _ _ _ _ _ _ _ _ _ _ _ _ _ _ _ _ _ _ _ _ _ _ _ _ _ _ _ _ _ _ _ _ _ _ _ _ _ _ _ _ _ _ _ _ _ _ _ _ _ _ _ _ _ _ _ _ _ _ _ _ _ _ _ _ _ _ _ _ _ _ _ _ _ _ _ _ _ _ _ _ _ _ _ _ _ _ _ _ _ _ _ _ _ _ _ _ _ _ _ _ _ _ _ _ _ _ _ _ _ _ _ _ _ _ _ _ _ _ _ _ _ _ _ _ _ _ _ _ _ _ _ _ _ _ _ _ _ _ _ _ _ _ _ _ _
      · exact rnd_4 text hts mk w tb K V HK _ ht wr pos neg eneg dig frac exp wk at_ k2 k3 k4 k5 k6 hp v hV hS0 _ _ _ _ _ _ _ _ _ _ _ _ _ _ _ _ _ _ _ _ _ _ _ _ _ _ _ _ _ _ _ _ _ _ _ _ _ _ _ _ _ _ _ _ _ _ _ _ _ _ _ _ _ _ _ _ _ _ _ _ _ _ _ _ _ _ _ _ _ _ _ _ _ _ _ _ _ _ _ _ _ _ _ _ _ _ _ _ _ _ _ _ _ _ _ _ _ _ _ _ _ _ _ _ _ _ _ _ _ _ _ _ _ _ _ _ _ _ _ _ _ _ _ _ _ _ _ _ _ _ _ _ _ _ _ _ _ _ _ _ _ _ _ _ _ _ _ _ _ _ _
      · exact rnd_5 text hts mk w tb K V HK _ ht wr pos neg eneg dig frac exp wk at_ k2 k3 k4 k5 k6 hp v hV hS0 _ _ _ _ _ _ _ _ _ _ _ _ _ _ _ _ _ _ _ _ _ _ _ _ _ _ _ _ _ _ _ _ _ _ _ _ _ _ _ _ _ _ _ _ _ _ _ _ _ _ _ _ _ _ _ _ _ _ _ _ _ _ _ _ _ _ _ _ _ _ _ _ _ _ _ _ _ _ _ _ _ _ _ _ _ _ _ _ _ _ _ _ _ _ _ _ _ _ _ _ _ _ _ _ _ _ _ _ _ _ _ _ _ _ _ _ _ _ _ _ _ _ _ _ _ _ _ _ _ _ _ _ _ _ _ _ _ _ _ _ _ _ _ _ _ _ _ _ _ _ _
      · exact rnd_6 text hts mk w tb K V HK _ ht wr pos neg eneg dig frac exp wk at_ k2 k3 k4 k5 k6 hp v hV hS0 _ _ _ _ _ _ _ _ _ _ _ _ _ _ _ _ _ _ _ _ _ _ _ _ _ _ _ _ _ _ _ _ _ _ _ _ _ _ _ _ _ _ _ _ _ _ _ _ _ _ _ _ _ _ _ _ _ _ _ _ _ _ _ _ _ _ _ _ _ _ _ _ _ _ _ _ _ _ _ _ _ _ _ _ _ _ _ _ _ _ _ _ _ _ _ _ _ _ _ _ _ _ _ _ _ _ _ _ _ _ _ _ _ _ _ _ _ _ _ _ _ _ _ _ _ _ _ _ _ _ _ _ _ _ _ _ _ _ _ _ _ _ _ _ _ _ _ _ _ _ _
      · exact rnd_7 text hts mk w tb K V HK _ ht wr pos neg eneg dig frac exp wk at_ k2 k3 k4 k5 k6 hp v hV hS0 _ _ _ _ _ _ _ _ _ _ _ _ _ _ _ _ _ _ _ _ _ _ _ _ _ _ _ _ _ _ _ _ _ _ _ _ _ _ _ _ _ _ _ _ _ _ _ _ _ _ _ _ _ _ _ _ _ _ _ _ _ _ _ _ _ _ _ _ _ _ _ _ _ _ _ _ _ _ _ _ _ _ _ _ _ _ _ _ _ _ _ _ _ _ _ _ _ _ _ _ _ _ _ _ _ _ _ _ _ _ _ _ _ _ _ _ _ _ _ _ _ _ _ _ _ _ _ _ _ _ _ _ _ _ _ _ _ _ _ _ _ _ _ _ _ _ _ _ _ _ _
      · exact rnd_8 text hts mk w tb K V HK _ ht wr pos neg eneg dig frac exp wk at_ k2 k3 k4 k5 k6 hp v hV hS0 _ _ _ _ _ _ _ _ _ _ _ _ _ _ _ _ _ _ _ _ _ _ _ _ _ _ _ _ _ _ _ _ _ _ _ _ _ _ _ _ _ _ _ _ _ _ _ _ _ _ _ _ _ _ _ _ _ _ _ _ _ _ _ _ _ _ _ _ _ _ _ _ _ _ _ _ _ _ _ _ _ _ _ _ _ _ _ _ _ _ _ _ _ _ _ _ _ _ _ _ _ _ _ _ _ _ _ _ _ _ _ _ _ _ _ _ _ _ _ _ _ _ _ _ _ _ _ _ _ _ _ _ _ _ _ _ _ _ _ _ _ _ _ _ _ _ _ _ _ _ _
      · exact rnd_9 text hts mk w tb K V HK _ ht wr pos neg eneg dig frac exp wk at_ k2 k3 k4 k5 k6 hp v hV hS0 _ _ _ _ _ _ _ _ _ _ _ _ _ _ _ _ _ _ _ _ _ _ _ _ _ _ _ _ _ _ _ _ _ _ _ _ _ _ _ _ _ _ _ _ _ _ _ _ _ _ _ _ _ _ _ _ _ _ _ _ _ _ _ _ _ _ _ _ _ _ _ _ _ _ _ _ _ _ _ _ _ _ _ _ _ _ _ _ _ _ _ _ _ _ _ _ _ _ _ _ _ _ _ _ _ _ _ _ _ _ _ _ _ _ _ _ _ _ _ _ _ _ _ _ _ _ _ _ _ _ _ _ _ _ _ _ _ _ _ _ _ _ _ _ _ _ _ _ _ _ _
    case neg =>
      have hnx := run_next_k_end (P := Oaag.prog) wr text pos _ 0 hS0.it hp
      rw [scanF_end mk text _ pos _ hp] at hV
      have hfin := finish_x mk hmk ⟨neg, eneg, dig, frac, exp, st, wk, at_⟩ text.size k1 k2 (show frac ≤ 1000000 by omega) k5 k6 (show dig.length ≤ 1000000 by omega) v tb wr hS0.on hS0.row
      obtain ⟨k, nn, dd, ee, pp, gg, hVs, _⟩ := finV_num mk hcan ⟨neg, eneg, dig, frac, exp, st, wk, at_⟩ text.size
      rw [hVs] at hV hfin
      rw [← hV] at HK
      simp only [scanV] at hfin HK
      try dsimp only at hfin
      have g0 := cell_of_row _ _ 0 _ _ _ hS0.ga
      have g1 := cell_of_row _ _ 1 _ _ _ hS0.ga
      have g2 := cell_of_row _ _ 2 _ _ _ hS0.ga
      have g3 := cell_of_row _ _ 3 _ _ _ hS0.ga
      have g4 := cell_of_row _ _ 4 _ _ _ hS0.ga
      simp only [List.getElem?_toArray, List.getElem?_cons_succ, List.getElem?_cons_zero] at g0 g1 g2 g3 g4
      obtain ⟨pa, pl, pc, rfl⟩ : ∃ a l c, v = .slice a l c := by obtain ⟨a, c, h⟩ := rowX_slice hS0.row; exact ⟨a, _, c, h⟩
      have hlt : w.heap.size < wr.heap.size := by have := hS0.lt; omega
      have q0 : wr.cell? ⟨w.heap.size, 0, none⟩ = some (.int .u8 0) := by have := cell_of_row _ _ 0 _ _ _ hS0.bx; simpa using this
      have p0 := frozen_of_row _ _ 0 _ _ hS0.bx
      have q1 : wr.cell? ⟨w.heap.size, 1, none⟩ = some (.bool false) := by have := cell_of_row _ _ 1 _ _ _ hS0.bx; simpa using this
      have p1 := frozen_of_row _ _ 1 _ _ hS0.bx
      have q2 : wr.cell? ⟨w.heap.size, 2, none⟩ = some (.string ⟨#[]⟩) := by have := cell_of_row _ _ 2 _ _ _ hS0.bx; simpa using this
      have p2 := frozen_of_row _ _ 2 _ _ hS0.bx
      have q3 : wr.cell? ⟨w.heap.size, 3, none⟩ = some (.int .i16 0) := by have := cell_of_row _ _ 3 _ _ _ hS0.bx; simpa using this
      have p3 := frozen_of_row _ _ 3 _ _ hS0.bx
      have q4 : wr.cell? ⟨w.heap.size, 4, none⟩ = some (.int .i64 0) := by have := cell_of_row _ _ 4 _ _ _ hS0.bx; simpa using this
      have p4 := frozen_of_row _ _ 4 _ _ hS0.bx
      have q5 : wr.cell? ⟨w.heap.size, 5, none⟩ = some (.int .i32 0) := by have := cell_of_row _ _ 5 _ _ _ hS0.bx; simpa using this
      have p5 := frozen_of_row _ _ 5 _ _ hS0.bx
      have HBL := hide hS0.below
      clear hS0
      have HFI := hide hfin
      clear hfin
      go_wp2_with (go_at_call 377; refine (unhide HFI) _ ?_; intro W2 hb; have c0 : W2.cell? ⟨w.heap.size, 0, none⟩ = some (.int .u8 0) := (hb.cell (p := ⟨w.heap.size, 0, none⟩) hlt).trans q0; have f0 : W2.frozen? ⟨w.heap.size, 0, none⟩ = false := (hb.frozen (p := ⟨w.heap.size, 0, none⟩) hlt).trans p0; have c1 : W2.cell? ⟨w.heap.size, 1, none⟩ = some (.bool false) := (hb.cell (p := ⟨w.heap.size, 1, none⟩) hlt).trans q1; have f1 : W2.frozen? ⟨w.heap.size, 1, none⟩ = false := (hb.frozen (p := ⟨w.heap.size, 1, none⟩) hlt).trans p1; have c2 : W2.cell? ⟨w.heap.size, 2, none⟩ = some (.string ⟨#[]⟩) := (hb.cell (p := ⟨w.heap.size, 2, none⟩) hlt).trans q2; have f2 : W2.frozen? ⟨w.heap.size, 2, none⟩ = false := (hb.frozen (p := ⟨w.heap.size, 2, none⟩) hlt).trans p2; have c3 : W2.cell? ⟨w.heap.size, 3, none⟩ = some (.int .i16 0) := (hb.cell (p := ⟨w.heap.size, 3, none⟩) hlt).trans q3; have f3 : W2.frozen? ⟨w.heap.size, 3, none⟩ = false := (hb.frozen (p := ⟨w.heap.size, 3, none⟩) hlt).trans p3; have c4 : W2.cell? ⟨w.heap.size, 4, none⟩ = some (.int .i64 0) := (hb.cell (p := ⟨w.heap.size, 4, none⟩) hlt).trans q4; have f4 : W2.frozen? ⟨w.heap.size, 4, none⟩ = false := (hb.frozen (p := ⟨w.heap.size, 4, none⟩) hlt).trans p4; have c5 : W2.cell? ⟨w.heap.size, 5, none⟩ = some (.int .i32 0) := (hb.cell (p := ⟨w.heap.size, 5, none⟩) hlt).trans q5; have f5 : W2.frozen? ⟨w.heap.size, 5, none⟩ = false := (hb.frozen (p := ⟨w.heap.size, 5, none⟩) hlt).trans p5; have HBB := hide ((unhide HBL).trans (hb.mono (Nat.le_of_lt hlt))); clear hb)
      refine bodyPost_box rfl ?_
      intro r hr
      simp [results, Oaag.results254, go_sem, c0, c1, c2, c3, c4, c5] at hr
      subst hr
      refine ⟨_, rfl, ?_⟩
      exact unhide HK _ (below_store (below_store (below_store (below_store (below_store (below_store (unhide HBB) (Nat.le_refl _) _) (Nat.le_refl _) _) (Nat.le_refl _) _) (Nat.le_refl _) _) (Nat.le_refl _) _) (Nat.le_refl _) _)

theorem scan_big (text : ByteArray) (hs : 1024 < text.size) : DF 254 #[.string text] (scanV 4 false ⟨#[]⟩ 0 0 0) := by
  intro w tb K ho hK
  have HK := hide hK
  clear hK
  go_enter Oaag.func254, Oaag.ntmps254
  go_wp2_with fail
  go_step3
  go_wp2_with fail
  refine bodyPost_box rfl ?_
  intro r hr
  simp [results, Oaag.results254, go_sem] at hr
  subst hr
  refine ⟨_, rfl, ?_⟩
  exact unhide HK _ ((Below.refl _ _).alloc (Nat.le_refl _) _)
/-- dec.Scan: one answer in every memory. -/
theorem scan_x (text : ByteArray) : ∃ v, NumR v ∧ DF 254 #[.string text] v := by
  by_cases hs : text.size ≤ 1024
  · exact scan_xs text hs
  · exact ⟨_, numR_big, scan_big text (by omega)⟩
end Go.Proofs.YgcoaaGreat.NatW
