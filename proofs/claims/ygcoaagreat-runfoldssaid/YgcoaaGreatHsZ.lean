/-
  Package hexa: Scan, exactly: the whole.
-/
import Derived.Test.YgcoaaGreatHsB0
import Derived.Test.YgcoaaGreatHsB1
import Derived.Test.YgcoaaGreatHsB2
import Derived.Test.YgcoaaGreatHsB3
import Derived.Test.YgcoaaGreatHsB4
import Derived.Test.YgcoaaGreatHsB5
import Derived.Test.YgcoaaGreatHsB6
import Derived.Test.YgcoaaGreatHsB7
import Derived.Test.YgcoaaGreatHsB8
import Derived.Test.YgcoaaGreatHsB9
import Derived.Test.YgcoaaGreatHsB10
set_option linter.unusedVariables false
set_option linter.unusedSimpArgs false
set_option maxRecDepth 20000
namespace Go.Proofs.YgcoaaGreat.NatW
open Go.RowKit
open Go.Proofs.YgcoaaGreat.Det
attribute [local go_sem] Go.Instr.field Go.asAgg

set_option maxHeartbeats 8000000 in
theorem hscan_xs (text : ByteArray) (hts : text.size ≤ 1024) : ∃ v, NumR v ∧ DF 266 #[.string text] v := by
  obtain ⟨mk, hmk⟩ := hk_ex
  refine ⟨hscanF mk text text.size 0 ⟨false, false, [], 0, 0, 0⟩, hscanF_num mk hmk text _ _ _, fun w tb K hon hK => ?_⟩
  obtain ⟨V, hV0⟩ : ∃ V, hscanF mk text text.size 0 ⟨false, false, [], 0, 0, 0⟩ = V := ⟨_, rfl⟩
  rw [hV0] at hK
  have HK := hide hK
  clear hK
  go_enter Oaag.func266, Oaag.ntmps266
  go_wp2_with fail
  go_step3
  go_wp2_with fail
  go_step3
  go_wp2_with fail
  ((first | with_reducible refine gen_calls ?_ | with_reducible refine gen_wp ?_ | with_reducible refine gen_list ?_ | with_reducible refine gen_body ?_); intro W hW)
  have hW' : (w.alloc (.cells #[.int .u8 0, .bool false, .string ⟨#[]⟩, .int .i16 0, .int .i64 0, .int .i32 0] 253)).alloc (.stringIter text 0) = W := hW
  have hsz : W.heap.size = w.heap.size + 2 := by rw [← hW']; simp
  have hbW : Below w.heap.size w W := by rw [← hW']; exact two_alloc
  have r0 : W.heap[w.heap.size]? = some (.cells #[.int .u8 0, .bool false, .string ⟨#[]⟩, .int .i16 0, .int .i64 0, .int .i32 0] 253 (0, 0)) := by rw [← hW', Below.heap_alloc _ _ _ (by simp)]; exact heap_alloc_new w _
  have r1 : W.heap[w.heap.size + 1]? = some (.stringIter text 0) := by rw [← hW']; have := heap_alloc_new (w.alloc (.cells #[.int .u8 0, .bool false, .string ⟨#[]⟩, .int .i16 0, .int .i64 0, .int .i32 0] 253)) (.stringIter text 0); simpa using this
  clear hW hW'
  have ht := hon.lt
  have hS : HW tb w w.heap.size (w.heap.size + 1) text 0 ⟨false, false, [], 0, 0, 0⟩ (.slice none 0 0) W :=
    ⟨hon.later hbW, hbW, ⟨Nat.le_refl _, by omega, by omega⟩, r0, r1, .inl ⟨rfl, rfl⟩⟩
  have HS := hide hS
  clear r0 r1 hbW hsz hS
  go_loopw [3, 4, 5, 6, 7, 8, 21] (fun t3 t4 t5 t6 t7 t8 _ wr => HsR tb w w.heap.size (w.heap.size + 1) text mk V t3 t4 t5 t6 t7 t8 wr) (fun _ _ _ _ _ _ _ wr => text.size - wr.iterPos (w.heap.size + 1))
  case atStart => exact ⟨0, _, rfl, rfl, rfl, rfl, rfl, by unfold Hokk; dsimp only; exact ⟨by omega, by omega, by omega, by simp⟩, hV0, unhide HS⟩
  case round =>
    clear HS
    obtain ⟨pos, ⟨neg, eneg, dig, frac, exp, st⟩, rfl, rfl, rfl, rfl, rfl, ⟨k1, k2, k3, k4⟩, hV, hS0⟩ := hrel
    dsimp only at k1 k2 k3 k4
    obtain ⟨pa, pc, e3⟩ := rowX_sliceM hS0.row
    dsimp only at e3
    subst e3
    by_cases hp : pos < text.size
    case pos =>
      rcases (by omega : st = 0 ∨ st = 1 ∨ st = 2 ∨ st = 3 ∨ st = 4 ∨ st = 5 ∨ st = 6 ∨ st = 7 ∨ st = 8 ∨ st = 9 ∨ st = 10) with rfl | rfl | rfl | rfl | rfl | rfl | rfl | rfl | rfl | rfl | rfl
      · exact hrnd_0 text hts mk w tb K V HK _ ht wr pos neg eneg dig frac exp k2 k3 k4 hp pa pc hV hS0 _ _ _ _ _ _ _ _ _ _ _ _ _ _ _ _ _ _ _ _ _ _ _ _ _ _ _ _ _ _ _ _ _ _ _ _ _ _ _ _ _ _ _ _ _ _ _ _ _ _ _ _ _ _ _ _ _ _ _ _ _ _ _ _ _ _ _ _ _ _ _ _ _ _ _ _ _ _ _ _ _ _ _ _ _ _ _ _ _ _ _ _ _ _ _ _ _ _ _ _ _ _ _ _ _ _ _ _ _ _ _ _ _ _ _ _ _ _ _ _ _ _ _ _ _ _ _ _ _ _ _
      · exact hrnd_1 text hts mk w tb K V HK _ ht wr pos neg eneg dig frac exp k2 k3 k4 hp pa pc hV hS0 _ _ _ _ _ _ _ _ _ _ _ _ _ _ _ _ _ _ _ _ _ _ _ _ _ _ _ _ _ _ _ _ _ _ _ _ _ _ _ _ _ _ _ _ _ _ _ _ _ _ _ _ _ _ _ _ _ _ _ _ _ _ _ _ _ _ _ _ _ _ _ _ _ _ _ _ _ _ _ _ _ _ _ _ _ _ _ _ _ _ _ _ _ _ _ _ _ _ _ _ _ _ _ _ _ _ _ _ _ _ _ _ _ _ _ _ _ _ _ _ _ _ _ _ _ _ _ _ _ _ _
      · exact hrnd_2 text hts mk w tb K V HK _ ht wr pos neg eneg dig frac exp k2 k3 k4 hp pa pc hV hS0 _ _ _ _ _ _ _ _ _ _ _ _ _ _ _ _ _ _ _ _ _ _ _ _ _ _ _ _ _ _ _ _ _ _ _ _ _ _ _ _ _ _ _ _ _ _ _ _ _ _ _ _ _ _ _ _ _ _ _ _ _ _ _ _ _ _ _ _ _ _ _ _ _ _ _ _ _ _ _ _ _ _ _ _ _ _ _ _ _ _ _ _ _ _ _ _ _ _ _ _ _ _ _ _ _ _ _ _ _ _ _ _ _ _ _ _ _ _ _ _ _ _ _ _ _ _ _ _ _ _ _
      · exact hrnd_3 text hts mk w tb K V HK _ ht wr pos neg eneg dig frac exp k2 k3 k4 hp pa pc hV hS0 _ _ _ _ _ _ _ _ _ _ _ _ _ _ _ _ _ _ _ _ _ _ _ _ _ _ _ _ _ _ _ _ _ _ _ _ _ _ _ _ _ _ _ _ _ _ _ _ _ _ _ _ _ _ _ _ _ _ _ _ _ _ _ _ _ _ _ _ _ _ _ _ _ _ _ _ _ _ _ _ _ _ _ _ _ _ _ _ _ _ _ _ _ _ _ _ _ _ _ _ _ _ _ _ _ _ _ _ _ _ _ _ _ _ _ _ _ _ _ _ _ _ _ _ _ _ _ _ _ _ _
      · exact hrnd_4 text hts mk w tb K V HK _ ht wr pos neg eneg dig frac exp k2 k3 k4 hp pa pc hV hS0 _ _ _ _ _ _ _ _ _ _ _ _ _ _ _ _ _ _ _ _ _ _ _ _ _ _ _ _ _ _ _ _ _ _ _ _ _ _ _ _ _ _ _ _ _ _ _ _ _ _ _ _ _ _ _ _ _ _ _ _ _ _ _ _ _ _ _ _ _ _ _ _ _ _ _ _ _ _ _ _ _ _ _ _ _ _ _ _ _ _ _ _ _ _ _ _ _ _ _ _ _ _ _ _ _ _ _ _ _ _ _ _ _ _ _ _ _ _ _ _ _ _ _ _ _ _ _ _ _ _ _
      · exact hrnd_5 text hts mk w tb K V HK _ ht wr pos neg eneg dig frac exp k2 k3 k4 hp pa pc hV hS0 _ _ _ _ _ _ _ _ _ _ _ _ _ _ _ _ _ _ _ _ _ _ _ _ _ _ _ _ _ _ _ _ _ _ _ _ _ _ _ _ _ _ _ _ _ _ _ _ _ _ _ _ _ _ _ _ _ _ _ _ _ _ _ _ _ _ _ _ _ _ _ _ _ _ _ _ _ _ _ _ _ _ _ _ _ _ _ _ _ _ _ _ _ _ _ _ _ _ _ _ _ _ _ _ _ _ _ _ _ _ _ _ _ _ _ _ _ _ _ _ _ _ _ _ _ _ _ _ _ _ _
      · exact hrnd_6 text hts mk w tb K V HK _ ht wr pos neg eneg dig frac exp k2 k3 k4 hp pa pc hV hS0 _ _ _ _ _ _ _ _ _ _ _ _ _ _ _ _ _ _ _ _ _ _ _ _ _ _ _ _ _ _ _ _ _ _ _ _ _ _ _ _ _ _ _ _ _ _ _ _ _ _ _ _ _ _ _ _ _ _ _ _ _ _ _ _ _ _ _ _ _ _ _ _ _ _ _ _ _ _ _ _ _ _ _ _ _ _ _ _ _ _ _ _ _ _ _ _ _ _ _ _ _ _ _ _ _ _ _ _ _ _ _ _ _ _ _ _ _ _ _ _ _ _ _ _ _ _ _ _ _ _ _
      · exact hrnd_7 text hts mk w tb K V HK _ ht wr pos neg eneg dig frac exp k2 k3 k4 hp pa pc hV hS0 _ _ _ _ _ _ _ _ _ _ _ _ _ _ _ _ _ _ _ _ _ _ _ _ _ _ _ _ _ _ _ _ _ _ _ _ _ _ _ _ _ _ _ _ _ _ _ _ _ _ _ _ _ _ _ _ _ _ _ _ _ _ _ _ _ _ _ _ _ _ _ _ _ _ _ _ _ _ _ _ _ _ _ _ _ _ _ _ _ _ _ _ _ _ _ _ _ _ _ _ _ _ _ _ _ _ _ _ _ _ _ _ _ _ _ _ _ _ _ _ _ _ _ _ _ _ _ _ _ _ _
      · exact hrnd_8 text hts mk w tb K V HK _ ht wr pos neg eneg dig frac exp k2 k3 k4 hp pa pc hV hS0 _ _ _ _ _ _ _ _ _ _ _ _ _ _ _ _ _ _ _ _ _ _ _ _ _ _ _ _ _ _ _ _ _ _ _ _ _ _ _ _ _ _ _ _ _ _ _ _ _ _ _ _ _ _ _ _ _ _ _ _ _ _ _ _ _ _ _ _ _ _ _ _ _ _ _ _ _ _ _ _ _ _ _ _ _ _ _ _ _ _ _ _ _ _ _ _ _ _ _ _ _ _ _ _ _ _ _ _ _ _ _ _ _ _ _ _ _ _ _ _ _ _ _ _ _ _ _ _ _ _ _
      · exact hrnd_9 text hts mk w tb K V HK _ ht wr pos neg eneg dig frac exp k2 k3 k4 hp pa pc hV hS0 _ _ _ _ _ _ _ _ _ _ _ _ _ _ _ _ _ _ _ _ _ _ _ _ _ _ _ _ _ _ _ _ _ _ _ _ _ _ _ _ _ _ _ _ _ _ _ _ _ _ _ _ _ _ _ _ _ _ _ _ _ _ _ _ _ _ _ _ _ _ _ _ _ _ _ _ _ _ _ _ _ _ _ _ _ _ _ _ _ _ _ _ _ _ _ _ _ _ _ _ _ _ _ _ _ _ _ _ _ _ _ _ _ _ _ _ _ _ _ _ _ _ _ _ _ _ _ _ _ _ _
      · exact hrnd_10 text hts mk w tb K V HK _ ht wr pos neg eneg dig frac exp k2 k3 k4 hp pa pc hV hS0 _ _ _ _ _ _ _ _ _ _ _ _ _ _ _ _ _ _ _ _ _ _ _ _ _ _ _ _ _ _ _ _ _ _ _ _ _ _ _ _ _ _ _ _ _ _ _ _ _ _ _ _ _ _ _ _ _ _ _ _ _ _ _ _ _ _ _ _ _ _ _ _ _ _ _ _ _ _ _ _ _ _ _ _ _ _ _ _ _ _ _ _ _ _ _ _ _ _ _ _ _ _ _ _ _ _ _ _ _ _ _ _ _ _ _ _ _ _ _ _ _ _ _ _ _ _ _ _ _ _ _
    case neg =>
      have hnx := run_next_k_end (P := Oaag.prog) wr text pos _ 0 hS0.it hp
      rw [hscanF_end mk text _ pos _ hp] at hV
      have hlt : w.heap.size < wr.heap.size := by have := hS0.lt; omega
      have q0 : wr.cell? ⟨w.heap.size, 0, none⟩ = some (.int .u8 0) := by have := cell_of_row _ _ 0 _ _ _ hS0.bx; simpa using this
      have p0 := frozen_of_row _ _ 0 _ _ hS0.bx
      have q1 : wr.cell? ⟨w.heap.size, 1, none⟩ = some (.bool false) := by have := cell_of_row _ _ 1 _ _ _ hS0.bx; simpa using this
      have p1 := frozen_of_row _ _ 1 _ _ hS0.bx
      have q2 : wr.cell? ⟨w.heap.size, 2, none⟩ = some (.string ⟨#[]⟩) := by have := cell_of_row _ _ 2 _ _ _ hS0.bx; simpa using this
      have p2 := frozen_of_row _ _ 2 _ _ hS0.bx
      have q3 : wr.cell? ⟨w.heap.size, 3, none⟩ = some (.int .i16 0) := by have := cell_of_row _ _ 3 _ _ _ hS0.bx; simpa using this
      have p3 := frozen_of_row _ _ 3 _ _ hS0.bx
      have q4 : wr.cell? ⟨w.heap.size, 4, none⟩ = some (.int .i64 0) := by have := cell_of_row _ _ 4 _ _ _ hS0.bx; simpa using this
      have p4 := frozen_of_row _ _ 4 _ _ hS0.bx
      have q5 : wr.cell? ⟨w.heap.size, 5, none⟩ = some (.int .i32 0) := by have := cell_of_row _ _ 5 _ _ _ hS0.bx; simpa using this
      have p5 := frozen_of_row _ _ 5 _ _ hS0.bx
      have HBL := hide hS0.below
      have hcv := rowX_string _ hS0.row
      dsimp only at hcv
      have hon2 := hide hS0.on
      clear hS0
      by_cases hst : st = 10
      · subst hst
        have hm := hmk.run neg (strOfNums dig) ((if eneg then -(exp : Int) else exp) - 4 * frac) (by split <;> omega) (by split <;> omega) (by rw [strOfNums_size]; omega)
        simp only [hfinV] at hV
        generalize mk neg (strOfNums dig) ((if eneg then -(exp : Int) else exp) - 4 * frac) = mm at *
        obtain ⟨n', d', e', ok⟩ := mm
        simp only [MK.val, MK.scan] at hm hV
        rw [← hV] at HK
        clear hV
        cases eneg
        all_goals simp only [if_true, if_false, Bool.false_eq_true] at hm
        all_goals cases ok
        all_goals simp only [if_true, if_false, Bool.false_eq_true, scanV] at HK
        all_goals
          go_wp2_with ((with_reducible refine DF.run hm (unhide hon2) ?_); intro W2 hb; have c0 : W2.cell? ⟨w.heap.size, 0, none⟩ = some (.int .u8 0) := (hb.cell (p := ⟨w.heap.size, 0, none⟩) hlt).trans q0; have f0 : W2.frozen? ⟨w.heap.size, 0, none⟩ = false := (hb.frozen (p := ⟨w.heap.size, 0, none⟩) hlt).trans p0; have c1 : W2.cell? ⟨w.heap.size, 1, none⟩ = some (.bool false) := (hb.cell (p := ⟨w.heap.size, 1, none⟩) hlt).trans q1; have f1 : W2.frozen? ⟨w.heap.size, 1, none⟩ = false := (hb.frozen (p := ⟨w.heap.size, 1, none⟩) hlt).trans p1; have c2 : W2.cell? ⟨w.heap.size, 2, none⟩ = some (.string ⟨#[]⟩) := (hb.cell (p := ⟨w.heap.size, 2, none⟩) hlt).trans q2; have f2 : W2.frozen? ⟨w.heap.size, 2, none⟩ = false := (hb.frozen (p := ⟨w.heap.size, 2, none⟩) hlt).trans p2; have c3 : W2.cell? ⟨w.heap.size, 3, none⟩ = some (.int .i16 0) := (hb.cell (p := ⟨w.heap.size, 3, none⟩) hlt).trans q3; have f3 : W2.frozen? ⟨w.heap.size, 3, none⟩ = false := (hb.frozen (p := ⟨w.heap.size, 3, none⟩) hlt).trans p3; have c4 : W2.cell? ⟨w.heap.size, 4, none⟩ = some (.int .i64 0) := (hb.cell (p := ⟨w.heap.size, 4, none⟩) hlt).trans q4; have f4 : W2.frozen? ⟨w.heap.size, 4, none⟩ = false := (hb.frozen (p := ⟨w.heap.size, 4, none⟩) hlt).trans p4; have c5 : W2.cell? ⟨w.heap.size, 5, none⟩ = some (.int .i32 0) := (hb.cell (p := ⟨w.heap.size, 5, none⟩) hlt).trans q5; have f5 : W2.frozen? ⟨w.heap.size, 5, none⟩ = false := (hb.frozen (p := ⟨w.heap.size, 5, none⟩) hlt).trans p5; have lt2 : w.heap.size < W2.heap.size := Nat.lt_of_lt_of_le hlt hb.size; have HBB := hide ((unhide HBL).trans (hb.mono (Nat.le_of_lt hlt))); clear hb)
          refine bodyPost_box rfl ?_
          intro r hr
          simp [results, Oaag.results266, go_sem, c0, c1, c2, c3, c4, c5, lt2] at hr
          subst hr
          refine ⟨_, rfl, ?_⟩
          exact unhide HK _ ((below_store (below_store (below_store (below_store (below_store (below_store (unhide HBB) (Nat.le_refl _) _) (Nat.le_refl _) _) (Nat.le_refl _) _) (Nat.le_refl _) _) (Nat.le_refl _) _) (Nat.le_refl _) _).alloc (by simp only [World.size_setCell]; exact Nat.le_of_lt lt2) _)
      · have hn10 : ((st : Int) == 10) = false := by apply beq_false_of_ne; omega
        have hV2 : scanV 3 false ⟨#[]⟩ 0 text.size (-1) = V := by
          rw [← hV]
          unfold hfinV
          split
          · rename_i h; exact absurd h hst
          · rfl
        rw [← hV2] at HK
        clear hV hV2
        simp only [scanV] at HK
        go_wp2_with fail
        refine bodyPost_box rfl ?_
        intro r hr
        simp [results, Oaag.results266, go_sem, q0, q1, q2, q3, q4, q5] at hr
        subst hr
        refine ⟨_, rfl, ?_⟩
        exact unhide HK _ (below_store (below_store (below_store (below_store (below_store (below_store ((unhide HBL)) (Nat.le_refl _) _) (Nat.le_refl _) _) (Nat.le_refl _) _) (Nat.le_refl _) _) (Nat.le_refl _) _) (Nat.le_refl _) _)

theorem hscan_big (text : ByteArray) (hs : 1024 < text.size) : DF 266 #[.string text] (scanV 4 false ⟨#[]⟩ 0 0 0) := by
  intro w tb K ho hK
  have HK := hide hK
  clear hK
  go_enter Oaag.func266, Oaag.ntmps266
  go_wp2_with fail
  go_step3
  go_wp2_with fail
  refine bodyPost_box rfl ?_
  intro r hr
  simp [results, Oaag.results266, go_sem] at hr
  subst hr
  refine ⟨_, rfl, ?_⟩
  exact unhide HK _ ((Below.refl _ _).alloc (Nat.le_refl _) _)
/-- hexa.Scan: one answer in every memory. -/
theorem hscan_x (text : ByteArray) : ∃ v, NumR v ∧ DF 266 #[.string text] v := by
  by_cases hs : text.size ≤ 1024
  · exact hscan_xs text hs
  · exact ⟨_, numR_big, hscan_big text (by omega)⟩
end Go.Proofs.YgcoaaGreat.NatW
