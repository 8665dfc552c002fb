/-
  The top: Run.
-/
import Derived.Test.YgcoaaGreatTqF
set_option linter.unusedVariables false
set_option linter.unusedSimpArgs false
set_option maxRecDepth 20000
namespace Go.Proofs.YgcoaaGreat.NatW
open Go.RowKit
open Go.Proofs.YgcoaaGreat.Det
open Go.Proofs.YgcoaaGreat.Limbs Go.Proofs.YgcoaaGreat.Bits
attribute [local go_sem] Go.Instr.field Go.asAgg

def outNo : Value := outV true (fun _ => 0) (.slice none 0 0)
set_option maxHeartbeats 4000000 in
theorem run_no (eng : Int) (h0 : 0 ≤ eng) (E M : Nat) (md : Int) (tb : Nat) (v : Value) (ops : List OpT) (b : Bool) (ha : alwB eng E M md = b) (hn : b = false ∨ 256 < ops.length) (w : World) (ho : On tb w) (hs : Scr w.heap.size w v ops) :
    Calls Oaag.prog 87 #[.pointer (some ⟨tb, 0, none⟩), .int .u8 eng, fmt E M, .int .u8 md, v] w fun e w' => e = .returned outNo ∧ Below w.heap.size w w' := by
  have hlq : b = true → (ops.length : Int) > 256 := fun hb => by
    rcases hn with h | h
    · rw [h] at hb; cases hb
    · omega
  cases b
  · have HO := hide ho
    have HS := hide hs
    obtain ⟨a, cap, rfl, -⟩ := hs
    have HA := hide (al_dft eng E M md h0 tb)
    clear ho
    go_enter Oaag.func87, Oaag.ntmps87
    go_wp2_with (first
      | (with_reducible refine at_fn 159 ?_
         refine gen_calls ?_
         intro wl hwl
         have hsz : wl.heap.size = w.heap.size + 1 + 1 := by rw [← hwl]; simp only [size_new]
         have hbl : Below w.heap.size w wl := by
           rw [← hwl]
           exact ((Below.refl _ _).alloc (Nat.le_refl _) _).alloc (by simp only [size_new]; omega) _
         have hrc : Mine wl (w.heap.size + 1) := by
           rw [← hwl, show w.heap.size + 1 = (w.alloc (.cells #[.int .u8 E, .int .u8 M] 23)).heap.size by simp only [size_new]]
           exact Mine.new _ _ _
         have hrr : wl.heap[w.heap.size + 1]? = some (.cells #[.bool false, .int .u64 0, .int .u64 0, .int .u64 0, .int .u64 0, .int .u64 0, .int .u64 0, .int .u64 0, .int .u64 0, .slice none 0 0] 127 (0, 0)) := by
           rw [← hwl]
           exact row_new _ _ _ (by simp only [size_new])
         have hbx : wl.heap[w.heap.size]? = some (.cells #[.int .u8 E, .int .u8 M] 23 (0, 0)) := by
           rw [← hwl]
           exact row_old (row_new _ _ _ rfl)
         clear hwl
         refine (unhide HA) wl _ ((unhide HO).later hbl) ?_
         rw [ha]
         intro W2 hb2
         have hsz2 : w.heap.size + 1 + 1 ≤ W2.heap.size := by have := hb2.size; omega
         have hmn := hrc.kept hb2 (by omega)
         have hrw := (hb2.block (w.heap.size + 1) (by omega)).trans hrr
         have hbw := (hb2.block w.heap.size (by omega)).trans hbx
         have hbl2 : Below w.heap.size w W2 := hbl.trans (hb2.mono (by omega))
         have n0 := cellr hrw 0 _ rfl
         have z0 := hmn.2 0
         have n1 := cellr hrw 1 _ rfl
         have z1 := hmn.2 1
         have n2 := cellr hrw 2 _ rfl
         have z2 := hmn.2 2
         have n3 := cellr hrw 3 _ rfl
         have z3 := hmn.2 3
         have n4 := cellr hrw 4 _ rfl
         have z4 := hmn.2 4
         have n5 := cellr hrw 5 _ rfl
         have z5 := hmn.2 5
         have n6 := cellr hrw 6 _ rfl
         have z6 := hmn.2 6
         have n7 := cellr hrw 7 _ rfl
         have z7 := hmn.2 7
         have n8 := cellr hrw 8 _ rfl
         have z8 := hmn.2 8
         have n9 := cellr hrw 9 _ rfl
         have z9 := hmn.2 9
         clear hb2 hrc hrr hbx hbl hsz)
      | fail)
    refine bodyPost_box rfl ?_
    intro r hr
    simp [results, Oaag.results87, go_sem, n0, n1, n2, n3, n4, n5, n6, n7, n8, n9] at hr
    subst hr
    exact ⟨_, rfl, rfl, ((((((((((hbl2).setCell (by show w.heap.size ≤ w.heap.size + 1; omega) _).setCell (by show w.heap.size ≤ w.heap.size + 1; omega) _).setCell (by show w.heap.size ≤ w.heap.size + 1; omega) _).setCell (by show w.heap.size ≤ w.heap.size + 1; omega) _).setCell (by show w.heap.size ≤ w.heap.size + 1; omega) _).setCell (by show w.heap.size ≤ w.heap.size + 1; omega) _).setCell (by show w.heap.size ≤ w.heap.size + 1; omega) _).setCell (by show w.heap.size ≤ w.heap.size + 1; omega) _).setCell (by show w.heap.size ≤ w.heap.size + 1; omega) _).setCell (by show w.heap.size ≤ w.heap.size + 1; omega) _⟩
  · have hlq2 := hlq rfl
    have HO := hide ho
    have HS := hide hs
    obtain ⟨a, cap, rfl, -⟩ := hs
    have HA := hide (al_dft eng E M md h0 tb)
    clear ho
    go_enter Oaag.func87, Oaag.ntmps87
    go_wp2_with (first
      | (with_reducible refine at_fn 159 ?_
         refine gen_calls ?_
         intro wl hwl
         have hsz : wl.heap.size = w.heap.size + 1 + 1 := by rw [← hwl]; simp only [size_new]
         have hbl : Below w.heap.size w wl := by
           rw [← hwl]
           exact ((Below.refl _ _).alloc (Nat.le_refl _) _).alloc (by simp only [size_new]; omega) _
         have hrc : Mine wl (w.heap.size + 1) := by
           rw [← hwl, show w.heap.size + 1 = (w.alloc (.cells #[.int .u8 E, .int .u8 M] 23)).heap.size by simp only [size_new]]
           exact Mine.new _ _ _
         have hrr : wl.heap[w.heap.size + 1]? = some (.cells #[.bool false, .int .u64 0, .int .u64 0, .int .u64 0, .int .u64 0, .int .u64 0, .int .u64 0, .int .u64 0, .int .u64 0, .slice none 0 0] 127 (0, 0)) := by
           rw [← hwl]
           exact row_new _ _ _ (by simp only [size_new])
         have hbx : wl.heap[w.heap.size]? = some (.cells #[.int .u8 E, .int .u8 M] 23 (0, 0)) := by
           rw [← hwl]
           exact row_old (row_new _ _ _ rfl)
         clear hwl
         refine (unhide HA) wl _ ((unhide HO).later hbl) ?_
         rw [ha]
         intro W2 hb2
         have hsz2 : w.heap.size + 1 + 1 ≤ W2.heap.size := by have := hb2.size; omega
         have hmn := hrc.kept hb2 (by omega)
         have hrw := (hb2.block (w.heap.size + 1) (by omega)).trans hrr
         have hbw := (hb2.block w.heap.size (by omega)).trans hbx
         have hbl2 : Below w.heap.size w W2 := hbl.trans (hb2.mono (by omega))
         have n0 := cellr hrw 0 _ rfl
         have z0 := hmn.2 0
         have n1 := cellr hrw 1 _ rfl
         have z1 := hmn.2 1
         have n2 := cellr hrw 2 _ rfl
         have z2 := hmn.2 2
         have n3 := cellr hrw 3 _ rfl
         have z3 := hmn.2 3
         have n4 := cellr hrw 4 _ rfl
         have z4 := hmn.2 4
         have n5 := cellr hrw 5 _ rfl
         have z5 := hmn.2 5
         have n6 := cellr hrw 6 _ rfl
         have z6 := hmn.2 6
         have n7 := cellr hrw 7 _ rfl
         have z7 := hmn.2 7
         have n8 := cellr hrw 8 _ rfl
         have z8 := hmn.2 8
         have n9 := cellr hrw 9 _ rfl
         have z9 := hmn.2 9
         clear hb2 hrc hrr hbx hbl hsz)
      | fail)
    refine bodyPost_box rfl ?_
    intro r hr
    simp [results, Oaag.results87, go_sem, n0, n1, n2, n3, n4, n5, n6, n7, n8, n9] at hr
    subst hr
    exact ⟨_, rfl, rfl, ((((((((((hbl2).setCell (by show w.heap.size ≤ w.heap.size + 1; omega) _).setCell (by show w.heap.size ≤ w.heap.size + 1; omega) _).setCell (by show w.heap.size ≤ w.heap.size + 1; omega) _).setCell (by show w.heap.size ≤ w.heap.size + 1; omega) _).setCell (by show w.heap.size ≤ w.heap.size + 1; omega) _).setCell (by show w.heap.size ≤ w.heap.size + 1; omega) _).setCell (by show w.heap.size ≤ w.heap.size + 1; omega) _).setCell (by show w.heap.size ≤ w.heap.size + 1; omega) _).setCell (by show w.heap.size ≤ w.heap.size + 1; omega) _).setCell (by show w.heap.size ≤ w.heap.size + 1; omega) _⟩
end Go.Proofs.YgcoaaGreat.NatW
