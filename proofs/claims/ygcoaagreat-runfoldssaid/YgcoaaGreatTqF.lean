/-
  The top: fold.
-/
import Derived.Test.YgcoaaGreatTqE
set_option linter.unusedVariables false
set_option linter.unusedSimpArgs false
set_option maxRecDepth 20000
namespace Go.Proofs.YgcoaaGreat.NatW
open Go.RowKit
open Go.Proofs.YgcoaaGreat.Det
open Go.Proofs.YgcoaaGreat.Limbs Go.Proofs.YgcoaaGreat.Bits
attribute [local go_sem] Go.Instr.field Go.asAgg

set_option maxHeartbeats 4000000 in
theorem fold_run (eng : Int) (E M : Nat) (md : Int) (tb : Nat) (v : Value) (ops : List OpT) (S : Nat → St) (hS : Tr 43 eng E M md ops 256 S) (w : World) (ho : On tb w) (hs : Scr w.heap.size w v ops) :
    Calls Oaag.prog 91 #[.pointer (some ⟨tb, 0, none⟩), .int .u8 eng, fmt E M, .int .u8 md, v] w fun e w' => ∃ v', e = .returned (macV (S (min ops.length 256)).R v') ∧ OwnL w' w.heap.size v' (S (min ops.length 256)).L ∧ Below w.heap.size w w' := by
  have HO := hide ho
  have HS := hide hs
  have HTr := hide hS
  obtain ⟨a, cap, rfl, -⟩ := hs
  clear ho hS
  go_enter Oaag.func91, Oaag.ntmps91
  go_wp2_with (first
    | (with_reducible refine at_fn 161 ?_
       refine gen_calls ?_
       intro wl hwl
       have hsz : wl.heap.size = w.heap.size + 1 + 1 := by rw [← hwl]; simp only [size_new]
       have hbl : Below w.heap.size w wl := by
         rw [← hwl]
         exact ((Below.refl _ _).alloc (Nat.le_refl _) _).alloc (by simp only [size_new]; omega) _
       have hrc : Mine wl (w.heap.size + 1) := by
         rw [← hwl, show w.heap.size + 1 = (w.alloc (.cells #[.int .u8 E, .int .u8 M] 23)).heap.size by simp only [size_new]]
         exact Mine.new _ _ _
       have hrr : wl.heap[w.heap.size + 1]? = some (.cells #[.int .u64 0, .int .u64 0, .int .u64 0, .int .u64 0, .int .u64 0, .int .u64 0, .int .u64 0, .int .u64 0, .slice none 0 0] 89 (0, 0)) := by
         rw [← hwl]
         exact row_new _ _ _ (by simp only [size_new])
       clear hwl
       refine (ff_run eng E M md tb _ ops S (unhide HTr) wl ((unhide HO).later hbl) ?_).mono ?_
       · obtain ⟨a', cap', hv, hcs⟩ := (unhide HS).kept hbl (Nat.le_refl _)
         refine ⟨a', cap', hv, fun i o hi => ?_⟩
         obtain ⟨b, off, h1, h2, h3⟩ := hcs i o hi
         exact ⟨b, off, h1, by omega, h3⟩
       rintro _ W2 ⟨v', rfl, hown, hb2⟩
       have hmn := hrc.kept hb2 (by omega)
       have hrw := (hb2.block (w.heap.size + 1) (by omega)).trans hrr
       have n0 := cellr hrw 0 _ rfl
       have z0 := hmn.2 0
       have n1 := cellr hrw 1 _ rfl
       have z1 := hmn.2 1
       have n2 := cellr hrw 2 _ rfl
       have z2 := hmn.2 2
       have n3 := cellr hrw 3 _ rfl
       have z3 := hmn.2 3
       have n4 := cellr hrw 4 _ rfl
       have z4 := hmn.2 4
       have n5 := cellr hrw 5 _ rfl
       have z5 := hmn.2 5
       have n6 := cellr hrw 6 _ rfl
       have z6 := hmn.2 6
       have n7 := cellr hrw 7 _ rfl
       have z7 := hmn.2 7
       have n8 := cellr hrw 8 _ rfl
       have z8 := hmn.2 8
       have HR := hide hown
       obtain ⟨a9, cap9, rfl, -⟩ := hown.rd
       unfold macV
       clear hown hmn hrw hrr hrc)
    | fail)
  refine bodyPost_box rfl ?_
  intro r hr
  simp [results, Oaag.results91, go_sem, n0, n1, n2, n3, n4, n5, n6, n7, n8] at hr
  subst hr
  have hown := unhide HR
  exact ⟨_, rfl, _, rfl, OwnL.low (((((((((hown.other _ (by omega)).other _ (by omega)).other _ (by omega)).other _ (by omega)).other _ (by omega)).other _ (by omega)).other _ (by omega)).other _ (by omega)).other _ (by omega)) (by omega), (((((((((hbl.trans (hb2.mono (by omega))).setCell (by show w.heap.size ≤ w.heap.size + 1; omega) _).setCell (by show w.heap.size ≤ w.heap.size + 1; omega) _).setCell (by show w.heap.size ≤ w.heap.size + 1; omega) _).setCell (by show w.heap.size ≤ w.heap.size + 1; omega) _).setCell (by show w.heap.size ≤ w.heap.size + 1; omega) _).setCell (by show w.heap.size ≤ w.heap.size + 1; omega) _).setCell (by show w.heap.size ≤ w.heap.size + 1; omega) _).setCell (by show w.heap.size ≤ w.heap.size + 1; omega) _).setCell (by show w.heap.size ≤ w.heap.size + 1; omega) _⟩
end Go.Proofs.YgcoaaGreat.NatW
