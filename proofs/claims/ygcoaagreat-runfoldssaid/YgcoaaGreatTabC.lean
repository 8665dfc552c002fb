/-
  Entry: the walk.
-/
import Derived.Test.YgcoaaGreatTabB
set_option linter.unusedVariables false
set_option linter.unusedSimpArgs false
namespace Go.Proofs.YgcoaaGreat.NatW
open Go.RowKit
open Go.Proofs.YgcoaaGreat.Limbs

/-- An entry's two words. -/
def entHi (q : Int) : Nat := entM q / 18446744073709551616
def entLo (q : Int) : Nat := entM q % 18446744073709551616
theorem ent_words (q : Int) (h1 : -348 ≤ q) (h2 : q ≤ 347) : 9223372036854775808 ≤ entHi q ∧ entHi q < 18446744073709551616 ∧ entLo q < 18446744073709551616 ∧ ¬ (entHi q = 18446744073709551615 ∧ entLo q = 18446744073709551615) ∧ -1300 ≤ entE q ∧ entE q ≤ 1100 := by
  have h := ent_ok q h1 h2
  unfold entHi entLo
  omega

theorem box_heap (w w1 : World) (u v : Value) (t : TypeId) (hb : Below (w.heap.size + 1) (w.alloc (.cells #[u, v] t)) w1) : w1.heap[w.heap.size]? = some (.cells #[u, v] t (0, 0)) := by
  rw [hb.block _ (by omega), heap_alloc_new]
theorem box_set {w : World} {g : Nat} {u v : Value} {t : TypeId} (h : w.heap[g]? = some (.cells #[u, v] t (0, 0))) (x y : Value) : ((w.setCell ⟨g, 0, none⟩ x).setCell ⟨g, 1, none⟩ y).heap[g]? = some (.cells #[x, y] t (0, 0)) := by
  rw [heap_setCell_same _ _ _ _ _ _ (heap_setCell_same _ _ _ _ _ x h)]
  rfl
theorem box_cells {w : World} {g : Nat} {u v : Value} {t : TypeId} (h : w.heap[g]? = some (.cells #[u, v] t (0, 0))) : w.cell? ⟨g, 0, none⟩ = some u ∧ w.cell? ⟨g, 1, none⟩ = some v :=
  ⟨by rw [cell_of_row _ _ _ _ _ _ h]; rfl, by rw [cell_of_row _ _ _ _ _ _ h]; rfl⟩

theorem entry_any (w : World) (a : Option Addr) (cap : Nat) (k : Nat) (q : Int) (hk : k = q.natAbs) (h : Sl w a cap (lim (5 ^ k))) (h1 : -348 ≤ q) (h2 : q ≤ 347) :
    Calls Oaag.prog 26 #[.slice a (lim (5 ^ k)).length cap, .int .i16 q] w fun e w' => e = .returned (.tuple #[.agg #[.int .u64 (entHi q : Nat), .int .u64 (entLo q : Nat)], .int .i16 (entE q)]) ∧ Below w.heap.size w w' := by
  by_cases hq : q < 0
  · have e : (-q).toNat = k := by omega
    have := entry_neg w a cap k h (by omega) (by omega) q (by omega)
    unfold entHi entLo entM entE
    rw [if_pos hq, if_pos hq, e]
    exact this
  · have e : q.toNat = k := by omega
    have e2 : q = (k : Int) := by omega
    have := entry_pos w a cap k h (by omega)
    unfold entHi entLo entM entE
    rw [if_neg hq, if_neg hq, e, e2]
    exact this

set_option maxRecDepth 20000 in
set_option maxHeartbeats 1000000 in
theorem Entry_any (w : World) (q : Int) (h1 : -348 ≤ q) (h2 : q ≤ 347) :
    Calls Oaag.prog 52 #[.int .i16 q] w fun e w' => e = .returned (.tuple #[.agg #[.int .u64 (entHi q : Nat), .int .u64 (entLo q : Nat)], .int .i16 (entE q), .bool true]) ∧ Below w.heap.size w w' := by
  obtain ⟨k, hk⟩ : ∃ k, k = q.natAbs := ⟨_, rfl⟩
  have hk2 : k ≤ 348 := by omega
  go_enter Oaag.func52, Oaag.ntmps52
  go_wp2_with fail
  all_goals
    first
      | rw [show Value.int .u16 (-q) = .int .u16 (k : Int) from by rw [show -q = (k : Int) from by omega]]
      | rw [show Value.int .u16 q = .int .u16 (k : Int) from by rw [← show q = (k : Int) from by omega]]
    obtain ⟨w0, hw0⟩ : ∃ w0, w0 = w.alloc (Obj.cells #[Value.int IntKind.u64 0, Value.int IntKind.u64 0] 47) := ⟨_, rfl⟩
    have hb0 : Below w.heap.size w w0 := by rw [hw0]; exact (Below.refl _ _).alloc (Nat.le_refl _) _
    have hs0 : w0.heap.size = w.heap.size + 1 := by rw [hw0]; simp
    rw [← hw0]
    have HW0 := hide hw0
    clear hw0
    have hz0 : w.heap.size + 1 ≤ w0.heap.size := by omega
    have HS0 := hide hs0
    have HK := hide hk
    clear hs0 hk
    refine (pow5_any _ k (by omega)).mono ?_
    rintro e w1 ⟨a1, cap1, rfl, hres1, hb1⟩
    have hsz1 := hb1.size
    have hen := entry_any w1 a1 cap1 k q (unhide HK) hres1.sl h1 h2
    have HEN := hide hen
    clear hen hres1
    go_wp2_with fail
    refine (unhide HEN).mono ?_
    rintro e w4 ⟨rfl, hb4⟩
    have hb04 : Below w0.heap.size w0 w4 := hb1.trans (hb4.mono (by omega))
    have hbox := box_two w w4 (.int .u64 0) (.int .u64 0) 47 (by rw [← unhide HW0]; exact hb04.mono hz0)
    have hheap := box_heap w w4 (.int .u64 0) (.int .u64 0) 47 (by rw [← unhide HW0]; exact hb04.mono hz0)
    have hfin := box_cells (box_set (box_set hheap (.int .u64 (entHi q : Nat)) (.int .u64 (entLo q : Nat))) (.int .u64 (entHi q : Nat)) (.int .u64 (entLo q : Nat)))
    have HFIN := hide hfin
    clear hheap hfin
    obtain ⟨d0, d1, f0, f1⟩ := hbox
    have HLO2 := hide hb04
    clear hb04 HEN hb1 hb4
    go_wp2
    refine bodyPost_ret (v := .tuple #[.agg #[.int .u64 (entHi q : Nat), .int .u64 (entLo q : Nat)], .int .i16 (entE q), .bool true]) (by simp [results, Oaag.results52, go_sem, (unhide HFIN).1, (unhide HFIN).2]) rfl ⟨rfl, ?_⟩
    have hb04 := unhide HLO2
    exact ((((hb0.trans (hb04.mono (by omega))).setCell (p := ⟨w.heap.size, 0, none⟩) (Nat.le_refl _) _).setCell (p := ⟨w.heap.size, 1, none⟩) (Nat.le_refl _) _).setCell (p := ⟨w.heap.size, 0, none⟩) (Nat.le_refl _) _).setCell (p := ⟨w.heap.size, 1, none⟩) (Nat.le_refl _) _

end Go.Proofs.YgcoaaGreat.NatW
