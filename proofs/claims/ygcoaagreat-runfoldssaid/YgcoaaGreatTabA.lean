/-
  low128, Fits: the walks.
-/
import Derived.Test.YgcoaaGreatDivMod
set_option linter.unusedVariables false
set_option linter.unusedSimpArgs false
namespace Go.Proofs.YgcoaaGreat.NatW
open Go.RowKit
open Go.Proofs.YgcoaaGreat.Limbs

theorem mask3 (i : Nat) (h : i < 4) : bits .and .i64 (i : Int) 3 = (i : Int) := by
  match i, h with
  | 0, _ => decide
  | 1, _ => decide
  | 2, _ => decide
  | 3, _ => decide

/-- The four words, as they are filled. -/
def words (l : List Nat) : Array Value := #[.int .u64 (l.getD 0 0 : Nat), .int .u64 (l.getD 1 0 : Nat), .int .u64 (l.getD 2 0 : Nat), .int .u64 (l.getD 3 0 : Nat)]

theorem words_step (L : List Nat) (i X : Nat) (h : i < L.length) (h4 : L.length ≤ 4) (hX : X = L.getD i 0) :
    (words (L.take i)).setIfInBounds i (.int .u64 (X : Nat)) = words (L.take (i + 1)) := by
  rw [take_succ_getD L i h, ← hX]
  have hl : (L.take i).length = i := by rw [List.length_take]; omega
  generalize L.take i = T at hl
  match T, hl with
  | [], hl => subst hl; rfl
  | [a], hl => subst hl; rfl
  | [a, b], hl => subst hl; rfl
  | [a, b, c], hl => subst hl; rfl
  | a :: b :: c :: d :: r, hl => simp at hl; omega

theorem words_end (n : Nat) (h : n < 340282366920938463463374607431768211456) :
    (lim n).getD 3 0 * 4294967296 + (lim n).getD 2 0 = n / 18446744073709551616 ∧ (lim n).getD 1 0 * 4294967296 + (lim n).getD 0 0 = n % 18446744073709551616 := by
  rw [lim_getD, lim_getD, lim_getD, lim_getD]
  simp only [show (4294967296 : Nat) ^ 3 = 79228162514264337593543950336 from rfl, show (4294967296 : Nat) ^ 2 = 18446744073709551616 from rfl, Nat.pow_one, Nat.pow_zero, Nat.div_one]
  omega

set_option maxRecDepth 20000 in
set_option maxHeartbeats 1000000 in
theorem low128_any (w : World) (a : Option Addr) (cap : Nat) (n : Nat) (h : Sl w a cap (lim n)) (hn : n < 340282366920938463463374607431768211456) :
    Calls Oaag.prog 64 #[.slice a (lim n).length cap] w fun e w' => e = .returned (.agg #[.int .u64 (n / 18446744073709551616 : Nat), .int .u64 (n % 18446744073709551616 : Nat)]) ∧ Below w.heap.size w w' := by
  have h4 : (lim n).length ≤ 4 := lim_length_le n 4 (by simpa using hn)
  have hwe := words_end n hn
  have HWE := hide hwe
  obtain ⟨L, hL⟩ : ∃ L, L = lim n := ⟨_, rfl⟩
  rw [← hL] at h h4 ⊢
  have HL := hide hL
  clear hL hn hwe
  go_enter Oaag.func64, Oaag.ntmps64
  go_wp2
  go_loopw [8] (fun t wr => ∃ i : Nat, i ≤ L.length ∧ t = .int .i64 i ∧ Below w.heap.size w wr ∧ wr.heap[w.heap.size]? = some (.cells #[.int .u64 0, .int .u64 0] 47 (0, 0)) ∧ wr.heap[w.heap.size + 1]? = some (.cells (words (L.take i)) 156 (0, 0)))
    (fun t _ => L.length - (intOf t).toNat)
  case atStart =>
    refine ⟨0, Nat.zero_le _, rfl, ((Below.refl _ _).alloc (Nat.le_refl _) _).alloc (by simp) _, ?_, ?_⟩
    · rw [Below.heap_alloc _ _ _ (by simp), heap_alloc_new]
    · have := heap_alloc_new (w.alloc (.cells #[.int .u64 0, .int .u64 0] 47)) (.cells #[.int .u64 0, .int .u64 0, .int .u64 0, .int .u64 0] 156)
      simpa [words] using this
  case round =>
    obtain ⟨i, hi, rfl, hbw, hg0, hg1⟩ := hrel
    by_cases hil : i < L.length
    · obtain ⟨b1, o1, rfl, -⟩ := h.row (by omega)
      have c1 := h.at_ hbw i hil
      have p1 := getD_lt L h.lt i
      have c2 : ∃ v, wr.cell? ⟨w.heap.size + 1, i, none⟩ = some v := by
        rw [cell_of_row _ _ _ _ _ _ hg1]
        have : i < (words (L.take i)).size := by simp [words]; omega
        exact ⟨_, Array.getElem?_eq_getElem this⟩
      obtain ⟨v2, c2⟩ := c2
      have f2 := frozen_of_row wr (w.heap.size + 1) i _ _ hg1
      obtain ⟨X, hX⟩ : ∃ X, X = L.getD i 0 := ⟨_, rfl⟩
      rw [← hX] at c1 p1
      have HX := hide hX
      have HG0 := hide hg0
      have HG1 := hide hg1
      clear hX hg0 hg1
      have hm := mask3 i (by omega)
      go_wp2
      go_roundw
      case rel =>
        refine ⟨i + 1, by omega, by simp, hbw.setCell (p := ⟨w.heap.size + 1, i, none⟩) (by simp) _, ?_, ?_⟩
        · rw [heap_setCell_other _ _ _ _ (by simp)]; exact unhide HG0
        · rw [heap_setCell_same _ _ _ _ _ _ (unhide HG1), words_step L i X hil h4 (unhide HX)]
      case measure => simp [intOf]; omega
    · have hi' : i = L.length := by omega
      subst hi'
      rw [List.take_length] at hg1
      have c0 := cell_of_row wr (w.heap.size + 1) 0 _ _ _ hg1
      have c1 := cell_of_row wr (w.heap.size + 1) 1 _ _ _ hg1
      have c2 := cell_of_row wr (w.heap.size + 1) 2 _ _ _ hg1
      have c3 := cell_of_row wr (w.heap.size + 1) 3 _ _ _ hg1
      have d0 := cell_of_row wr w.heap.size 0 _ _ _ hg0
      have d1 := cell_of_row wr w.heap.size 1 _ _ _ hg0
      have e0 := frozen_of_row wr w.heap.size 0 _ _ hg0
      have e1 := frozen_of_row wr w.heap.size 1 _ _ hg0
      have p0 := getD_lt L h.lt 0
      have p1 := getD_lt L h.lt 1
      have p2 := getD_lt L h.lt 2
      have p3 := getD_lt L h.lt 3
      simp only [words] at c0 c1 c2 c3
      obtain ⟨X0, hX0⟩ : ∃ X, X = L.getD 0 0 := ⟨_, rfl⟩
      obtain ⟨X1, hX1⟩ : ∃ X, X = L.getD 1 0 := ⟨_, rfl⟩
      obtain ⟨X2, hX2⟩ : ∃ X, X = L.getD 2 0 := ⟨_, rfl⟩
      obtain ⟨X3, hX3⟩ : ∃ X, X = L.getD 3 0 := ⟨_, rfl⟩
      rw [← hX0, ← hX1, ← hX2, ← hX3] at c0 c1 c2 c3
      rw [← hX0] at p0
      rw [← hX1] at p1
      rw [← hX2] at p2
      rw [← hX3] at p3
      have o1 := or_join X3 X2 p3 p2
      have o2 := or_join X1 X0 p1 p0
      have hwe := unhide HWE
      rw [← unhide HL, ← hX0, ← hX1, ← hX2, ← hX3] at hwe
      have HWE2 := hide hwe
      clear hwe hX0 hX1 hX2 hX3 hg0 hg1 HWE
      simp at c0 c1 c2 c3 d0 d1
      go_wp2
      refine bodyPost_ret (v := .agg #[.int .u64 ((X3 : Int) * 4294967296 + X2), .int .u64 ((X1 : Int) * 4294967296 + X0)]) (by simp [results, Oaag.results64, go_sem, d0, d1]) rfl ⟨?_, ?_⟩
      · have hwe := unhide HWE2
        have a1 : (X3 : Int) * 4294967296 + X2 = ((n / 18446744073709551616 : Nat) : Int) := by rw [← hwe.1]; simp
        have a2 : (X1 : Int) * 4294967296 + X0 = ((n % 18446744073709551616 : Nat) : Int) := by rw [← hwe.2]; simp
        rw [a1, a2]
      · exact (hbw.setCell (p := ⟨w.heap.size, 0, none⟩) (Nat.le_refl _) _).setCell (p := ⟨w.heap.size, 1, none⟩) (Nat.le_refl _) _

set_option maxRecDepth 20000 in
set_option maxHeartbeats 1000000 in
theorem fits_yes (w : World) (hi lo : Nat) (e : Int) (h1 : 9223372036854775808 ≤ hi) (h2 : hi < 18446744073709551616) (h3 : lo < 18446744073709551616) (h4 : ¬ (hi = 18446744073709551615 ∧ lo = 18446744073709551615)) (h5 : -1300 ≤ e) (h6 : e ≤ 1100) :
    Calls Oaag.prog 51 #[.agg #[.int .u64 hi, .int .u64 lo], .int .i16 e] w fun e w' => e = .returned (.bool true) ∧ Below w.heap.size w w' := by
  have e1 : ((hi : Int) / 9223372036854775808 == 1) = true := by simp; omega
  go_enter Oaag.func51, Oaag.ntmps51
  go_wp2
  all_goals
    go_ret
    exact ⟨rfl, (Below.refl _ _).alloc (Nat.le_refl _) _⟩

end Go.Proofs.YgcoaaGreat.NatW
