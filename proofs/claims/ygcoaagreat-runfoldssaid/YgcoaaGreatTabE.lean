/-
  (*Table).Ok at the table that Build makes: the walk.
-/
import Derived.Test.YgcoaaGreatTabD
set_option linter.unusedVariables false
set_option linter.unusedSimpArgs false
namespace Go.Proofs.YgcoaaGreat.NatW
open Go.RowKit
open Go.Proofs.YgcoaaGreat.Limbs

theorem Tab.entry {w : World} {g : Nat} (h : Tab w g (fun _ => True)) (i : Nat) (hi : i < 696) :
    w.cell? ⟨g, i * 2, none⟩ = some (.int .u64 (entHi ((i : Int) - 348) : Nat)) ∧ w.cell? ⟨g, i * 2 + 1, none⟩ = some (.int .u64 (entLo ((i : Int) - 348) : Nat)) ∧ w.cell? ⟨g, 1392 + i, none⟩ = some (.int .i16 (entE ((i : Int) - 348))) := by
  obtain ⟨cs, h1, h2, h3⟩ := h
  have := h3 i hi trivial
  exact ⟨by rw [cell_of_row _ _ _ _ _ _ h1]; exact this.1, by rw [cell_of_row _ _ _ _ _ _ h1]; exact this.2.1, by rw [cell_of_row _ _ _ _ _ _ h1]; exact this.2.2⟩

set_option maxRecDepth 20000 in
set_option maxHeartbeats 2000000 in
theorem ok_yes (w : World) (g : Nat) (h : Tab w g (fun _ => True)) :
    Calls Oaag.prog 23 #[.pointer (some ⟨g, 0, none⟩)] w fun e w' => e = .returned (.bool true) ∧ Below w.heap.size w w' := by
  have HT := hide h
  clear h
  go_enter Oaag.func23, Oaag.ntmps23
  go_wp2
  go_loopw [10] (fun t wr => ∃ i : Nat, i ≤ 696 ∧ t = .int .i64 i ∧ Below w.heap.size w wr) (fun t _ => 696 - (intOf t).toNat)
  case atStart => exact ⟨0, by omega, rfl, Below.refl _ _⟩
  case round =>
    obtain ⟨i, hi, rfl, hbw⟩ := hrel
    by_cases hil : i < 696
    · have ht := (unhide HT).later hbw
      obtain ⟨c0, c1, c2⟩ := ht.entry i hil
      have hw := ent_words ((i : Int) - 348) (by omega) (by omega)
      have hf := fits_yes wr.drew (entHi ((i : Int) - 348)) (entLo ((i : Int) - 348)) (entE ((i : Int) - 348)) hw.1 hw.2.1 hw.2.2.1 hw.2.2.2.1 hw.2.2.2.2.1 hw.2.2.2.2.2
      obtain ⟨HI, hHI⟩ : ∃ x, x = entHi ((i : Int) - 348) := ⟨_, rfl⟩
      obtain ⟨LO, hLO⟩ : ∃ x, x = entLo ((i : Int) - 348) := ⟨_, rfl⟩
      obtain ⟨EE, hEE⟩ : ∃ x, x = entE ((i : Int) - 348) := ⟨_, rfl⟩
      rw [← hHI, ← hLO, ← hEE] at hf
      rw [← hHI] at c0
      rw [← hLO] at c1
      rw [← hEE] at c2
      have HF := hide hf
      clear hf hw ht hHI hLO hEE
      go_wp2_with fail
      go_region_with ((go_at_call 51; refine (unhide HF).mono ?_; rintro e w3 ⟨rfl, hb3⟩))
      all_goals
        have hb3' : Below wr.heap.size wr w3 := Below.trans (b := wr.drew) (Below.refl _ _).drew hb3
        have hsz := hbw.size
        clear c0 c1 c2 HF hb3
        go_wp2
        go_roundw
        case rel => exact ⟨i + 1, by omega, by simp, hbw.trans (hb3'.mono hsz)⟩
        case measure => simp [intOf]; omega
    · go_wp2
      go_loopw [28, 5] (fun t v wr => ∃ i : Nat, i ≤ 696 ∧ t = .int .i64 i ∧ Below w.heap.size w wr) (fun t _ _ => 696 - (intOf t).toNat)
      case atStart => exact ⟨0, by omega, rfl, hbw⟩
      case round =>
        clear hbw hi hil
        obtain ⟨i, hi, rfl, hbw⟩ := hrel
        by_cases hil : i < 696
        · have hen := Entry_any wr ((i : Int) - 348) (by omega) (by omega)
          obtain ⟨HI, hHI⟩ : ∃ x, x = entHi ((i : Int) - 348) := ⟨_, rfl⟩
          obtain ⟨LO, hLO⟩ : ∃ x, x = entLo ((i : Int) - 348) := ⟨_, rfl⟩
          obtain ⟨EE, hEE⟩ : ∃ x, x = entE ((i : Int) - 348) := ⟨_, rfl⟩
          rw [← hHI, ← hLO, ← hEE] at hen
          have HEN := hide hen
          have HHI := hide hHI
          have HLO := hide hLO
          have HEE := hide hEE
          clear hen hHI hLO hEE
          have hsz := hbw.size
          go_wp2_with fail
          refine (unhide HEN).mono ?_
          rintro e w3 ⟨rfl, hb3⟩
          have hb3' : Below w.heap.size w w3 := hbw.trans (hb3.mono hsz)
          have ht := (unhide HT).later hb3'
          have hsz3 := hb3'.size
          obtain ⟨c0, c1, c2⟩ := ht.entry i hil
          rw [← unhide HHI] at c0
          rw [← unhide HLO] at c1
          rw [← unhide HEE] at c2
          have hg : g < w3.heap.size := World.block_lt_of_cell? _ _ c0
          clear ht HEN hb3
          go_wp2
          have hbox := box_cells (box_heap w3 _ (.int .u64 (HI : Nat)) (.int .u64 (LO : Nat)) 47 (Below.refl _ _))
          have hb4 : Below w3.heap.size w3 (w3.alloc (.cells #[.int .u64 (HI : Nat), .int .u64 (LO : Nat)] 47)) := (Below.refl _ _).alloc (Nat.le_refl _) _
          have e0 := (hb4.cell (p := ⟨g, i * 2, none⟩) hg).trans c0
          have e1 := (hb4.cell (p := ⟨g, i * 2 + 1, none⟩) hg).trans c1
          have e2 := (hb4.cell (p := ⟨g, 1392 + i, none⟩) hg).trans c2
          obtain ⟨d0, d1⟩ := hbox
          obtain ⟨w4, hw4⟩ : ∃ w4, w4 = w3.alloc (.cells #[.int .u64 (HI : Nat), .int .u64 (LO : Nat)] 47) := ⟨_, rfl⟩
          rw [← hw4] at hb4 e0 e1 e2 d0 d1 ⊢
          clear hw4 c0 c1 c2
          go_quiet (fail)
          go_wp2
          go_roundw
          case rel => exact ⟨i + 1, by omega, by simp, below_drewN (hb3'.trans (hb4.mono hsz3)) _⟩
          case measure => simp [intOf]; omega
        · go_wp2
          go_ret
          exact ⟨rfl, hbw⟩

end Go.Proofs.YgcoaaGreat.NatW
