/-
  (*Table).Ok at a table of which one entry is not what Entry gives.
-/
import Derived.Test.YgcoaaGreatTabE
import Derived.Test.YgcoaaGreatTabF
set_option linter.unusedVariables false
set_option linter.unusedSimpArgs false
namespace Go.Proofs.YgcoaaGreat.NatW
attribute [local go_sem] Go.Instr.field Go.asAgg
open Go.RowKit
open Go.Proofs.YgcoaaGreat.Limbs Go.Proofs.YgcoaaGreat.Bits

/-- Block g holds these entries. -/
def TabV (w : World) (g : Nat) (fh fl fe : Nat → Int) : Prop := ∀ i, i < 696 → w.cell? ⟨g, i * 2, none⟩ = some (.int .u64 (fh i)) ∧ w.cell? ⟨g, i * 2 + 1, none⟩ = some (.int .u64 (fl i)) ∧ w.cell? ⟨g, 1392 + i, none⟩ = some (.int .i16 (fe i))
theorem TabV.lt {w : World} {g : Nat} {fh fl fe : Nat → Int} (h : TabV w g fh fl fe) : g < w.heap.size := World.block_lt_of_cell? _ _ (h 0 (by omega)).1
theorem TabV.later {w w' : World} {g : Nat} {fh fl fe : Nat → Int} (h : TabV w g fh fl fe) (hb : Below w.heap.size w w') : TabV w' g fh fl fe := fun i hi => by
  have hl := h.lt
  exact ⟨(hb.cell (p := ⟨g, i * 2, none⟩) hl).trans (h i hi).1, (hb.cell (p := ⟨g, i * 2 + 1, none⟩) hl).trans (h i hi).2.1, (hb.cell (p := ⟨g, 1392 + i, none⟩) hl).trans (h i hi).2.2⟩

def OkR2 (w : World) (fh fl fe : Nat → Int) (t v : Value) (wr : World) : Prop := ∃ i : Nat, i ≤ 696 ∧ t = .int .i64 i ∧ Below w.heap.size w wr ∧ ∀ j, j < i → fh j = (entHi ((j : Int) - 348) : Nat) ∧ fl j = (entLo ((j : Int) - 348) : Nat) ∧ fe j = entE ((j : Int) - 348)

set_option maxRecDepth 20000 in
set_option maxHeartbeats 4000000 in
theorem ok_no (w : World) (g : Nat) (fh fl fe : Nat → Int) (h : TabV w g fh fl fe) (uh : ∀ i, i < 696 → U64 (fh i)) (ul : ∀ i, i < 696 → U64 (fl i)) (ue : ∀ i, i < 696 → -32768 ≤ fe i ∧ fe i ≤ 32767)
    (k : Nat) (hk : k < 696) (hne : ¬ (fh k = (entHi ((k : Int) - 348) : Nat) ∧ fl k = (entLo ((k : Int) - 348) : Nat) ∧ fe k = entE ((k : Int) - 348))) :
    Calls Oaag.prog 23 #[.pointer (some ⟨g, 0, none⟩)] w fun e w' => e = .returned (.bool false) ∧ Below w.heap.size w w' := by
  have HT := hide h
  have HNE := hide hne
  have UH := hide uh
  have UL := hide ul
  have UE := hide ue
  clear h hne uh ul ue
  go_enter Oaag.func23, Oaag.ntmps23
  go_wp2
  go_loopw [10] (fun t wr => ∃ i : Nat, i ≤ 696 ∧ t = .int .i64 i ∧ Below w.heap.size w wr) (fun t _ => 696 - (intOf t).toNat)
  case atStart => exact ⟨0, by omega, rfl, Below.refl _ _⟩
  case round =>
    obtain ⟨i, hi, rfl, hbw⟩ := hrel
    by_cases hil : i < 696
    · have ht := (unhide HT).later hbw
      obtain ⟨c0, c1, c2⟩ := ht i hil
      have u1 := unhide UH i hil
      have u2 := unhide UL i hil
      have u3 := unhide UE i hil
      obtain ⟨HI, hHI⟩ : ∃ x, x = fh i := ⟨_, rfl⟩
      obtain ⟨LO, hLO⟩ : ∃ x, x = fl i := ⟨_, rfl⟩
      obtain ⟨EE, hEE⟩ : ∃ x, x = fe i := ⟨_, rfl⟩
      rw [← hHI] at c0 u1
      rw [← hLO] at c1 u2
      rw [← hEE] at c2 u3
      have HF := hide (fits_iff HI LO EE u1 u2 u3.1 u3.2)
      clear ht hHI hLO hEE u1 u2 u3
      go_wp2_with fail
      go_region_with ((go_at_call 51; refine (unhide HF) _ _ ?_; rintro _ w3 ⟨bf, rfl, hbf⟩ hb3))
      all_goals
        have hb3' : Below wr.heap.size wr w3 := Below.trans (b := wr.drew) (Below.refl _ _).drew hb3
        have hsz := hbw.size
        clear c0 c1 c2 HF hb3 hbf
        cases bf
        · go_wp2
          go_ret
          exact ⟨rfl, hbw.trans (hb3'.mono hsz)⟩
        · go_wp2
          go_roundw
          case rel => exact ⟨i + 1, by omega, by simp, hbw.trans (hb3'.mono hsz)⟩
          case measure => simp [intOf]; omega
    · go_wp2
      go_loopw [28, 5] (OkR2 w fh fl fe) (fun t _ _ => 696 - (intOf t).toNat)
      case atStart => exact ⟨0, by omega, rfl, hbw, fun j hj => by omega⟩
      case round =>
        clear hbw hi hil
        obtain ⟨i, hi, rfl, hbw, hall⟩ := hrel
        by_cases hil : i < 696
        · have hen := Entry_any wr ((i : Int) - 348) (by omega) (by omega)
          obtain ⟨HI, hHI⟩ : ∃ x, x = entHi ((i : Int) - 348) := ⟨_, rfl⟩
          obtain ⟨LO, hLO⟩ : ∃ x, x = entLo ((i : Int) - 348) := ⟨_, rfl⟩
          obtain ⟨EE, hEE⟩ : ∃ x, x = entE ((i : Int) - 348) := ⟨_, rfl⟩
          rw [← hHI, ← hLO, ← hEE] at hen
          have HEN := hide hen
          have HALL := hide hall
          have HHI := hide hHI
          have HLO := hide hLO
          have HEE := hide hEE
          clear hen hHI hLO hEE hall
          have hsz := hbw.size
          go_wp2_with fail
          refine (unhide HEN).mono ?_
          rintro e w3 ⟨rfl, hb3⟩
          have hb3' : Below w.heap.size w w3 := hbw.trans (hb3.mono hsz)
          have ht := (unhide HT).later hb3'
          have hsz3 := hb3'.size
          obtain ⟨c0, c1, c2⟩ := ht i hil
          have hg : g < w3.heap.size := World.block_lt_of_cell? _ _ c0
          clear ht HEN hb3
          go_wp2
          have hbox := box_cells (box_heap w3 _ (.int .u64 (HI : Nat)) (.int .u64 (LO : Nat)) 47 (Below.refl _ _))
          have hb4 : Below w3.heap.size w3 (w3.alloc (.cells #[.int .u64 (HI : Nat), .int .u64 (LO : Nat)] 47)) := (Below.refl _ _).alloc (Nat.le_refl _) _
          have e0 := (hb4.cell (p := ⟨g, i * 2, none⟩) hg).trans c0
          have e1 := (hb4.cell (p := ⟨g, i * 2 + 1, none⟩) hg).trans c1
          have e2 := (hb4.cell (p := ⟨g, 1392 + i, none⟩) hg).trans c2
          obtain ⟨d0, d1⟩ := hbox
          obtain ⟨w4, hw4⟩ : ∃ w4, w4 = w3.alloc (.cells #[.int .u64 (HI : Nat), .int .u64 (LO : Nat)] 47) := ⟨_, rfl⟩
          rw [← hw4] at hb4 e0 e1 e2 d0 d1 ⊢
          clear hw4 c0 c1 c2
          have HFIN := hide (hb3'.trans (hb4.mono hsz3))
          clear hb3' hb4
          by_cases q0 : fh i = (HI : Nat)
          · rw [q0] at e0
            by_cases q1 : fl i = (LO : Nat)
            · rw [q1] at e1
              by_cases q2 : fe i = EE
              · rw [q2] at e2
                have HQ : Hid (fh i = (HI : Nat) ∧ fl i = (LO : Nat) ∧ fe i = EE) := hide ⟨q0, q1, q2⟩
                clear q0 q1 q2
                go_quiet (fail)
                go_wp2
                go_roundw
                case rel =>
                  refine ⟨i + 1, by omega, by simp, below_drewN (unhide HFIN) _, fun j hj => ?_⟩
                  by_cases hji : j < i
                  · exact unhide HALL j hji
                  · have : j = i := by omega
                    subst this
                    rw [← unhide HHI, ← unhide HLO, ← unhide HEE]
                    exact unhide HQ
                case measure => simp [intOf]; omega
              · obtain ⟨FE, hFE⟩ : ∃ x, x = fe i := ⟨_, rfl⟩
                rw [← hFE] at e2 q2
                clear hFE q0 q1
                go_quiet (fail)
                go_wp2
                go_ret
                exact ⟨rfl, below_drewN (unhide HFIN) _⟩
            · obtain ⟨FL, hFL⟩ : ∃ x, x = fl i := ⟨_, rfl⟩
              rw [← hFL] at e1 q1
              clear hFL q0
              go_quiet (fail)
              go_wp2
              go_ret
              exact ⟨rfl, below_drewN (unhide HFIN) _⟩
          · obtain ⟨FH, hFH⟩ : ∃ x, x = fh i := ⟨_, rfl⟩
            rw [← hFH] at e0 q0
            clear hFH
            go_quiet (fail)
            go_wp2
            go_ret
            exact ⟨rfl, below_drewN (unhide HFIN) _⟩
        · exact absurd (hall k (by omega)) (unhide HNE)

end Go.Proofs.YgcoaaGreat.NatW
