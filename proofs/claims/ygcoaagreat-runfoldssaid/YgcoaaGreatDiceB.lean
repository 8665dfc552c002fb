/-
  Package law: dice.format.
-/
import Derived.Test.YgcoaaGreatDice
import Derived.Test.YgcoaaGreatFmts
set_option linter.unusedVariables false
set_option linter.unusedSimpArgs false
namespace Go.Proofs.YgcoaaGreat.NatW
attribute [local go_sem] Go.Instr.field Go.asAgg
open Go.RowKit
open Go.Proofs.YgcoaaGreat.Limbs Go.Proofs.YgcoaaGreat.Bits

/-- The same store on both sides. -/
theorem Below.both {N : Nat} {w W : World} (h : Below N w W) (a : Addr) (v : Value) : Below N (w.setCell a v) (W.setCell a v) := by
  obtain ⟨h1, h2, h3, h4, h5⟩ := h
  refine ⟨h1, h2, h3, by simpa [World.setCell] using h4, fun k hk => ?_⟩
  simp only [World.setCell, Array.getElem?_modify]
  rw [h5 k hk]

set_option maxRecDepth 20000 in
set_option maxHeartbeats 4000000 in
theorem format_any (w : World) (b : Nat) (x : Int) (t : TypeId) (hr : w.heap[b]? = some (.cells #[.int .u64 x] t (0, 0))) :
    Calls Oaag.prog 34 #[.pointer (some ⟨b, 0, none⟩)] w fun e w' => ∃ (E M : Nat) (x' : Int), e = .returned (fmt E M) ∧ fok E M = true ∧ U64 x' ∧ Below w.heap.size (w.setCell ⟨b, 0, none⟩ (.int .u64 x')) w' := by
  have hbl : b < w.heap.size := (Array.getElem?_eq_some_iff.1 hr).1
  obtain ⟨wb, x0, hwb, r0, hB, hZ⟩ := boxes1 w #[.int .u8 0, .int .u8 0] 23
  have c00 : ∀ x : Later wb, _ = some (.int .u8 0 : Value) := Later.cell r0 0 _ rfl
  have f00 := Later.frz r0 0
  have c01 : ∀ x : Later wb, _ = some (.int .u8 0 : Value) := Later.cell r0 1 _ rfl
  have f01 := Later.frz r0 1
  have R0 := hide r0
  clear r0
  have hne : Nonempty (Later wb) := ⟨x0⟩
  have HR := hide hr
  clear hr
  go_enter Oaag.func34, Oaag.ntmps34
  go_wp2_with (first
    | (with_reducible refine Go.Proofs.YgcoaaGreat.NatW.at_later 71 ?_; refine Go.Proofs.YgcoaaGreat.NatW.Ret.run fmt71_ret _ ?_; rintro _ y__ rfl)
    | (with_reducible refine Go.Proofs.YgcoaaGreat.NatW.at_later 72 ?_; refine Go.Proofs.YgcoaaGreat.NatW.Ret.run fmt72_ret _ ?_; rintro _ y__ rfl)
    | (with_reducible refine Go.Proofs.YgcoaaGreat.NatW.at_later 73 ?_; refine Go.Proofs.YgcoaaGreat.NatW.Ret.run fmt73_ret _ ?_; rintro _ y__ rfl)
    | (with_reducible refine Go.Proofs.YgcoaaGreat.NatW.at_later 74 ?_; refine Go.Proofs.YgcoaaGreat.NatW.Ret.run fmt74_ret _ ?_; rintro _ y__ rfl)
    | (with_reducible refine Go.Proofs.YgcoaaGreat.NatW.at_later 75 ?_; refine Go.Proofs.YgcoaaGreat.NatW.Ret.run fmt75_ret _ ?_; rintro _ y__ rfl)
    | (with_reducible refine Go.Proofs.YgcoaaGreat.NatW.at_later 76 ?_; refine Ret.run fmt76_ret _ ?_; rintro _ y rfl))
  ((first | with_reducible refine Go.Proofs.YgcoaaGreat.NatW.gen_calls ?_ | with_reducible refine Go.Proofs.YgcoaaGreat.NatW.gen_wp ?_ | with_reducible refine Go.Proofs.YgcoaaGreat.NatW.gen_list ?_ | with_reducible refine Go.Proofs.YgcoaaGreat.NatW.gen_body ?_); intro W hW)
  obtain ⟨nb, hnb⟩ : ∃ nb, y.at_.heap.size = nb := ⟨_, rfl⟩
  have hyz := hZ y
  rw [hnb]
  have hbW : Below w.heap.size w W := by rw [← hW]; exact (hB y).alloc (by omega) _
  have hrW : W.heap[b]? = some (.cells #[.int .u64 x] t (0, 0)) := by rw [hbW.block b hbl]; exact unhide HR
  have hr1 : W.heap[w.heap.size]? = some (.cells #[.int .u8 0, .int .u8 0] 23 (0, 0)) := by
    rw [← hW, Below.heap_alloc _ _ _ (by omega)]
    exact Later.row (unhide R0) y
  have hr2 := congrArg (fun z : World => z.heap[y.at_.heap.size]?) hW
  rw [heap_alloc_new, hnb] at hr2
  have HBW := hide hbW
  have HRW := hide hrW
  have k0 : W.cell? ⟨w.heap.size, 0, none⟩ = some (.int .u8 0) := by rw [cell_of_row _ _ _ _ _ _ hr1]; rfl
  have k1 : W.cell? ⟨w.heap.size, 1, none⟩ = some (.int .u8 0) := by rw [cell_of_row _ _ _ _ _ _ hr1]; rfl
  have fr0 := frozen_of_row W w.heap.size 0 _ _ hr1
  have fr1 := frozen_of_row W w.heap.size 1 _ _ hr1
  have n0 : W.cell? ⟨nb, 0, none⟩ = some (.int .u8 5) := by rw [cell_of_row _ _ _ _ _ _ hr2.symm]; rfl
  have n1 : W.cell? ⟨nb, 1, none⟩ = some (.int .u8 10) := by rw [cell_of_row _ _ _ _ _ _ hr2.symm]; rfl
  have n2 : W.cell? ⟨nb, 2, none⟩ = some (.int .u8 8) := by rw [cell_of_row _ _ _ _ _ _ hr2.symm]; rfl
  have n3 : W.cell? ⟨nb, 3, none⟩ = some (.int .u8 7) := by rw [cell_of_row _ _ _ _ _ _ hr2.symm]; rfl
  have n4 : W.cell? ⟨nb, 4, none⟩ = some (.int .u8 8) := by rw [cell_of_row _ _ _ _ _ _ hr2.symm]; rfl
  have n5 : W.cell? ⟨nb, 5, none⟩ = some (.int .u8 23) := by rw [cell_of_row _ _ _ _ _ _ hr2.symm]; rfl
  have n6 : W.cell? ⟨nb, 6, none⟩ = some (.int .u8 11) := by rw [cell_of_row _ _ _ _ _ _ hr2.symm]; rfl
  have n7 : W.cell? ⟨nb, 7, none⟩ = some (.int .u8 52) := by rw [cell_of_row _ _ _ _ _ _ hr2.symm]; rfl
  have n8 : W.cell? ⟨nb, 8, none⟩ = some (.int .u8 4) := by rw [cell_of_row _ _ _ _ _ _ hr2.symm]; rfl
  have n9 : W.cell? ⟨nb, 9, none⟩ = some (.int .u8 3) := by rw [cell_of_row _ _ _ _ _ _ hr2.symm]; rfl
  have n10 : W.cell? ⟨nb, 10, none⟩ = some (.int .u8 5) := by rw [cell_of_row _ _ _ _ _ _ hr2.symm]; rfl
  have n11 : W.cell? ⟨nb, 11, none⟩ = some (.int .u8 2) := by rw [cell_of_row _ _ _ _ _ _ hr2.symm]; rfl
  have n12 : W.cell? ⟨nb, 12, none⟩ = some (.int .u8 2) := by rw [cell_of_row _ _ _ _ _ _ hr2.symm]; rfl
  have n13 : W.cell? ⟨nb, 13, none⟩ = some (.int .u8 2) := by rw [cell_of_row _ _ _ _ _ _ hr2.symm]; rfl
  have n14 : W.cell? ⟨nb, 14, none⟩ = some (.int .u8 11) := by rw [cell_of_row _ _ _ _ _ _ hr2.symm]; rfl
  have n15 : W.cell? ⟨nb, 15, none⟩ = some (.int .u8 2) := by rw [cell_of_row _ _ _ _ _ _ hr2.symm]; rfl
  have nn0 : b ≠ nb := by omega
  have nn1 : nb ≠ b := by omega
  have nn2 : b ≠ w.heap.size := by omega
  have nn3 : w.heap.size ≠ b := by omega
  have nn4 : nb ≠ w.heap.size := by omega
  have nn5 : w.heap.size ≠ nb := by omega
  clear hr1 hr2 hW hbW hrW c00 c01 f00 f01 hne hwb
  refine (below_any W b x 8 t (unhide HRW) (by omega) (by omega)).mono ?_
  rintro e w' ⟨r, x', rfl, r0, r1, ux, rfl⟩
  rcases (show r = 0 ∨ r = 1 ∨ r = 2 ∨ r = 3 ∨ r = 4 ∨ r = 5 ∨ r = 6 ∨ r = 7 by omega) with rfl | rfl | rfl | rfl | rfl | rfl | rfl | rfl
  all_goals go_wp2_with fail
  all_goals
    refine bodyPost_box rfl ?_
    intro r hr
    simp [results, Oaag.results34, go_sem, k0, k1, nn0, nn1, nn2, nn3, nn4, nn5] at hr
    subst hr
    refine ⟨_, rfl, ?_⟩
    have hb2 := fun u v => below_store (below_store (Below.both (unhide HBW) ⟨b, 0, none⟩ (.int .u64 x')) (g := w.heap.size) (i := 0) (Nat.le_refl _) u) (g := w.heap.size) (i := 1) (Nat.le_refl _) v
    first
      | exact ⟨5, 10, x', rfl, by decide, ux, hb2 _ _⟩
      | exact ⟨8, 7, x', rfl, by decide, ux, hb2 _ _⟩
      | exact ⟨8, 23, x', rfl, by decide, ux, hb2 _ _⟩
      | exact ⟨11, 52, x', rfl, by decide, ux, hb2 _ _⟩
      | exact ⟨4, 3, x', rfl, by decide, ux, hb2 _ _⟩
      | exact ⟨5, 2, x', rfl, by decide, ux, hb2 _ _⟩
      | exact ⟨2, 2, x', rfl, by decide, ux, hb2 _ _⟩
      | exact ⟨11, 2, x', rfl, by decide, ux, hb2 _ _⟩
      | skip

end Go.Proofs.YgcoaaGreat.NatW
