/-
  Package law: biteTable.
-/
import Derived.Test.YgcoaaGreatTaO
import Derived.Test.YgcoaaGreatNatO
import Derived.Test.YgcoaaGreatSoH
set_option linter.unusedVariables false
set_option linter.unusedSimpArgs false
namespace Go.Proofs.YgcoaaGreat.NatW
attribute [local go_sem] Go.Instr.field Go.asAgg
open Go.RowKit
open Go.Proofs.YgcoaaGreat.Limbs Go.Proofs.YgcoaaGreat.Bits

def upd (f : Nat → Int) (i : Nat) (v : Int) : Nat → Int := fun j => if j = i then v else f j
theorem upd_same (f : Nat → Int) (i : Nat) (v : Int) : upd f i v i = v := by simp [upd]
theorem upd_other (f : Nat → Int) (i j : Nat) (v : Int) (h : j ≠ i) : upd f i v j = f j := by simp [upd, h]
theorem TabV.hi {w : World} {g : Nat} {fh fl fe : Nat → Int} (h : TabV w g fh fl fe) (i : Nat) (hi : i < 696) (v : Int) : TabV (w.setCell ⟨g, i * 2, none⟩ (.int .u64 v)) g (upd fh i v) fl fe := by
  intro j hj
  obtain ⟨h1, h2, h3⟩ := h j hj
  refine ⟨?_, ?_, ?_⟩
  · rw [cell_set _ _ _ _ _ _ _ h1]
    by_cases e : j = i
    · subst e; simp [upd]
    · rw [if_neg (by omega), upd_other _ _ _ _ e]
  · rw [cell_set _ _ _ _ _ _ _ h2, if_neg (by omega)]
  · rw [cell_set _ _ _ _ _ _ _ h3, if_neg (by omega)]
theorem TabV.lo {w : World} {g : Nat} {fh fl fe : Nat → Int} (h : TabV w g fh fl fe) (i : Nat) (hi : i < 696) (v : Int) : TabV (w.setCell ⟨g, i * 2 + 1, none⟩ (.int .u64 v)) g fh (upd fl i v) fe := by
  intro j hj
  obtain ⟨h1, h2, h3⟩ := h j hj
  refine ⟨?_, ?_, ?_⟩
  · rw [cell_set _ _ _ _ _ _ _ h1, if_neg (by omega)]
  · rw [cell_set _ _ _ _ _ _ _ h2]
    by_cases e : j = i
    · subst e; simp [upd]
    · rw [if_neg (by omega), upd_other _ _ _ _ e]
  · rw [cell_set _ _ _ _ _ _ _ h3, if_neg (by omega)]
theorem TabV.ex {w : World} {g : Nat} {fh fl fe : Nat → Int} (h : TabV w g fh fl fe) (i : Nat) (hi : i < 696) (v : Int) : TabV (w.setCell ⟨g, 1392 + i, none⟩ (.int .i16 v)) g fh fl (upd fe i v) := by
  intro j hj
  obtain ⟨h1, h2, h3⟩ := h j hj
  refine ⟨?_, ?_, ?_⟩
  · rw [cell_set _ _ _ _ _ _ _ h1, if_neg (by omega)]
  · rw [cell_set _ _ _ _ _ _ _ h2, if_neg (by omega)]
  · rw [cell_set _ _ _ _ _ _ _ h3]
    by_cases e : j = i
    · subst e; simp [upd]
    · rw [if_neg (by omega), upd_other _ _ _ _ e]
def eh (i : Nat) : Int := (entHi ((i : Int) - 348) : Nat)
def el (i : Nat) : Int := (entLo ((i : Int) - 348) : Nat)
def ee (i : Nat) : Int := entE ((i : Int) - 348)
theorem Tab.v {w : World} {g : Nat} (h : Tab w g (fun _ => True)) : TabV w g eh el ee := fun i hi => h.entry i hi
theorem TabV.other {w : World} {g : Nat} {fh fl fe : Nat → Int} (h : TabV w g fh fl fe) {b i : Nat} (v : Value) (hb : b ≠ g) : TabV (w.setCell ⟨b, i, none⟩ v) g fh fl fe := by
  intro j hj
  obtain ⟨h1, h2, h3⟩ := h j hj
  exact ⟨by rw [cell_set _ _ _ _ _ _ _ h1, if_neg (by omega)], by rw [cell_set _ _ _ _ _ _ _ h2, if_neg (by omega)], by rw [cell_set _ _ _ _ _ _ _ h3, if_neg (by omega)]⟩
theorem ee_step (k : Nat) (h : k < 695) : ee k < ee (k + 1) := by
  have hall : ((List.range 695).all fun k => decide (ee k < ee (k + 1))) = true := by decide +kernel
  exact of_decide_eq_true (List.all_eq_true.1 hall k (List.mem_range.2 h))
theorem ee_lt (i j : Nat) (hij : i < j) (hj : j < 696) : ee i < ee j := by
  induction j with
  | zero => omega
  | succ j ih =>
    have h1 := ee_step j (by omega)
    by_cases e : i = j
    · subst e; exact h1
    · have := ih (by omega) (by omega); omega
theorem ent_rng (i : Nat) (hi : i < 696) : U64 (eh i) ∧ U64 (el i) ∧ -1300 ≤ ee i ∧ ee i ≤ 1100 ∧ 9223372036854775808 ≤ eh i ∧ ¬ (eh i = 18446744073709551615 ∧ el i = 18446744073709551615) := by
  obtain ⟨h1, h2, h3, h4, h5, h6⟩ := ent_words ((i : Int) - 348) (by omega) (by omega)
  unfold eh el ee
  refine ⟨⟨by omega, by omega⟩, ⟨by omega, by omega⟩, h5, h6, by omega, ?_⟩
  intro ⟨e1, e2⟩
  exact h4 ⟨by omega, by omega⟩

/-- The table whose one entry is another. -/
theorem ok_hurt (w : World) (g : Nat) (fh fl fe : Nat → Int) (h : TabV w g fh fl fe) (uh : ∀ i, i < 696 → U64 (fh i)) (ul : ∀ i, i < 696 → U64 (fl i)) (ue : ∀ i, i < 696 → -32768 ≤ fe i ∧ fe i ≤ 32767)
    (k : Nat) (hk : k < 696) (hne : ¬ (fh k = eh k ∧ fl k = el k ∧ fe k = ee k)) :
    Calls Oaag.prog 23 #[.pointer (some ⟨g, 0, none⟩)] w fun e w' => e = .returned (.bool false) ∧ Below w.heap.size w w' := ok_no w g fh fl fe h uh ul ue k hk hne
set_option maxRecDepth 20000 in
theorem ok_nil (w : World) : Calls Oaag.prog 23 #[.pointer none] w fun e w' => e = .returned (.bool false) ∧ Below w.heap.size w w' := by
  go_enter Oaag.func23, Oaag.ntmps23
  go_wp2_with fail
  go_ret
  exact ⟨rfl, Below.refl _ _⟩
end Go.Proofs.YgcoaaGreat.NatW
