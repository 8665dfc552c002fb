/-
  Package dec: Make.
-/
import Derived.Test.YgcoaaGreatDecB
set_option linter.unusedVariables false
set_option linter.unusedSimpArgs false
namespace Go.Proofs.YgcoaaGreat.NatW
attribute [local go_sem] Go.Instr.field Go.asAgg
open Go.RowKit

/-- What Make's loop knows: the span from the first to behind the last digit that is not zero. -/
def Span (d : ByteArray) (i first fin : Nat) : Prop :=
  (∀ j, j < i → 48 ≤ byt d j ∧ byt d j ≤ 57) ∧ ((first = d.size ∧ fin = 0) ∨ (first < fin ∧ fin ≤ i ∧ byt d first ≠ 48 ∧ byt d (fin - 1) ≠ 48))

theorem Span.zero {d : ByteArray} {i a b : Nat} (h : Span d i a b) (h1 : byt d i = 48) : Span d (i + 1) a b := by
  refine ⟨fun j hj => ?_, ?_⟩
  · by_cases e : j < i
    · exact h.1 j e
    · have : j = i := by omega
      subst this; omega
  · rcases h.2 with h | ⟨h2, h3, h4, h5⟩
    · exact .inl h
    · exact .inr ⟨h2, by omega, h4, h5⟩
theorem Span.step {d : ByteArray} {i a b : Nat} (h : Span d i a b) (hi : i < d.size) (h0 : 48 ≤ byt d i) (h9 : byt d i ≤ 57) (h1 : byt d i ≠ 48) : Span d (i + 1) (min a i) (i + 1) := by
  refine ⟨fun j hj => ?_, ?_⟩
  · by_cases e : j < i
    · exact h.1 j e
    · have : j = i := by omega
      subst this; omega
  · refine .inr ⟨by omega, by omega, ?_, by simpa using h1⟩
    rcases h.2 with ⟨h2, h3⟩ | ⟨h2, h3, h4, h5⟩
    · rw [Nat.min_eq_right (by omega)]; exact h1
    · rw [Nat.min_eq_left (by omega)]; exact h4

theorem byt_extract (d : ByteArray) (a b j : Nat) (hb : b ≤ d.size) (hj : a + j < b) : byt (d.extract a b) j = byt d (a + j) := by
  unfold byt
  congr 2
  rw [Array.getD_eq_getD_getElem?, Array.getD_eq_getD_getElem?]
  congr 1
  have : (d.extract a b).data = d.data.extract a b := by simp
  rw [this, Array.getElem?_extract]
  have hs : d.data.size = d.size := rfl
  rw [if_pos (by omega)]
theorem Span.canon {d : ByteArray} {a b : Nat} {e : Int} (h : Span d d.size a b) (hb0 : ¬ b = 0) (hbd : b ≤ d.size) (h8 : (b : Int) - a ≤ 800) (h1 : -2000 ≤ e) (h2 : e ≤ 2000) : Canon (d.extract a b) e := by
  rcases h.2 with h' | ⟨hab, _, k1, k2⟩
  · omega
  have hz : (d.extract a b).size = b - a := by rw [ByteArray.size_extract]; omega
  refine .inr ⟨by omega, by omega, fun i hi => ?_, ?_, ?_, h1, h2⟩
  · rw [byt_extract d a b i hbd (by omega)]; exact h.1 _ (by omega)
  · rw [byt_extract d a b 0 hbd (by omega)]; exact k1
  · rw [hz, byt_extract d a b _ hbd (by omega), show a + (b - a - 1) = b - 1 by omega]; exact k2

set_option maxRecDepth 20000 in
set_option maxHeartbeats 1000000 in
theorem make_ret (n : Bool) (d : ByteArray) (e : Int) (h1 : -1000000000 ≤ e) (h2 : e ≤ 1000000000) (hd : d.size ≤ 1000000) : Ret 35 #[.bool n, .string d, .int .i64 e] (fun v => ∃ n' d' e' ok, v = .tuple #[.agg #[.bool n', .string d', .int .i16 e'], .bool ok] ∧ Canon d' e') := by
  intro w K hK
  have HK := hide hK
  have hw : ∀ o, Below w.heap.size w (w.alloc o) := (Below.refl _ _).alloc (Nat.le_refl _)
  have HW := hide hw
  clear hw hK
  go_enter Oaag.func35, Oaag.ntmps35
  go_wp2_with fail
  go_loop [8, 9, 10] (fun a b t => ∃ i first fin : Nat, a = .int .i64 first ∧ b = .int .i64 fin ∧ t = .int .i64 i ∧ i ≤ d.size ∧ Hid (Span d i first fin) ∧ first ≤ d.size ∧ fin ≤ i) (fun a b t => d.size - (intOf t).toNat)
  case atStart => exact ⟨0, d.size, 0, rfl, rfl, rfl, by omega, hide ⟨fun j hj => by omega, .inl ⟨rfl, rfl⟩⟩, by omega, by omega⟩
  case round =>
    obtain ⟨i, a, b, rfl, rfl, rfl, hi, HS, hf, hb⟩ := hrel
    by_cases hl : i < d.size
    · have hix := index_str d i i rfl hl
      have hb' := byt_lt d i
      go_wp2_with fail
      all_goals first
        | (refine bodyPost_box rfl ?_; intro r hr; simp [results, Oaag.results35, go_sem] at hr; subst hr; refine ⟨_, rfl, ?_⟩
           exact unhide HK _ _ ⟨_, _, _, _, rfl, .inl ⟨rfl, rfl⟩⟩ (unhide HW _))
        | (refine ⟨⟨i + 1, a, b, rfl, rfl, by simp, by omega, hide ((unhide HS).zero (by rename_i hz; simpa using hz)), by omega, by omega⟩, by simp [intOf]; omega⟩)
        | (refine ⟨⟨i + 1, min a i, i + 1, by simp; omega, by simp, by simp, by omega, hide ((unhide HS).step hl (by omega) (by omega) (by rename_i hz; simpa using hz)), by omega, by omega⟩, by simp [intOf]; omega⟩)
    · have hi' : i = d.size := by omega
      subst hi'
      by_cases hb0 : b = 0
      · subst hb0
        go_wp2_with fail
        refine bodyPost_box rfl ?_; intro r hr; simp [results, Oaag.results35, go_sem] at hr; subst hr; refine ⟨_, rfl, ?_⟩
        exact unhide HK _ _ ⟨_, _, _, _, rfl, .inl ⟨rfl, rfl⟩⟩ (unhide HW _)
      · have hab : a < b := by rcases (unhide HS).2 with h | h <;> omega
        have e0 : ((b : Int) == 0) = false := by simp; omega
        go_wp2_with fail
        all_goals first
          | (refine bodyPost_box rfl ?_; intro r hr; simp [results, Oaag.results35, go_sem] at hr; subst hr; refine ⟨_, rfl, ?_⟩
             exact unhide HK _ _ ⟨_, _, _, _, rfl, .inl ⟨rfl, rfl⟩⟩ (unhide HW _))
          | (refine bodyPost_box rfl ?_; intro r hr; simp [results, Oaag.results35, go_sem] at hr; subst hr; refine ⟨_, rfl, ?_⟩
             refine unhide HK _ _ ⟨_, _, _, _, rfl, ?_⟩ (unhide HW _)
             exact (unhide HS).canon hb0 (by omega) (by omega) (by omega) (by omega))

end Go.Proofs.YgcoaaGreat.NatW
