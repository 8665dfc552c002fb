/-
  Package dec: Ok.
-/
import Derived.Test.YgcoaaGreatDecA
set_option linter.unusedVariables false
set_option linter.unusedSimpArgs false
namespace Go.Proofs.YgcoaaGreat.NatW
attribute [local go_sem] Go.Instr.field Go.asAgg
open Go.RowKit

/-- A string's byte. -/
def byt (s : ByteArray) (i : Nat) : Int := (s.data.getD i 0).toNat
theorem byt_lt (s : ByteArray) (i : Nat) : 0 ≤ byt s i ∧ byt s i ≤ 255 := by
  unfold byt
  have := (s.data.getD i 0).toNat_lt
  omega
theorem byt_at (s : ByteArray) (i : Nat) (h : i < s.size) : ((s[i]'h).toNat : Int) = byt s i := by
  have h' : i < s.data.size := h
  unfold byt
  rw [Array.getD_eq_getD_getElem?, Array.getElem?_eq_getElem h']
  rfl
theorem index_str (s : ByteArray) (i : Nat) (j : Int) (hj : j = (i : Int)) (h : i < s.size) (w : World) : (Instr.index 9 (.string s) (.int .i64 j)).run Oaag.prog w = .ok (.int .u8 (byt s i)) w := by
  subst hj
  rw [run_index_string w 9 s .i64 i u9, dif_pos ⟨by omega, by omega⟩]
  congr 2
  exact byt_at s i h

/-- A decimal is canonical. -/
def Canon (d : ByteArray) (e : Int) : Prop := (d.size = 0 ∧ e = 0) ∨ (0 < d.size ∧ d.size ≤ 800 ∧ (∀ i, i < d.size → 48 ≤ byt d i ∧ byt d i ≤ 57) ∧ byt d 0 ≠ 48 ∧ byt d (d.size - 1) ≠ 48 ∧ -2000 ≤ e ∧ e ≤ 2000)

theorem canon0 {d : ByteArray} {e : Int} (h : d.size = 0) : Canon d e ↔ e = 0 := by
  unfold Canon; omega
theorem canonBig {d : ByteArray} {e : Int} (h : ¬ d.size ≤ 800) : ¬ Canon d e := by
  unfold Canon; omega
theorem canonBad {d : ByteArray} {e : Int} (i : Nat) (h : i < d.size) (hb : byt d i < 48 ∨ 57 < byt d i) : ¬ Canon d e := by
  rintro (⟨h0, _⟩ | ⟨_, _, ha, _⟩)
  · omega
  · have := ha i h; omega
theorem canonIff {d : ByteArray} {e : Int} (h0 : ¬ d.size = 0) (h8 : d.size ≤ 800) (ha : ∀ j, j < d.size → 48 ≤ byt d j ∧ byt d j ≤ 57) : Canon d e ↔ (byt d 0 ≠ 48 ∧ byt d (d.size - 1) ≠ 48 ∧ -2000 ≤ e ∧ e ≤ 2000) := by
  constructor
  · rintro (⟨h, _⟩ | ⟨_, _, _, h1, h2, h3, h4⟩)
    · exact absurd h h0
    · exact ⟨h1, h2, h3, h4⟩
  · rintro ⟨h1, h2, h3, h4⟩
    exact .inr ⟨by omega, h8, ha, h1, h2, h3, h4⟩

set_option maxRecDepth 20000 in
set_option maxHeartbeats 1000000 in
theorem decOk_ret (n : Bool) (d : ByteArray) (e : Int) (h1 : -32768 ≤ e) (h2 : e ≤ 32767) (hd : d.size ≤ 1000000) : Ret 39 #[.agg #[.bool n, .string d, .int .i16 e]] (fun v => ∃ b, v = .bool b ∧ (b = true ↔ Canon d e)) := by
  intro w K hK
  have HK := hide hK
  have hw : Below w.heap.size w (w.alloc (Obj.cells #[Value.bool n, Value.string d, Value.int IntKind.i16 e] 74)) := (Below.refl _ _).alloc (Nat.le_refl _) _
  have HW := hide hw
  clear hw hK
  go_enter Oaag.func39, Oaag.ntmps39
  by_cases h0 : d.size = 0
  · have e0 : ((d.size : Int) == 0) = true := by simp [h0]
    go_wp2_with fail
    refine unhide HK _ _ ⟨_, rfl, ?_⟩ (unhide HW)
    rw [canon0 h0]; simp
  by_cases h8 : ¬ d.size ≤ 800
  · go_wp2_with fail
    refine unhide HK _ _ ⟨_, rfl, ?_⟩ (unhide HW)
    simp [canonBig h8]
  replace h8 : d.size ≤ 800 := by omega
  go_wp2_with fail
  go_loop [4] (fun t => ∃ i : Nat, t = .int .i64 i ∧ i ≤ d.size ∧ Hid (∀ j, j < i → 48 ≤ byt d j ∧ byt d j ≤ 57)) (fun t => d.size - (intOf t).toNat)
  case atStart => exact ⟨0, rfl, by omega, hide (fun j hj => by omega)⟩
  case round =>
    obtain ⟨i, rfl, hi, HA⟩ := hrel
    by_cases hl : i < d.size
    · have hix := index_str d i i rfl hl
      have hb := byt_lt d i
      by_cases hdg : 48 ≤ byt d i ∧ byt d i ≤ 57
      · go_wp2_with fail
        refine ⟨⟨i + 1, by simp, by omega, hide (fun j hj => ?_)⟩, by simp [intOf]; omega⟩
        by_cases hji : j < i
        · exact unhide HA j hji
        · have : j = i := by omega
          subst this; omega
      · have HD := hide hdg
        clear hdg
        go_wp2_with fail
        all_goals first
          | refine unhide HK _ _ ⟨_, rfl, ?_⟩ (unhide HW)
            simp
            exact canonBad i hl (by omega)
          | exact absurd (by omega) (unhide HD)
    · have hi' : i = d.size := by omega
      subst hi'
      have hix := index_str d 0 0 rfl (by omega)
      have hix2 := index_str d (d.size - 1) ((d.size : Int) - 1) (by omega) (by omega)
      have hb0 := byt_lt d 0
      have hb := byt_lt d (d.size - 1)
      have hc : Canon d e ↔ _ := canonIff h0 h8 (unhide HA)
      have HC := hide hc
      clear hc
      go_wp2_with fail
      all_goals
        refine unhide HK _ _ ⟨_, rfl, ?_⟩ (unhide HW)
        rw [unhide HC]
        simp_all
        try omega

end Go.Proofs.YgcoaaGreat.NatW
