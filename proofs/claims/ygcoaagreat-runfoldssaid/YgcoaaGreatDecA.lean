/-
  Package dec: Itoa.
-/
import Derived.Test.YgcoaaGreatBank
set_option linter.unusedVariables false
set_option linter.unusedSimpArgs false
namespace Go.Proofs.YgcoaaGreat.NatW
attribute [local go_sem] Go.Instr.field Go.asAgg
open Go.RowKit

def p10 (a : Nat) : Int := 10 ^ a
theorem p10_succ (a : Nat) : p10 (a + 1) = 10 * p10 a := by unfold p10; rw [Int.pow_succ]; omega
theorem p10_19 : p10 19 = 10000000000000000000 := by decide
theorem p10_0 : p10 0 = 1 := rfl
theorem p10_le (a : Nat) (h : a ≤ 19) : p10 a ≤ 10000000000000000000 := by
  rw [← p10_19]
  unfold p10
  exact_mod_cast Nat.pow_le_pow_right (by omega : 0 < 10) h
theorem itoa_next (a : Nat) (U : Int) (h0 : 0 ≤ U) (h1 : U < p10 (a + 1)) (h2 : ¬ U / 10 = 0) : 1 ≤ a ∧ U / 10 < p10 a := by
  rw [p10_succ] at h1
  refine ⟨?_, by omega⟩
  rcases Nat.eq_zero_or_pos a with h | h
  · subst h; rw [p10_0] at h1; omega
  · exact h

theorem u119 : Oaag.prog.underlying 119 = some (.slice 5) := by kernel_rfl
theorem u9 : Oaag.prog.underlying 9 = some .string := by kernel_rfl
theorem u5 : Oaag.prog.underlying 5 = some (.int .u8) := by kernel_rfl

theorem ptr_add (b o n : Nat) : (⟨b, o, none⟩ : Addr).add n = ⟨b, o + n, none⟩ := by
  unfold Addr.add
  split
  · rename_i h; subst h; rfl
  · rfl

/-- buf[l:] of an array of n cells. -/
theorem slice_arr_l (t e n : Nat) (hu : Oaag.prog.underlying t = some (.array n e)) (hs : (Oaag.prog.info? e).map (·.size) = some 1) (b L : Nat) (l : Int) (hl : l = (L : Int)) (hL : L < n) (w : World) :
    (Instr.sliceAt t (.pointer (some ⟨b, 0, none⟩)) (some (.int .i64 l)) none none).run Oaag.prog w = .ok (.slice (some ⟨b, L, none⟩) (n - L) (n - L)) w := by
  have e1 : Oaag.prog.arrayLen t = n := by simp [Program.arrayLen, hu]
  have e2 : Oaag.prog.elem t = e := by simp [Program.elem, hu]
  have ht : Oaag.prog.underlying t = some (.array (Oaag.prog.arrayLen t) (Oaag.prog.elem t)) := by rw [e1, e2]; exact hu
  rw [run_sliceAt_array_l w t _ ht .i64 l (by omega) (by rw [e1]; omega), e1, e2]
  have hsz : (sizeOf e).run Oaag.prog w = .ok 1 w := by
    cases hi : Oaag.prog.info? e with
    | none => rw [hi] at hs; cases hs
    | some i => rw [hi] at hs; simp at hs; simp [sizeOf, typeInfo, hi, hs]
  subst hl
  rw [hsz]
  simp only [Result.andThen, slicedAt, Int.toNat_natCast, Nat.mul_one, ptr_add, Nat.zero_add]
  rw [if_neg (by omega)]

theorem u118 : Oaag.prog.underlying 118 = some (.array 20 5) := by kernel_rfl
theorem s5 : (Oaag.prog.info? 5).map (·.size) = some 1 := by kernel_rfl

/-- The state of Itoa's loop. -/
def ItoaR (w : World) (t u : Value) (wr : World) : Prop := ∃ (a : Nat) (U : Int), a + 1 ≤ 19 ∧ t = .int .i64 ((a : Int) + 2) ∧ u = .int .u64 U ∧ 0 ≤ U ∧ U < p10 (a + 1) ∧ (0 < U ∨ a = 18) ∧ Bank wr w.heap.size 0 20 .u8 (fun _ => True) ∧ Mine wr w.heap.size ∧ Below w.heap.size w wr

set_option maxRecDepth 20000 in
set_option maxHeartbeats 1000000 in
theorem itoa_ret (i : Int) (h1 : -9223372036854775808 ≤ i) (h2 : i ≤ 9223372036854775807) : Ret 36 #[.int .i64 i] (fun v => ∃ s : ByteArray, v = .string s ∧ s.size ≤ 20) := by
  refine Ret.mk fun w => ?_
  go_enter Oaag.func36, Oaag.ntmps36
  by_cases hi : i < 0
  · have e1 : IntKind.u64.wrap (-IntKind.u64.wrap i) = -i := by simp [IntKind.wrap, IntKind.bits, IntKind.signed]; omega
    go_wp2_with fail
    go_loopw [4, 5] (ItoaR w) (fun t u wr => (intOf t).toNat)
    case atStart => 
      refine ⟨18, -i, by omega, rfl, rfl, by omega, by rw [p10_19]; omega, .inr rfl, Bank.new w _ _ _ _ _ _ ?_, Mine.new w _ _, (Below.refl _ _).alloc (Nat.le_refl _) _⟩
      intro j hj
      exact ⟨0, by rw [Nat.zero_add]; rcases (show j = 0 ∨ j = 1 ∨ j = 2 ∨ j = 3 ∨ j = 4 ∨ j = 5 ∨ j = 6 ∨ j = 7 ∨ j = 8 ∨ j = 9 ∨ j = 10 ∨ j = 11 ∨ j = 12 ∨ j = 13 ∨ j = 14 ∨ j = 15 ∨ j = 16 ∨ j = 17 ∨ j = 18 ∨ j = 19 by omega) with h | h | h | h | h | h | h | h | h | h | h | h | h | h | h | h | h | h | h | h <;> subst h <;> rfl, trivial⟩
    case round =>
      obtain ⟨a, U, ha, rfl, rfl, hU0, hU1, hU2, hbk, hmn, hbw⟩ := hrel
      have hU3 : U ≤ 18446744073709551615 := by have := p10_le (a + 1) ha; omega
      obtain ⟨v, c, -⟩ := hbk.cell (a + 1) (by omega)
      have f := hmn.2 (a + 1)
      obtain ⟨v2, c2, -⟩ := (hbk.set (a + 1) (v := 48 + U % 10) trivial).cell a (by omega)
      have f2 := hmn.2 a
      have hsl := slice_arr_l 118 5 20 u118 s5 w.heap.size (a) ((a : Int) + 2 - 1 - 1) (by omega) (by omega)
      obtain ⟨s, hs, hcv⟩ := bytes_string ((wr.setCell ⟨w.heap.size, a + 1, none⟩ (.int .u8 (48 + U % 10))).setCell ⟨w.heap.size, a, none⟩ (.int .u8 45)) 119 9 5 u119 u5 u9 w.heap.size (a) (20 - a) (20 - a) (fun _ => True) (fun j hj => by
        have := ((hbk.set (a + 1) (v := 48 + U % 10) trivial).set a (v := 45) trivial) (a + j) (by omega)
        rwa [Nat.zero_add] at this)
      have H1 := hide hU1
      have HB := hide hbk
      have HM := hide hmn
      clear hU1 hbk hmn
      go_wp2_with fail
      · go_ret
        exact ⟨⟨_, rfl, _, rfl, by omega⟩, below_store (below_store hbw (Nat.le_refl _) _) (Nat.le_refl _) _⟩
      · rename_i hz
        obtain ⟨n1, n2⟩ := itoa_next a U hU0 (unhide H1) (by simpa using hz)
        refine ⟨⟨a - 1, U / 10, by omega, ?_, rfl, by omega, ?_, .inl ?_, (unhide HB).set _ trivial, (unhide HM).set _ _, below_store hbw (Nat.le_refl _) _⟩, ?_⟩
        · congr 1; omega
        · rw [show a - 1 + 1 = a by omega]; exact n2
        · have : ¬ U / 10 = 0 := by simpa using hz
          omega
        · simp [intOf]; omega
  · go_wp2_with fail
    go_loopw [4, 5] (ItoaR w) (fun t u wr => (intOf t).toNat)
    case atStart => 
      refine ⟨18, i, by omega, rfl, rfl, by omega, by rw [p10_19]; omega, .inr rfl, Bank.new w _ _ _ _ _ _ ?_, Mine.new w _ _, (Below.refl _ _).alloc (Nat.le_refl _) _⟩
      intro j hj
      exact ⟨0, by rw [Nat.zero_add]; rcases (show j = 0 ∨ j = 1 ∨ j = 2 ∨ j = 3 ∨ j = 4 ∨ j = 5 ∨ j = 6 ∨ j = 7 ∨ j = 8 ∨ j = 9 ∨ j = 10 ∨ j = 11 ∨ j = 12 ∨ j = 13 ∨ j = 14 ∨ j = 15 ∨ j = 16 ∨ j = 17 ∨ j = 18 ∨ j = 19 by omega) with h | h | h | h | h | h | h | h | h | h | h | h | h | h | h | h | h | h | h | h <;> subst h <;> rfl, trivial⟩
    case round =>
      obtain ⟨a, U, ha, rfl, rfl, hU0, hU1, hU2, hbk, hmn, hbw⟩ := hrel
      have hU3 : U ≤ 18446744073709551615 := by have := p10_le (a + 1) ha; omega
      obtain ⟨v, c, -⟩ := hbk.cell (a + 1) (by omega)
      have f := hmn.2 (a + 1)
      have hsl := slice_arr_l 118 5 20 u118 s5 w.heap.size (a + 1) ((a : Int) + 2 - 1) (by omega) (by omega)
      obtain ⟨s, hs, hcv⟩ := bytes_string (wr.setCell ⟨w.heap.size, a + 1, none⟩ (.int .u8 (48 + U % 10))) 119 9 5 u119 u5 u9 w.heap.size (a + 1) (19 - a) (19 - a) (fun _ => True) (fun j hj => by
        have := (hbk.set (a + 1) (v := 48 + U % 10) trivial) (a + 1 + j) (by omega)
        rwa [Nat.zero_add] at this)
      have H1 := hide hU1
      have HB := hide hbk
      have HM := hide hmn
      clear hU1 hbk hmn
      go_wp2_with fail
      · go_ret
        exact ⟨⟨_, rfl, _, rfl, by omega⟩, below_store hbw (Nat.le_refl _) _⟩
      · rename_i hz
        obtain ⟨n1, n2⟩ := itoa_next a U hU0 (unhide H1) (by simpa using hz)
        refine ⟨⟨a - 1, U / 10, by omega, ?_, rfl, by omega, ?_, .inl ?_, (unhide HB).set _ trivial, (unhide HM).set _ _, below_store hbw (Nat.le_refl _) _⟩, ?_⟩
        · congr 1; omega
        · rw [show a - 1 + 1 = a by omega]; exact n2
        · have : ¬ U / 10 = 0 := by simpa using hz
          omega
        · simp [intOf]; omega

end Go.Proofs.YgcoaaGreat.NatW
