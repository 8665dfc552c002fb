/-
  Package slow: bits, less.
-/
import Derived.Test.YgcoaaGreatSlA
set_option linter.unusedVariables false
set_option linter.unusedSimpArgs false
set_option maxRecDepth 20000
namespace Go.Proofs.YgcoaaGreat.NatW
open Go.RowKit
open Go.Proofs.YgcoaaGreat.Det
attribute [local go_sem] Go.Instr.field Go.asAgg

theorem drew_below (w : World) : Below w.heap.size w w.drew := ⟨rfl, rfl, rfl, Nat.le_refl _, fun _ _ => rfl⟩

def BoolR (v : Value) : Prop := ∃ q : Bool, v = .bool q
/-- The bit length, as the top limb has it. -/
def BitR (n : Nat) (c : Nat → Nat) (B : Int) : Prop := (n = 0 → B = 0) ∧ (1 ≤ n → ∃ k : Int, 0 ≤ k ∧ k ≤ 64 ∧ B = 64 * n - k ∧ (c (n - 1) ≠ 0 → k ≤ 63 ∧ 9223372036854775808 ≤ (c (n - 1) : Int) * 2 ^ k.toNat ∧ (c (n - 1) : Int) * 2 ^ k.toNat < 18446744073709551616))

set_option maxHeartbeats 4000000 in
theorem bits_x355 (w : World) (b n : Nat) (c : Nat → Nat) (hX : BigX b n c w) (ht : w.tape = fun _ _ => 0) :
    Calls Oaag.prog 355 #[.pointer (some ⟨b, 0, none⟩)] w (fun z w' => ∃ B : Int, z = .returned (.int .i64 B) ∧ Below w.heap.size w w' ∧ BitR n c B) := by
  have kn := hX.cn
  have n52 := hX.n52
  rcases Nat.eq_zero_or_pos n with h0 | h0
  · subst h0
    go_enter Oaag.func355, Oaag.ntmps355
    go_wp2_with fail
    all_goals
      go_ret
      exact ⟨0, rfl, Below.refl _ _, fun _ => rfl, fun h => by omega⟩
  · obtain ⟨m, rfl⟩ : ∃ m, n = m + 1 := ⟨n - 1, by omega⟩
    have kw := hX.cw m (by omega)
    have uw := hX.u m
    have hne : ¬ (((m + 1 : Nat) : Int) = 0) := by omega
    go_enter Oaag.func355, Oaag.ntmps355
    go_wp2_with (first
      | (with_reducible refine at_reg 3 ?_
         refine wp_region_zero_list ht (by kernel_rfl) ?_)
      | (with_reducible refine at_fn 194 ?_
         refine (clz_ret _ ⟨by omega, by omega⟩) _ _ ?_
         rintro _ w1 ⟨k, rfl, hk0, hk1, hk2⟩ hb
         have HB := hide (show Below w.heap.size w w1 from (drew_below w).trans hb)
         have H2 := hide hk2
         clear hb hk2)
      | fail)
    all_goals
      go_ret
      refine ⟨_, rfl, unhide HB, fun h => by omega, fun _ => ⟨k, hk0, hk1, ?_, fun h => ?_⟩⟩
      · first | rfl | (simp; done) | (simp; omega)
      · have h3 := unhide H2 (by simpa using h)
        simpa using h3

set_option maxHeartbeats 4000000 in
theorem less_run (w : World) (bx nx bY ny : Nat) (cx cy : Nat → Nat) (hX : BigX bx nx cx w) (hY : BigX bY ny cy w) (ht : w.tape = fun _ _ => 0) :
    Calls Oaag.prog 357 #[.pointer (some ⟨bx, 0, none⟩), .pointer (some ⟨bY, 0, none⟩)] w (fun z w' => ∃ v, z = .returned v ∧ BoolR v ∧ Below w.heap.size w w') := by
  have kn := hX.cn
  have km := hY.cn
  have n52 := hX.n52
  have m52 := hY.n52
  have HX := hide hX
  have HY := hide hY
  clear hX hY
  go_enter Oaag.func357, Oaag.ntmps357
  go_wp2_with (first
    | (with_reducible refine at_reg 1 ?_
       refine wp_region_zero_list ht (by kernel_rfl) ?_)
    | fail)
  all_goals
    go_loopw [5] (fun t5 wr => ∃ t : Int, t5 = .int .i64 t ∧ -1 ≤ t ∧ t ≤ 51 ∧ Below w.heap.size w wr) (fun t5 _ => (intOf t5 + 1).toNat)
    case atStart => exact ⟨_, rfl, by omega, by omega, drew_below w⟩
    case round =>
      obtain ⟨t, rfl, t0, t1, hb⟩ := hrel
      by_cases hneg : 0 ≤ t
      · obtain ⟨i, rfl⟩ := Int.eq_ofNat_of_zero_le hneg
        have hXr := (unhide HX).later hb
        have hYr := (unhide HY).later hb
        have kx := hXr.cw i (by omega)
        have ky := hYr.cw i (by omega)
        have htr := hb.tape.trans ht
        have HB := hide hb
        clear hb hXr hYr
        go_wp2_with (first
          | (with_reducible refine at_reg 4 ?_
             refine wp_region_zero_list htr (by kernel_rfl) ?_)
          | (with_reducible refine at_reg 5 ?_
             refine wp_region_zero_list htr (by kernel_rfl) ?_)
          | fail)
        all_goals first
          | exact ⟨⟨_, rfl, by omega, by omega, (unhide HB).trans ((drew_below wr).mono (unhide HB).size)⟩, by simp only [intOf]; omega⟩
          | (go_ret; exact ⟨_, rfl, ⟨_, rfl⟩, ((unhide HB).trans ((drew_below wr).mono (unhide HB).size)).trans ((drew_below wr.drew).mono (unhide HB).size)⟩)
          | fail
      · go_wp2_with fail
        go_ret
        exact ⟨_, rfl, ⟨_, rfl⟩, hb⟩
end Go.Proofs.YgcoaaGreat.NatW
