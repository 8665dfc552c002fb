/-
  Package bound: toU64.
-/
import Derived.Test.YgcoaaGreatNatP
import Derived.Test.YgcoaaGreatExF
import Derived.Test.YgcoaaGreatDivMod
import Derived.BigQuiet
set_option linter.unusedVariables false
set_option linter.unusedSimpArgs false
namespace Go.Proofs.YgcoaaGreat.NatW
attribute [local go_sem] Go.Instr.field Go.asAgg
open Go.RowKit
open Go.Proofs.YgcoaaGreat.Limbs Go.Proofs.YgcoaaGreat.Bits

theorem list2 {l : List Nat} (h : l.length = 2) : ∃ a b, l = [a, b] := by
  match l, h with
  | [a, b], _ => exact ⟨a, b, rfl⟩
theorem or_join' (X1 X0 : Nat) (h1 : X1 < 4294967296) (h0 : X0 < 4294967296) : bits .or .u64 ((X1 : Int) * 4294967296) (X0 : Int) = ((X1 * 4294967296 + X0 : Nat) : Int) := by
  have e : ((X1 : Int) * 4294967296) = ((X1 * 4294967296 : Nat) : Int) := by omega
  rw [e, u64_or_nat _ _ (by omega) (by omega)]
  have := Nat.two_pow_add_eq_or_of_lt (i := 32) (b := X0) (by simpa using h0) X1
  have e2 : (2 : Nat) ^ 32 * X1 = X1 * 4294967296 := by rw [Nat.mul_comm]
  rw [e2] at this
  rw [this]

set_option maxRecDepth 20000 in
set_option maxHeartbeats 2000000 in
theorem toU64b (w : World) {B : Nat} {a : Option Addr} {cap n : Nat} (h : Res B w a cap n) (hl : (lim n).length ≤ 1000000) :
    Calls Oaag.prog 216 #[.slice a (lim n).length cap] w fun e w' => ∃ r : Nat, e = .returned (.int .u64 (r : Int)) ∧ r ≤ n ∧ r < 18446744073709551616 ∧ Below w.heap.size w w' := by
  have hbl := bitLen_any w a cap (lim n) n (val_lim n) h.sl (by omega)
  have hs := h.sl
  have hlt := bl_lt n
  obtain ⟨b, hb⟩ : ∃ b, b = bl n := ⟨_, rfl⟩
  rw [← hb] at hbl hlt
  have HB := hide hbl
  clear hbl
  by_cases h64 : 64 < b
  · have hn : 18446744073709551615 ≤ n := by
      have h0 : n ≠ 0 := by intro h0; subst h0; simp [bl] at hb; omega
      have h1 := bl_ge n h0
      rw [← hb] at h1
      have h2 : 2 ^ 64 ≤ 2 ^ (b - 1) := Nat.pow_le_pow_right (by decide) (by omega)
      have h3 : (2 : Nat) ^ 64 = 18446744073709551616 := by decide
      omega
    clear hlt hs hb
    go_enter Oaag.func216, Oaag.ntmps216
    go_wp2_with fail
    refine (unhide HB).mono ?_
    rintro e w1 ⟨rfl, rfl⟩
    go_wp2_with fail
    go_ret
    exact ⟨18446744073709551615, rfl, hn, by decide, Below.refl _ _⟩
  have hn64 : n < 18446744073709551616 := by
    have h2 : 2 ^ b ≤ 2 ^ 64 := Nat.pow_le_pow_right (by decide) (by omega)
    have h3 : (2 : Nat) ^ 64 = 18446744073709551616 := by decide
    omega
  have hl2 := len_small n hn64
  have hv := val_lim n
  by_cases h32 : 32 < b
  · have hl1 : 1 < (lim n).length := by
      rcases Nat.lt_or_ge 1 (lim n).length with h' | h'
      · exact h'
      · exfalso
        have h1 := lt_of_lim_length n
        have h2 : 4294967296 ^ (lim n).length ≤ 4294967296 ^ 1 := Nat.pow_le_pow_right (by decide) h'
        have h3 := bl_le n 32 (by have e : (2 : Nat) ^ 32 = 4294967296 := by decide
                                  omega)
        omega
    have h2 : (lim n).length = 2 := by omega
    obtain ⟨X0, X1, he⟩ := list2 h2
    have hX := Lt_lim n
    rw [he] at hX hv hs
    have p0 : X0 < 4294967296 := hX X0 (by simp)
    have p1 : X1 < 4294967296 := hX X1 (by simp)
    have hval : n = X1 * 4294967296 + X0 := by simp [val] at hv; omega
    obtain ⟨bb, off, rfl, hc⟩ := hs.row (by simp)
    have c1 := hc 1 (by simp)
    have c0 := hc 0 (by simp)
    simp only [List.getD_cons_zero, List.getD_cons_succ, Nat.add_zero] at c0 c1
    have hor := or_join' X1 X0 p1 p0
    have hsh : IntKind.u64.wrap ((X1 : Int) * 4294967296) = (X1 : Int) * 4294967296 := by rw [IntKind.wrap_u64]; omega
    rw [h2] at HB ⊢
    clear hc hs hX hv he hlt hb h hl hl1 hl2
    go_enter Oaag.func216, Oaag.ntmps216
    go_wp2_with fail
    refine (unhide HB).mono ?_
    rintro e w1 ⟨rfl, rfl⟩
    go_wp2_with fail
    refine (unhide HB).mono ?_
    rintro e w1 ⟨rfl, rfl⟩
    go_wp2_with fail
    go_quiet (fail)
    go_wp2_with fail
    go_ret
    refine ⟨X1 * 4294967296 + X0, ?_, by omega, by omega, below_drewN (Below.refl _ _) _⟩
    first | rfl | simp | skip
  · by_cases h0 : 0 < b
    · have hn0 : n ≠ 0 := by intro h0'; subst h0'; simp [bl] at hb; omega
      have hn32 : n < 4294967296 := by
        have h2 : 2 ^ b ≤ 2 ^ 32 := Nat.pow_le_pow_right (by decide) (by omega)
        have h3 : (2 : Nat) ^ 32 = 4294967296 := by decide
        omega
      have hl1 : (lim n).length ≤ 1 := lim_length_le n 1 (by simpa using hn32)
      have hl0 := (lim_length_pos n).2 hn0
      have h2 : (lim n).length = 1 := by omega
      obtain ⟨X0, he⟩ := List.length_eq_one_iff.1 h2
      have hX := Lt_lim n
      rw [he] at hX hv hs
      have p0 : X0 < 4294967296 := hX X0 (by simp)
      have hval : n = X0 := by simp [val] at hv; omega
      obtain ⟨bb, off, rfl, hc⟩ := hs.row (by simp)
      have c0 := hc 0 (by simp)
      simp only [List.getD_cons_zero, Nat.add_zero] at c0
      rw [h2] at HB ⊢
      clear hc hs hX hv he hlt hb h hl hl0 hl1 hl2
      go_enter Oaag.func216, Oaag.ntmps216
      go_wp2_with fail
      refine (unhide HB).mono ?_
      rintro e w1 ⟨rfl, rfl⟩
      go_wp2_with fail
      refine (unhide HB).mono ?_
      rintro e w1 ⟨rfl, rfl⟩
      go_wp2_with fail
      refine (unhide HB).mono ?_
      rintro e w1 ⟨rfl, rfl⟩
      go_wp2_with fail
      go_ret
      exact ⟨X0, rfl, by omega, by omega, Below.refl _ _⟩
    · clear hs hv hlt hb h hl hl2
      go_enter Oaag.func216, Oaag.ntmps216
      go_wp2_with fail
      refine (unhide HB).mono ?_
      rintro e w1 ⟨rfl, rfl⟩
      go_wp2_with fail
      refine (unhide HB).mono ?_
      rintro e w1 ⟨rfl, rfl⟩
      go_wp2_with fail
      refine (unhide HB).mono ?_
      rintro e w1 ⟨rfl, rfl⟩
      go_wp2_with fail
      go_ret
      exact ⟨0, rfl, by omega, by decide, Below.refl _ _⟩
end Go.Proofs.YgcoaaGreat.NatW
