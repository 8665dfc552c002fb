/-
  Package wide: Clz.
-/
import Derived.Test.YgcoaaGreatSoftA
set_option linter.unusedVariables false
set_option linter.unusedSimpArgs false
namespace Go.Proofs.YgcoaaGreat.NatW
attribute [local go_sem] Go.Instr.field Go.asAgg
open Go.RowKit
open Go.Proofs.YgcoaaGreat.Limbs Go.Proofs.YgcoaaGreat.Bits

def clzTab : ByteArray := ⟨#[63, 62, 15, 61, 6, 14, 35, 60, 2, 5, 13, 21, 25, 34, 46, 59, 1, 8, 4, 27, 10, 12, 20, 41, 18, 24, 30, 33, 39, 45, 51, 58, 0, 16, 7, 36, 3, 22, 26, 47, 9, 28, 11, 42, 19, 31, 40, 52, 17, 37, 23, 48, 29, 43, 32, 53, 38, 49, 44, 54, 50, 55, 56, 57]⟩
theorem clz_all : ∀ k : Fin 64, ∃ I : Fin 64, IntKind.u64.wrap (bits .xor .u64 (2 ^ (k.val + 1) - 1) ((2 ^ (k.val + 1) - 1) / 2) * 285870213051386505) / 288230376151711744 = ((I.val : Nat) : Int) ∧ clzTab[I.val]!.toNat = 63 - k.val := by decide +kernel
theorem clzTab_size : clzTab.size = 64 := by decide +kernel
theorem clz_at (k I : Nat) (hk : k ≤ 63) (h : I < clzTab.size) (ht : clzTab[I]!.toNat = 63 - k) : ((clzTab[I].toNat : Nat) : Int) = 63 - (k : Int) := by
  rw [getElem!_pos clzTab I h] at ht
  omega

set_option maxRecDepth 20000 in
set_option maxHeartbeats 1000000 in
theorem clz_nz (x k : Nat) (hk : k ≤ 63) (h1 : 2 ^ k ≤ x) (h2 : x < 2 ^ (k + 1)) : Ret 194 #[.int .u64 x] (fun v => v = .int .u8 (63 - k)) := by
  have hx : x < 2 ^ 64 := Nat.lt_of_lt_of_le h2 (Nat.pow_le_pow_right (by omega) (by omega))
  have hx0 : ((x : Int) == 0) = false := by
    have := Nat.one_le_two_pow (n := k)
    simp; omega
  have l1 := sm_lt x 64 1 hx
  have l2 := sm_lt _ 64 2 l1
  have l3 := sm_lt _ 64 4 l2
  have l4 := sm_lt _ 64 8 l3
  have l5 := sm_lt _ 64 16 l4
  have e1 := sm_int x 1 2 (by decide) hx
  have e2 := sm_int _ 2 4 (by decide) l1
  have e3 := sm_int _ 4 16 (by decide) l2
  have e4 := sm_int _ 8 256 (by decide) l3
  have e5 := sm_int _ 16 65536 (by decide) l4
  have e6 := sm_int _ 32 4294967296 (by decide) l5
  have e7 : sm (sm (sm (sm (sm (sm x 1) 2) 4) 8) 16) 32 = 2 ^ (k + 1) - 1 := smear_eq x k hk h1 h2
  rw [e7] at e6
  obtain ⟨y1, hy1⟩ : ∃ y, y = sm x 1 := ⟨_, rfl⟩
  rw [← hy1] at e1 e2 e3 e4 e5 e6
  obtain ⟨y2, hy2⟩ : ∃ y, y = sm y1 2 := ⟨_, rfl⟩
  rw [← hy2] at e2 e3 e4 e5 e6
  obtain ⟨y3, hy3⟩ : ∃ y, y = sm y2 4 := ⟨_, rfl⟩
  rw [← hy3] at e3 e4 e5 e6
  obtain ⟨y4, hy4⟩ : ∃ y, y = sm y3 8 := ⟨_, rfl⟩
  rw [← hy4] at e4 e5 e6
  obtain ⟨y5, hy5⟩ : ∃ y, y = sm y4 16 := ⟨_, rfl⟩
  rw [← hy5] at e5 e6
  obtain ⟨Y, hY⟩ : ∃ Y : Int, Y = ((2 ^ (k + 1) - 1 : Nat) : Int) := ⟨_, rfl⟩
  rw [← hY] at e6
  obtain ⟨⟨I, i1⟩, i2, hT⟩ := clz_all ⟨k, by omega⟩
  have HI := hide hT
  clear hT
  have h3 : (2 : Int) ^ (k + 1) - 1 = Y := by
    rw [hY]
    have := Nat.one_le_two_pow (n := k + 1)
    rw [Int.natCast_sub this]; simp
  simp only at i2
  rw [h3] at i2
  clear h3 hY hy1 hy2 hy3 hy4 hy5 l1 l2 l3 l4 l5 e7 h1 h2 hx
  intro w K hK
  have HK := hide hK
  clear hK
  obtain ⟨wb, x0, hwb, hB⟩ := boxes0 w
  subst hwb
  have hne : Nonempty (Later wb) := ⟨x0⟩
  go_enter Oaag.func194, Oaag.ntmps194
  go_wp2_with (refine Go.Lax.region_reads _ (by kernel_rfl) (by kernel_rfl) ?_; (repeat (first | go_big_quiet_skip | (go_big_quiet_want; go_big_quiet_op; go_big_quiet_on))); refine wpQuiet_nil ?_; intro y__)
  refine unhide HK _ _ ?_ (hB _)
  exact congrArg (Value.int .u8) (clz_at k I hk (by rw [clzTab_size]; exact i1) (unhide HI))

set_option maxRecDepth 20000 in
set_option maxHeartbeats 1000000 in
theorem clz_zero  : Ret 194 #[.int .u64 0] (fun v => v = .int .u8 64) := by
  intro w K hK
  have HK := hide hK
  clear hK
  obtain ⟨wb, x0, hwb, hB⟩ := boxes0 w
  subst hwb
  have hne : Nonempty (Later wb) := ⟨x0⟩
  go_enter Oaag.func194, Oaag.ntmps194
  go_wp2_with (refine Go.Lax.region_reads _ (by kernel_rfl) (by kernel_rfl) ?_; (repeat (first | go_big_quiet_skip | (go_big_quiet_want; go_big_quiet_op; go_big_quiet_on))); refine wpQuiet_nil ?_; intro y__)
  exact unhide HK _ _ rfl (hB _)

theorem clz_ret (x : Int) (hx : U64 x) : Ret 194 #[.int .u64 x] (fun v => ∃ k : Int, v = .int .u8 k ∧ 0 ≤ k ∧ k ≤ 64 ∧ (x ≠ 0 → k ≤ 63 ∧ 9223372036854775808 ≤ x * 2 ^ k.toNat ∧ x * 2 ^ k.toNat < 18446744073709551616)) := by
  obtain ⟨n, rfl, hn⟩ := hx.nat
  by_cases h0 : n = 0
  · subst h0
    refine clz_zero.mono ?_
    rintro v rfl
    exact ⟨64, rfl, by omega, by omega, fun h => absurd rfl h⟩
  · obtain ⟨k, hk, h1, h2⟩ := top_of n h0 (by have e64 : (2 : Nat) ^ 64 = 18446744073709551616 := by decide
                                              omega)
    refine (clz_nz n k hk h1 h2).mono ?_
    rintro v rfl
    refine ⟨_, rfl, by omega, by omega, fun _ => ⟨by omega, ?_⟩⟩
    have e : (63 - (k : Int)).toNat = 63 - k := by omega
    rw [e]
    have a1 : 2 ^ 63 ≤ n * 2 ^ (63 - k) := by
      calc 2 ^ 63 = 2 ^ k * 2 ^ (63 - k) := by rw [← Nat.pow_add]; congr 1; omega
        _ ≤ n * 2 ^ (63 - k) := Nat.mul_le_mul_right _ h1
    have a2 : n * 2 ^ (63 - k) < 2 ^ 64 := by
      calc n * 2 ^ (63 - k) < 2 ^ (k + 1) * 2 ^ (63 - k) := Nat.mul_lt_mul_of_pos_right h2 (Nat.two_pow_pos _)
        _ = 2 ^ 64 := by rw [← Nat.pow_add]; congr 1; omega
    rw [pow_cast, ← Int.natCast_mul]
    have e63 : (2 : Nat) ^ 63 = 9223372036854775808 := by decide
    have e64 : (2 : Nat) ^ 64 = 18446744073709551616 := by decide
    omega


end Go.Proofs.YgcoaaGreat.NatW
