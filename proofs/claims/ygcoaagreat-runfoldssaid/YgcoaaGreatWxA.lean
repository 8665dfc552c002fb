/-
  Package wide: Mul64 and Add exactly.
-/
import Derived.Test.YgcoaaGreatRsH
set_option linter.unusedVariables false
set_option linter.unusedSimpArgs false
namespace Go.Proofs.YgcoaaGreat.NatW
open Go.RowKit
open Go.Proofs.YgcoaaGreat.Limbs Go.Proofs.YgcoaaGreat.Bits
attribute [local go_sem] Go.Instr.field Go.asAgg

theorem low32 (x : Nat) (h : x < 18446744073709551616) : bits .and .u64 (x : Int) 4294967295 = ((x % 4294967296 : Nat) : Int) := by
  have := fM_int 32 x (by omega) h
  simpa [fM] using this

theorem low32i (y : Int) (h0 : 0 ≤ y) (h1 : y < 18446744073709551616) : bits .and .u64 y 4294967295 = y % 4294967296 := by
  obtain ⟨n, rfl⟩ := Int.eq_ofNat_of_zero_le h0
  rw [low32 n (by omega)]
  simp
theorem wrapE (x : Int) : IntKind.u64.wrap x = x % 18446744073709551616 := by simp [IntKind.wrap, IntKind.bits, IntKind.signed]
theorem mul_le32 (x y : Nat) (hx : x ≤ 4294967295) (hy : y ≤ 4294967295) : x * y ≤ 18446744065119617025 := Nat.mul_le_mul hx hy
theorem mul_parts (A B : Nat) : A * B = A / 4294967296 * (B / 4294967296) * 18446744073709551616 + (A / 4294967296 * (B % 4294967296) + A % 4294967296 * (B / 4294967296)) * 4294967296 + A % 4294967296 * (B % 4294967296) := by
  have ha : A = A / 4294967296 * 4294967296 + A % 4294967296 := by omega
  have hb : B = B / 4294967296 * 4294967296 + B % 4294967296 := by omega
  generalize A / 4294967296 = a1 at *
  generalize A % 4294967296 = a0 at *
  generalize B / 4294967296 = b1 at *
  generalize B % 4294967296 = b0 at *
  rw [ha, hb, Nat.add_mul, Nat.mul_add, Nat.mul_add, Nat.mul_mul_mul_comm, Nat.mul_right_comm a1 4294967296 b0, ← Nat.mul_assoc a0 b1 4294967296]
  omega

set_option maxRecDepth 20000 in
set_option maxHeartbeats 1000000 in
theorem mul64_ex (A B : Nat) (ha : A < 18446744073709551616) (hb : B < 18446744073709551616) : Ret 195 #[.int .u64 (A : Int), .int .u64 (B : Int)] (fun v => ∃ h l, v = u128 h l ∧ U64 h ∧ U64 l ∧ h * 18446744073709551616 + l = (A : Int) * B) := by
  intro w K hK
  have HK := hide hK
  clear hK
  obtain ⟨wb, x0, hwb, r0, hB, hZ⟩ := boxes1 w #[.int .u64 0, .int .u64 0] 47
  have c00 : ∀ x : Later wb, _ = some (.int .u64 0 : Value) := Later.cell r0 0 _ rfl
  have f00 := Later.frz r0 0
  have c01 : ∀ x : Later wb, _ = some (.int .u64 0 : Value) := Later.cell r0 1 _ rfl
  have f01 := Later.frz r0 1
  have R0 := hide r0
  clear r0
  have hne : Nonempty (Later wb) := ⟨x0⟩
  have e1 := low32 A ha
  have e2 := low32 B hb
  go_enter Oaag.func195, Oaag.ntmps195
  go_wp2_with (refine Go.Lax.region_reads _ (by kernel_rfl) (by kernel_rfl) ?_; (repeat (first | go_big_quiet_skip | (go_big_quiet_want; go_big_quiet_op; go_big_quiet_on))); refine wpQuiet_nil ?_; intro y__)
  refine bodyPost_box rfl ?_
  intro r hr
  simp [results, Oaag.results195, go_sem, c00, c01] at hr
  subst hr
  refine ⟨_, rfl, ?_⟩
  refine unhide HK _ _ ?_ (below_store (below_store (hB _) (by omega) _) (by omega) _)
  refine ⟨_, _, rfl, ?_⟩
  have hAB := mul_parts A B
  have b11 := mul_le32 (A / 4294967296) (B / 4294967296) (by omega) (by omega)
  have b10 := mul_le32 (A / 4294967296) (B % 4294967296) (by omega) (by omega)
  have b01 := mul_le32 (A % 4294967296) (B / 4294967296) (by omega) (by omega)
  have b00 := mul_le32 (A % 4294967296) (B % 4294967296) (by omega) (by omega)
  simp only [wrapE]
  rw [low32i _ (Int.emod_nonneg _ (by decide)) (Int.emod_lt_of_pos _ (by decide))]
  have c11 : (A : Int) / 4294967296 * ((B : Int) / 4294967296) = ((A / 4294967296 * (B / 4294967296) : Nat) : Int) := by simp
  have c10 : (A : Int) / 4294967296 * ((B : Int) % 4294967296) = ((A / 4294967296 * (B % 4294967296) : Nat) : Int) := by simp
  have c01 : (A : Int) % 4294967296 * ((B : Int) / 4294967296) = ((A % 4294967296 * (B / 4294967296) : Nat) : Int) := by simp
  have c00' : (A : Int) % 4294967296 * ((B : Int) % 4294967296) = ((A % 4294967296 * (B % 4294967296) : Nat) : Int) := by simp
  have cab : (A : Int) * (B : Int) = ((A * B : Nat) : Int) := by simp
  rw [c11, c10, c01, c00', cab, hAB]
  generalize A / 4294967296 * (B / 4294967296) = P11 at *
  generalize A / 4294967296 * (B % 4294967296) = P10 at *
  generalize A % 4294967296 * (B / 4294967296) = P01 at *
  generalize A % 4294967296 * (B % 4294967296) = P00 at *
  have habl : P11 * 18446744073709551616 + (P10 + P01) * 4294967296 + P00 < 18446744073709551616 * 18446744073709551616 := by
    rw [← hAB]; exact Nat.mul_lt_mul_of_lt_of_lt ha hb
  clear hAB c11 c10 c01 c00' cab e1 e2
  unfold U64
  omega

set_option maxRecDepth 20000 in
set_option maxHeartbeats 1000000 in
theorem wadd_ex (ah al bh bl : Int) (hah : U64 ah) (hal : U64 al) (hbh : U64 bh) (hbl : U64 bl) (hs : ah + bh + 1 < 18446744073709551616) : Ret 196 #[u128 ah al, u128 bh bl] (fun v => ∃ h l b, v = .tuple #[u128 h l, .bool b] ∧ U64 h ∧ U64 l ∧ h * 18446744073709551616 + l = (ah + bh) * 18446744073709551616 + al + bl) := by
  intro w K hK
  have HK := hide hK
  clear hK
  obtain ⟨wb, x0, hwb, r0, r1, r2, hB, hZ⟩ := boxes3 w #[.int .u64 ah, .int .u64 al] #[.int .u64 bh, .int .u64 bl] #[.int .u64 0, .int .u64 0] 47 47 47
  have c00 : ∀ x : Later wb, _ = some (.int .u64 ah : Value) := Later.cell r0 0 _ rfl
  have c01 : ∀ x : Later wb, _ = some (.int .u64 al : Value) := Later.cell r0 1 _ rfl
  have c10 : ∀ x : Later wb, _ = some (.int .u64 bh : Value) := Later.cell r1 0 _ rfl
  have c11 : ∀ x : Later wb, _ = some (.int .u64 bl : Value) := Later.cell r1 1 _ rfl
  have c20 : ∀ x : Later wb, _ = some (.int .u64 0 : Value) := Later.cell r2 0 _ rfl
  have f20 := Later.frz r2 0
  have c21 : ∀ x : Later wb, _ = some (.int .u64 0 : Value) := Later.cell r2 1 _ rfl
  have f21 := Later.frz r2 1
  have R0 := hide r0
  have R1 := hide r1
  have R2 := hide r2
  clear r0 r1 r2
  have hne : Nonempty (Later wb) := ⟨x0⟩
  go_enter Oaag.func196, Oaag.ntmps196
  go_wp2_with (refine Go.Lax.region_reads _ (by kernel_rfl) (by kernel_rfl) ?_; (repeat (first | go_big_quiet_skip | (go_big_quiet_want; go_big_quiet_op; go_big_quiet_on))); refine wpQuiet_nil ?_; intro y__)
  all_goals
    refine bodyPost_box rfl ?_
    intro r hr
    simp [results, Oaag.results196, go_sem, c20, c21] at hr
    subst hr
    refine ⟨_, rfl, ?_⟩
    refine unhide HK _ _ ?_ (below_store (below_store (hB _) (by omega) _) (by omega) _)
    refine ⟨_, _, _, rfl, ?_, ?_, ?_⟩
    all_goals
      obtain ⟨p1, p2⟩ := hah
      obtain ⟨p3, p4⟩ := hal
      obtain ⟨p5, p6⟩ := hbh
      obtain ⟨p7, p8⟩ := hbl
      simp only [IntKind.wrap, IntKind.bits, IntKind.signed, U64] at *
      simp at *
      omega

end Go.Proofs.YgcoaaGreat.NatW
