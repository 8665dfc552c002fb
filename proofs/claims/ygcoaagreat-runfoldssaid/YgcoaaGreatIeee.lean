/-
  Package ieee: the small functions, with their values.
-/
import Derived.Test.YgcoaaGreatRatB
import Derived.Test.YgcoaaGreatTabD
import Derived.Test.YgcoaaGreatMixB
set_option linter.unusedVariables false
set_option linter.unusedSimpArgs false
namespace Go.Proofs.YgcoaaGreat.NatW
open Go.RowKit
open Go.Proofs.YgcoaaGreat.Limbs

theorem pow_le' (k n : Nat) (h : k ≤ n) : (2 : Nat) ^ k ≤ 2 ^ n := Nat.pow_le_pow_right (by omega) h
theorem pow_cast (k : Nat) : (2 : Int) ^ k = ((2 ^ k : Nat) : Int) := by simp
theorem wrap_u {x : Int} (h0 : 0 ≤ x) (h : x < 18446744073709551616) : IntKind.u64.wrap x = x := by rw [IntKind.wrap_u64]; omega
theorem wrap_pow (k : Nat) (h : k ≤ 63) : IntKind.u64.wrap ((2 : Int) ^ k) = ((2 ^ k : Nat) : Int) := by
  have h1 := pow_le' k 63 h
  rw [pow_cast]
  obtain ⟨N, hN⟩ : ∃ N : Nat, N = 2 ^ k := ⟨_, rfl⟩
  rw [← hN] at h1 ⊢
  exact wrap_u (by omega) (by omega)

set_option maxRecDepth 20000 in
set_option maxHeartbeats 1000000 in
theorem signBit_is (E M : Nat) (hf : fok E M = true) : OneOf 104 E M .u64 (2 ^ (E + M) : Nat) := by
  obtain ⟨g1, g2, g3, g4⟩ := fok_bd hf
  have hk := fun w => fmtOk_yes E M hf w
  have HK := hide hk
  clear hk hf
  intro w
  go_enter Oaag.func104, Oaag.ntmps104
  go_wp2_with fail
  refine (unhide HK _).mono ?_
  rintro e w1 ⟨rfl, hb⟩
  obtain ⟨c0, c1⟩ := box_now w w1 (.int .u8 E) (.int .u8 M) 23 (by simpa using hb)
  have hb1 : Below w.heap.size w w1 := ((Below.refl _ _).alloc (Nat.le_refl _) _).trans (hb.mono (by simp))
  go_wp2
  go_ret
  refine ⟨ret_int ?_, hb1⟩
  exact wrap_pow _ (by omega)

set_option maxRecDepth 20000 in
set_option maxHeartbeats 1000000 in
theorem bias_is (E M : Nat) (hf : fok E M = true) : OneOf 117 E M .i16 ((2 ^ (E - 1) : Nat) - 1) := by
  obtain ⟨g1, g2, g3, g4⟩ := fok_bd hf
  have hk := fun w => fmtOk_yes E M hf w
  have HK := hide hk
  clear hk hf
  intro w
  go_enter Oaag.func117, Oaag.ntmps117
  go_wp2_with fail
  refine (unhide HK _).mono ?_
  rintro e w1 ⟨rfl, hb⟩
  obtain ⟨c0, c1⟩ := box_now w w1 (.int .u8 E) (.int .u8 M) 23 (by simpa using hb)
  have hb1 : Below w.heap.size w w1 := ((Below.refl _ _).alloc (Nat.le_refl _) _).trans (hb.mono (by simp))
  go_wp2
  go_ret
  refine ⟨ret_int ?_, hb1⟩
  have h1 := pow_le' (E - 1) 10 (by omega)
  have h2 := Nat.one_le_two_pow (n := E - 1)
  rw [pow_cast]
  obtain ⟨N, hN⟩ : ∃ N : Nat, N = 2 ^ (E - 1) := ⟨_, rfl⟩
  rw [← hN] at h1 h2 ⊢
  have e1 : IntKind.i16.wrap (N : Int) = N := wrap_i16 _ (by omega) (by omega)
  rw [e1]
  exact wrap_i16 _ (by omega) (by omega)

set_option maxRecDepth 20000 in
set_option maxHeartbeats 1000000 in
theorem mask_is (E M : Nat) (hf : fok E M = true) : OneOf 163 E M .u64 ((2 ^ (E + M + 1) : Nat) - 1) := by
  obtain ⟨g1, g2, g3, g4⟩ := fok_bd hf
  have hk := fun w => fmtOk_yes E M hf w
  have HS := hide (signBit_is E M hf)
  have HK := hide hk
  clear hk hf
  intro w
  go_enter Oaag.func163, Oaag.ntmps163
  go_wp2_with fail
  refine (unhide HK _).mono ?_
  rintro e w1 ⟨rfl, hb⟩
  obtain ⟨c0, c1⟩ := box_now w w1 (.int .u8 E) (.int .u8 M) 23 (by simpa using hb)
  have hb1 : Below w.heap.size w w1 := ((Below.refl _ _).alloc (Nat.le_refl _) _).trans (hb.mono (by simp))
  go_wp2_with fail
  refine (unhide HS _).mono ?_
  rintro e w2 ⟨rfl, hb2⟩
  have hb12 := hb1.trans (hb2.mono hb1.size)
  clear hb2
  go_wp2
  go_ret
  refine ⟨ret_int ?_, hb12⟩
  have h1 := pow_le' (E + M) 63 (by omega)
  have h2 := Nat.one_le_two_pow (n := E + M)
  rw [pow_cast, Nat.pow_succ]
  obtain ⟨N, hN⟩ : ∃ N : Nat, N = 2 ^ (E + M) := ⟨_, rfl⟩
  rw [← hN] at h1 h2 ⊢
  have hlt : N ≤ 9223372036854775808 := by simpa using h1
  have e0 : E + M ≤ 63 := by omega
  rw [IntKind.wrap_u64, IntKind.wrap_u64]
  omega

end Go.Proofs.YgcoaaGreat.NatW
