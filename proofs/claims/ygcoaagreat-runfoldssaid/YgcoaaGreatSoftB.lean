/-
  Package soft: zero, cut, raises, overflow, Signals, heard, clean.
-/
import Derived.Test.YgcoaaGreatSoftA
set_option linter.unusedVariables false
set_option linter.unusedSimpArgs false
namespace Go.Proofs.YgcoaaGreat.NatW
attribute [local go_sem] Go.Instr.field Go.asAgg
open Go.RowKit
open Go.Proofs.YgcoaaGreat.Limbs Go.Proofs.YgcoaaGreat.Bits
theorem at_arg1b (v : Value) {P : Program} {n : Nat} {u : Value} {l : List Value} {w : World} {K : Ending → World → Prop} (h : Calls P n (u :: v :: l).toArray w K) : Calls P n (u :: v :: l).toArray w K := h

set_option maxRecDepth 20000 in
set_option maxHeartbeats 1000000 in
theorem zero_true (E M : Nat) (hf : fok E M = true) : Ret 373 #[fmt E M, .bool true] (fun v => v = .int .u64 ((sgn E M true : Nat) : Int)) := by
  obtain ⟨g1, g2, g3, g4⟩ := fok_bd hf
  have H1 := hide (signBit_ret E M hf)
  clear hf
  intro w K hK
  have HK := hide hK
  clear hK
  obtain ⟨wb, x0, hwb, r0, hB, hZ⟩ := boxes1 w #[.int .u8 E, .int .u8 M] 23
  have c00 : ∀ x : Later wb, _ = some (.int .u8 E : Value) := Later.cell r0 0 _ rfl
  have c01 : ∀ x : Later wb, _ = some (.int .u8 M : Value) := Later.cell r0 1 _ rfl
  have R0 := hide r0
  clear r0
  have hne : Nonempty (Later wb) := ⟨x0⟩
  go_enter Oaag.func373, Oaag.ntmps373
  go_wp2_with (go_at_call 104; refine Go.Proofs.YgcoaaGreat.NatW.Ret.run (unhide H1) _ ?_; rintro _ y__ rfl)
  refine unhide HK _ _ ?_ (hB _)
  simp [sgn]

set_option maxRecDepth 20000 in
set_option maxHeartbeats 1000000 in
theorem zero_false (E M : Nat) (hf : fok E M = true) : Ret 373 #[fmt E M, .bool false] (fun v => v = .int .u64 ((sgn E M false : Nat) : Int)) := by
  obtain ⟨g1, g2, g3, g4⟩ := fok_bd hf
  have H1 := hide (signBit_ret E M hf)
  clear hf
  intro w K hK
  have HK := hide hK
  clear hK
  obtain ⟨wb, x0, hwb, r0, hB, hZ⟩ := boxes1 w #[.int .u8 E, .int .u8 M] 23
  have c00 : ∀ x : Later wb, _ = some (.int .u8 E : Value) := Later.cell r0 0 _ rfl
  have c01 : ∀ x : Later wb, _ = some (.int .u8 M : Value) := Later.cell r0 1 _ rfl
  have R0 := hide r0
  clear r0
  have hne : Nonempty (Later wb) := ⟨x0⟩
  go_enter Oaag.func373, Oaag.ntmps373
  go_wp2_with (go_at_call 104; refine Go.Proofs.YgcoaaGreat.NatW.Ret.run (unhide H1) _ ?_; rintro _ y__ rfl)
  refine unhide HK _ _ ?_ (hB _)
  simp [sgn]

theorem zero_ret (E M : Nat) (hf : fok E M = true) (neg : Bool) : Ret 373 #[fmt E M, .bool neg] (fun v => v = .int .u64 ((sgn E M neg : Nat) : Int)) := by
  cases neg
  · exact zero_false E M hf
  · exact zero_true E M hf

set_option maxRecDepth 20000 in
set_option maxHeartbeats 1000000 in
theorem cut_ret (s k : Int) (hs : U64 s) (hk0 : 0 ≤ k) (hk1 : k ≤ 32767) : Ret 399 #[.int .u64 s, .int .i16 k] (fun v => ∃ n r, v = .tuple #[.int .u64 n, .int .u64 r] ∧ U64 n ∧ U64 r) := by
  intro w K hK
  have HK := hide hK
  clear hK
  obtain ⟨wb, x0, hwb, hB⟩ := boxes0 w
  subst hwb
  have hne : Nonempty (Later wb) := ⟨x0⟩
  go_enter Oaag.func399, Oaag.ntmps399
  go_wp2_with (refine Go.Lax.region_reads _ (by kernel_rfl) (by kernel_rfl) ?_; (repeat (first | go_big_quiet_skip | (go_big_quiet_want; go_big_quiet_op; go_big_quiet_on))); refine wpQuiet_nil ?_; intro y__)
  all_goals exact unhide HK _ _ ⟨_, _, rfl, by (first | assumption | exact U64.wrap _ | exact U64.bits _ _ _ | exact U64.div (by first | assumption | exact U64.wrap _ | exact U64.bits _ _ _ | exact U64.div (by first | assumption | exact U64.wrap _ | exact U64.bits _ _ _ | exact U64.lit (by omega) (by omega)) _ | exact U64.ediv (by first | assumption | exact U64.wrap _ | exact U64.bits _ _ _ | exact U64.lit (by omega) (by omega)) _ (by omega) | exact U64.lit (by omega) (by omega) | exact U64.one _ (by first | assumption | exact U64.wrap _ | exact U64.bits _ _ _ | exact U64.lit (by omega) (by omega)) (by first | assumption | exact U64.wrap _ | exact U64.bits _ _ _ | exact U64.lit (by omega) (by omega))) _ | exact U64.ediv (by first | assumption | exact U64.wrap _ | exact U64.bits _ _ _ | exact U64.div (by first | assumption | exact U64.wrap _ | exact U64.bits _ _ _ | exact U64.lit (by omega) (by omega)) _ | exact U64.ediv (by first | assumption | exact U64.wrap _ | exact U64.bits _ _ _ | exact U64.lit (by omega) (by omega)) _ (by omega) | exact U64.lit (by omega) (by omega) | exact U64.one _ (by first | assumption | exact U64.wrap _ | exact U64.bits _ _ _ | exact U64.lit (by omega) (by omega)) (by first | assumption | exact U64.wrap _ | exact U64.bits _ _ _ | exact U64.lit (by omega) (by omega))) _ (by omega) | exact U64.lit (by omega) (by omega) | exact U64.one _ (by first | assumption | exact U64.wrap _ | exact U64.bits _ _ _ | exact U64.div (by first | assumption | exact U64.wrap _ | exact U64.bits _ _ _ | exact U64.lit (by omega) (by omega)) _ | exact U64.ediv (by first | assumption | exact U64.wrap _ | exact U64.bits _ _ _ | exact U64.lit (by omega) (by omega)) _ (by omega) | exact U64.lit (by omega) (by omega) | exact U64.one _ (by first | assumption | exact U64.wrap _ | exact U64.bits _ _ _ | exact U64.lit (by omega) (by omega)) (by first | assumption | exact U64.wrap _ | exact U64.bits _ _ _ | exact U64.lit (by omega) (by omega))) (by first | assumption | exact U64.wrap _ | exact U64.bits _ _ _ | exact U64.div (by first | assumption | exact U64.wrap _ | exact U64.bits _ _ _ | exact U64.lit (by omega) (by omega)) _ | exact U64.ediv (by first | assumption | exact U64.wrap _ | exact U64.bits _ _ _ | exact U64.lit (by omega) (by omega)) _ (by omega) | exact U64.lit (by omega) (by omega) | exact U64.one _ (by first | assumption | exact U64.wrap _ | exact U64.bits _ _ _ | exact U64.lit (by omega) (by omega)) (by first | assumption | exact U64.wrap _ | exact U64.bits _ _ _ | exact U64.lit (by omega) (by omega)))), by (first | assumption | exact U64.wrap _ | exact U64.bits _ _ _ | exact U64.div (by first | assumption | exact U64.wrap _ | exact U64.bits _ _ _ | exact U64.div (by first | assumption | exact U64.wrap _ | exact U64.bits _ _ _ | exact U64.lit (by omega) (by omega)) _ | exact U64.ediv (by first | assumption | exact U64.wrap _ | exact U64.bits _ _ _ | exact U64.lit (by omega) (by omega)) _ (by omega) | exact U64.lit (by omega) (by omega) | exact U64.one _ (by first | assumption | exact U64.wrap _ | exact U64.bits _ _ _ | exact U64.lit (by omega) (by omega)) (by first | assumption | exact U64.wrap _ | exact U64.bits _ _ _ | exact U64.lit (by omega) (by omega))) _ | exact U64.ediv (by first | assumption | exact U64.wrap _ | exact U64.bits _ _ _ | exact U64.div (by first | assumption | exact U64.wrap _ | exact U64.bits _ _ _ | exact U64.lit (by omega) (by omega)) _ | exact U64.ediv (by first | assumption | exact U64.wrap _ | exact U64.bits _ _ _ | exact U64.lit (by omega) (by omega)) _ (by omega) | exact U64.lit (by omega) (by omega) | exact U64.one _ (by first | assumption | exact U64.wrap _ | exact U64.bits _ _ _ | exact U64.lit (by omega) (by omega)) (by first | assumption | exact U64.wrap _ | exact U64.bits _ _ _ | exact U64.lit (by omega) (by omega))) _ (by omega) | exact U64.lit (by omega) (by omega) | exact U64.one _ (by first | assumption | exact U64.wrap _ | exact U64.bits _ _ _ | exact U64.div (by first | assumption | exact U64.wrap _ | exact U64.bits _ _ _ | exact U64.lit (by omega) (by omega)) _ | exact U64.ediv (by first | assumption | exact U64.wrap _ | exact U64.bits _ _ _ | exact U64.lit (by omega) (by omega)) _ (by omega) | exact U64.lit (by omega) (by omega) | exact U64.one _ (by first | assumption | exact U64.wrap _ | exact U64.bits _ _ _ | exact U64.lit (by omega) (by omega)) (by first | assumption | exact U64.wrap _ | exact U64.bits _ _ _ | exact U64.lit (by omega) (by omega))) (by first | assumption | exact U64.wrap _ | exact U64.bits _ _ _ | exact U64.div (by first | assumption | exact U64.wrap _ | exact U64.bits _ _ _ | exact U64.lit (by omega) (by omega)) _ | exact U64.ediv (by first | assumption | exact U64.wrap _ | exact U64.bits _ _ _ | exact U64.lit (by omega) (by omega)) _ (by omega) | exact U64.lit (by omega) (by omega) | exact U64.one _ (by first | assumption | exact U64.wrap _ | exact U64.bits _ _ _ | exact U64.lit (by omega) (by omega)) (by first | assumption | exact U64.wrap _ | exact U64.bits _ _ _ | exact U64.lit (by omega) (by omega))))⟩ (hB _)

set_option maxRecDepth 20000 in
set_option maxHeartbeats 1000000 in
theorem raises_ret (m : Int) (neg : Bool) (n r : Int) : Ret 400 #[.int .u8 m, .bool neg, .int .u64 n, .int .u64 r] (fun v => ∃ b, v = .bool b) := by
  intro w K hK
  have HK := hide hK
  clear hK
  obtain ⟨wb, x0, hwb, hB⟩ := boxes0 w
  subst hwb
  have hne : Nonempty (Later wb) := ⟨x0⟩
  go_enter Oaag.func400, Oaag.ntmps400
  go_wp2_with fail
  all_goals exact unhide HK _ _ ⟨_, rfl⟩ (hB _)

set_option maxRecDepth 20000 in
set_option maxHeartbeats 1000000 in
theorem overflow_ret (E M : Nat) (hf : fok E M = true) (m : Int) (neg : Bool) : Ret 412 #[fmt E M, .int .u8 m, .bool neg] (fun v => ∃ r f, v = .tuple #[.int .u64 r, .int .u8 f] ∧ Snd E M r) := by
  obtain ⟨g1, g2, g3, g4⟩ := fok_bd hf
  have H1 := hide (fun n => inf_ret E M hf n)
  have H2 := hide (fun n => max_ret E M hf n)
  have S1 := hide (fun n => snd_inf E M n (by omega))
  have S2 := hide (fun n => snd_max E M n (by omega))
  clear hf
  intro w K hK
  have HK := hide hK
  clear hK
  obtain ⟨wb, x0, hwb, r0, hB, hZ⟩ := boxes1 w #[.int .u8 E, .int .u8 M] 23
  have c00 : ∀ x : Later wb, _ = some (.int .u8 E : Value) := Later.cell r0 0 _ rfl
  have c01 : ∀ x : Later wb, _ = some (.int .u8 M : Value) := Later.cell r0 1 _ rfl
  have R0 := hide r0
  clear r0
  have hne : Nonempty (Later wb) := ⟨x0⟩
  go_enter Oaag.func412, Oaag.ntmps412
  go_wp2_with (first | go_at_call 85; refine Go.Proofs.YgcoaaGreat.NatW.Ret.run (unhide H1 _) _ ?_; rintro _ y__ rfl | go_at_call 162; refine Go.Proofs.YgcoaaGreat.NatW.Ret.run (unhide H2 _) _ ?_; rintro _ y__ rfl)
  all_goals first | exact unhide HK _ _ ⟨_, _, rfl, unhide S1 _⟩ (hB _) | exact unhide HK _ _ ⟨_, _, rfl, unhide S2 _⟩ (hB _)

set_option maxRecDepth 20000 in
set_option maxHeartbeats 1000000 in
theorem signals_ret (E M : Nat) (hf : fok E M = true) (a : Int) (ha : U64 a) : Ret 182 #[fmt E M, .int .u64 a] (fun v => ∃ b, v = .bool b) := by
  obtain ⟨g1, g2, g3, g4⟩ := fok_bd hf
  have H1 := hide (unpack_i E M hf a ha)
  clear hf
  intro w K hK
  have HK := hide hK
  clear hK
  obtain ⟨wb, x0, hwb, r0, hB, hZ⟩ := boxes1 w #[.int .u8 E, .int .u8 M] 23
  have c00 : ∀ x : Later wb, _ = some (.int .u8 E : Value) := Later.cell r0 0 _ rfl
  have c01 : ∀ x : Later wb, _ = some (.int .u8 M : Value) := Later.cell r0 1 _ rfl
  have R0 := hide r0
  clear r0
  have hne : Nonempty (Later wb) := ⟨x0⟩
  go_enter Oaag.func182, Oaag.ntmps182
  go_wp2_with (go_at_call 68; refine Go.Proofs.YgcoaaGreat.NatW.Ret.run (unhide H1) _ ?_; rintro _ y__ ⟨neg, c, e, m, rfl, hp, hc⟩; clear hp hc)
  all_goals exact unhide HK _ _ ⟨_, rfl⟩ (hB _)

set_option maxRecDepth 20000 in
set_option maxHeartbeats 1000000 in
theorem heard_ret (E M : Nat) (hf : fok E M = true) (a b : Int) (ha : U64 a) (hb : U64 b) : Ret 339 #[fmt E M, .int .u64 a, .int .u64 b] (fun v => ∃ f, v = .int .u8 f) := by
  obtain ⟨g1, g2, g3, g4⟩ := fok_bd hf
  have H1 := hide (signals_ret E M hf a ha)
  have H2 := hide (signals_ret E M hf b hb)
  clear hf
  intro w K hK
  have HK := hide hK
  clear hK
  obtain ⟨wb, x0, hwb, r0, hB, hZ⟩ := boxes1 w #[.int .u8 E, .int .u8 M] 23
  have c00 : ∀ x : Later wb, _ = some (.int .u8 E : Value) := Later.cell r0 0 _ rfl
  have c01 : ∀ x : Later wb, _ = some (.int .u8 M : Value) := Later.cell r0 1 _ rfl
  have R0 := hide r0
  clear r0
  have hne : Nonempty (Later wb) := ⟨x0⟩
  go_enter Oaag.func339, Oaag.ntmps339
  go_wp2_with (first | go_at_call 182; with_reducible refine Go.Proofs.YgcoaaGreat.NatW.at_arg1b (.int .u64 a) ?_; refine Go.Proofs.YgcoaaGreat.NatW.Ret.run (unhide H1) _ ?_; rintro _ y__ ⟨b1, rfl⟩ | go_at_call 182; with_reducible refine Go.Proofs.YgcoaaGreat.NatW.at_arg1b (.int .u64 b) ?_; refine Go.Proofs.YgcoaaGreat.NatW.Ret.run (unhide H2) _ ?_; rintro _ y__ ⟨b2, rfl⟩)
  all_goals exact unhide HK _ _ ⟨_, rfl⟩ (hB _)

theorem Nat.mod_pow_succ_div (n M k : Nat) : n % 2 ^ (M + k) / 2 ^ M = n / 2 ^ M % 2 ^ k := by
  rw [Nat.pow_add, Nat.mod_mul_right_div_self]

theorem snd_clean (E M : Nat) (hf : fok E M = true) (a : Int) (ha : U64 a) (hc : cls E M a.toNat ≠ 4) : Snd E M (bits .and .u64 a ((2 : Int) ^ (E + M + 1) - 1)) := by
  obtain ⟨g1, g2, g3, g4⟩ := fok_bd hf
  obtain ⟨n, rfl, hn⟩ := ha.nat
  have hp := pow_le' (E + M + 1) 64 (by omega)
  have hp1 := Nat.one_le_two_pow (n := E + M + 1)
  have e64 : (2 : Nat) ^ 64 = 18446744073709551616 := by decide
  have e : bits .and .u64 (n : Int) ((2 : Int) ^ (E + M + 1) - 1) = ((n % 2 ^ (E + M + 1) : Nat) : Int) := by
    have h1 : (2 : Int) ^ (E + M + 1) - 1 = ((2 ^ (E + M + 1) - 1 : Nat) : Int) := by rw [pow_cast]; omega
    rw [h1, u64_and_nat _ _ (by omega) (by omega), and_mask]
  rw [e]
  have hlt := Nat.mod_lt n (Nat.two_pow_pos (E + M + 1))
  refine ⟨_, rfl, hlt, fun h => absurd ?_ hc⟩
  rw [← h]
  have q1 : fE E M (n % 2 ^ (E + M + 1)) = fE E M n := by
    unfold fE
    have h2 : n % 2 ^ (E + M + 1) / 2 ^ M = n / 2 ^ M % 2 ^ (E + 1) := by
      have : E + M + 1 = M + (E + 1) := by omega
      rw [this, Nat.mod_pow_succ_div n M (E + 1)]
    rw [h2]
    exact Nat.mod_mod_of_dvd _ (Nat.pow_dvd_pow 2 (by omega))
  have q2 : fM M (n % 2 ^ (E + M + 1)) = fM M n := Nat.mod_mod_of_dvd _ (Nat.pow_dvd_pow 2 (by omega))
  unfold cls
  rw [q1, q2]
  simp

set_option maxRecDepth 20000 in
set_option maxHeartbeats 1000000 in
theorem clean_ret (E M : Nat) (hf : fok E M = true) (a : Int) (ha : U64 a) : Ret 134 #[fmt E M, .int .u64 a] (fun v => ∃ r, v = .int .u64 r ∧ Snd E M r) := by
  obtain ⟨g1, g2, g3, g4⟩ := fok_bd hf
  have H1 := hide (unpack_i E M hf a ha)
  have H2 := hide (nan_ret E M hf)
  have H3 := hide (mask_ret E M hf)
  have S1 := hide (snd_clean E M hf a ha)
  have S2 := hide (snd_nan E M (by omega))
  clear hf
  intro w K hK
  have HK := hide hK
  clear hK
  obtain ⟨wb, x0, hwb, r0, hB, hZ⟩ := boxes1 w #[.int .u8 E, .int .u8 M] 23
  have c00 : ∀ x : Later wb, _ = some (.int .u8 E : Value) := Later.cell r0 0 _ rfl
  have c01 : ∀ x : Later wb, _ = some (.int .u8 M : Value) := Later.cell r0 1 _ rfl
  have R0 := hide r0
  clear r0
  have hne : Nonempty (Later wb) := ⟨x0⟩
  go_enter Oaag.func134, Oaag.ntmps134
  go_wp2_with (first | (go_at_call 68; refine Go.Proofs.YgcoaaGreat.NatW.Ret.run (unhide H1) _ ?_; rintro _ y__ ⟨neg, c, e, m, rfl, hp, hc⟩; clear hp; have HC := hide hc; clear hc) | go_at_call 45; refine Go.Proofs.YgcoaaGreat.NatW.Ret.run (unhide H2) _ ?_; rintro _ y__ rfl | go_at_call 163; refine Go.Proofs.YgcoaaGreat.NatW.Ret.run (unhide H3) _ ?_; rintro _ y__ rfl)
  · exact unhide HK _ _ ⟨_, rfl, unhide S2⟩ (hB _)
  · refine unhide HK _ _ ⟨_, rfl, unhide S1 ?_⟩ (hB _)
    rw [← unhide HC]
    have h : (c == 4) = false := by assumption
    simpa using h


end Go.Proofs.YgcoaaGreat.NatW
