/-
  Package soft: NextUp, NextDown.
-/
import Derived.Test.YgcoaaGreatTac
import Derived.Test.YgcoaaGreatSoftK
import Derived.Test.YgcoaaGreatSoftP
set_option linter.unusedVariables false
set_option linter.unusedSimpArgs false
namespace Go.Proofs.YgcoaaGreat.NatW
attribute [local go_sem] Go.Instr.field Go.asAgg
open Go.RowKit
open Go.Proofs.YgcoaaGreat.Limbs Go.Proofs.YgcoaaGreat.Bits

theorem nat_cls_mod (E M n : Nat) : cls E M (n % 2 ^ (E + M + 1)) = cls E M n := by
  have q1 : fE E M (n % 2 ^ (E + M + 1)) = fE E M n := by
    unfold fE
    have h2 : n % 2 ^ (E + M + 1) / 2 ^ M = n / 2 ^ M % 2 ^ (E + 1) := by
      have : E + M + 1 = M + (E + 1) := by omega
      rw [this, Nat.mod_pow_succ_div n M (E + 1)]
    rw [h2]
    exact Nat.mod_mod_of_dvd _ (Nat.pow_dvd_pow 2 (by omega))
  have q2 : fM M (n % 2 ^ (E + M + 1)) = fM M n := Nat.mod_mod_of_dvd _ (Nat.pow_dvd_pow 2 (by omega))
  unfold cls
  rw [q1, q2]
/-- Within the width and no NaN: at most the infinity, the sign apart. -/
theorem not_nan (E M n : Nat) (hn : n < 2 ^ (E + M + 1)) (hc : cls E M n ≠ 4) : n ≤ infP E M ∨ 2 ^ (E + M) ≤ n ∧ n ≤ 2 ^ (E + M) + infP E M := by
  have key : ∀ k, k < 2 ^ (E + M) → infP E M < k → cls E M k = 4 ∧ cls E M (k + 2 ^ (E + M)) = 4 := by
    intro k hk1 hk2
    have hp := Nat.two_pow_pos M
    have h1 : k / 2 ^ M = 2 ^ E - 1 := by
      have a1 : 2 ^ E - 1 ≤ k / 2 ^ M := by
        rw [Nat.le_div_iff_mul_le hp]
        unfold infP at hk2
        omega
      have a2 : k / 2 ^ M < 2 ^ E := by
        rw [Nat.div_lt_iff_lt_mul hp, ← Nat.pow_add]; exact hk1
      omega
    have h2 : k % 2 ^ M ≠ 0 := by
      intro h0
      have := Nat.div_add_mod k (2 ^ M)
      rw [h0, h1, Nat.mul_comm] at this
      unfold infP at hk2
      omega
    have h3 : 2 ^ E - 1 < 2 ^ E := by have := Nat.one_le_two_pow (n := E); omega
    constructor
    · unfold cls fE fM
      rw [h1, Nat.mod_eq_of_lt h3, if_pos rfl, if_neg h2]
    · unfold cls fE fM
      have h4 : (k + 2 ^ (E + M)) / 2 ^ M = 2 ^ E - 1 + 2 ^ E := by
        rw [Nat.pow_add, Nat.add_mul_div_right _ _ hp, h1]
      have h5 : (k + 2 ^ (E + M)) % 2 ^ M = k % 2 ^ M := by rw [Nat.pow_add, Nat.add_mul_mod_self_right]
      rw [h4, h5, Nat.add_mod_right, Nat.mod_eq_of_lt h3, if_pos rfl, if_neg h2]
  rw [Nat.pow_succ] at hn
  by_cases h1 : n < 2 ^ (E + M)
  · left
    rcases Nat.lt_or_ge (infP E M) n with h | h
    · exact absurd (key n h1 h).1 hc
    · exact h
  · right
    refine ⟨by omega, ?_⟩
    rcases Nat.lt_or_ge (infP E M) (n - 2 ^ (E + M)) with h | h
    · have := (key (n - 2 ^ (E + M)) (by omega) h).2
      rw [Nat.sub_add_cancel (by omega)] at this
      exact absurd this hc
    · omega

theorem snd_up (E M n : Nat) (hf : fok E M = true) (hn : n ≤ infP E M) (neg : Bool) : Snd E M ((n + sgn E M neg : Nat) : Int) := by
  obtain ⟨g1, g2, g3, g4⟩ := fok_bd hf
  rcases Nat.lt_or_ge n (infP E M) with h | h
  · exact snd_fin E M n neg (by omega) h
  · obtain rfl : n = infP E M := by omega
    exact snd_inf E M neg (by omega)
theorem up1 (E M n : Nat) (hf : fok E M = true) (hn : n < 2 ^ (E + M + 1)) (hc : cls E M n ≠ 4) (h1 : (n : Int) ≠ (infP E M : Nat)) (h2 : (n : Int) ≠ ((2 ^ (E + M) : Nat) : Int)) (h3 : (n : Int) ≤ ((2 ^ (E + M) : Nat) : Int)) : Snd E M (IntKind.u64.wrap ((n : Int) + 1)) := by
  obtain ⟨g1, g2, g3, g4⟩ := fok_bd hf
  have hlt := infP_lt E M
  have hp := pow63 (E + M) (by omega)
  have hle : n + 1 ≤ infP E M := by rcases not_nan E M n hn hc with h | h <;> omega
  rw [wrap_u (by omega) (by omega)]
  have := snd_up E M (n + 1) hf hle false
  simpa [sgn] using this
theorem dn1 (E M n : Nat) (hf : fok E M = true) (hn : n < 2 ^ (E + M + 1)) (hc : cls E M n ≠ 4) (h3 : ((2 ^ (E + M) : Nat) : Int) < (n : Int)) : Snd E M (IntKind.u64.wrap ((n : Int) - 1)) := by
  obtain ⟨g1, g2, g3, g4⟩ := fok_bd hf
  have hlt := infP_lt E M
  have hp := pow63 (E + M) (by omega)
  rcases not_nan E M n hn hc with h | h
  · omega
  · rw [wrap_u (by omega) (by omega)]
    have := snd_up E M (n - 1 - 2 ^ (E + M)) hf (by omega) true
    have e : ((n - 1 - 2 ^ (E + M) + sgn E M true : Nat) : Int) = (n : Int) - 1 := by simp only [sgn, if_true]; omega
    rw [e] at this
    exact this

set_option maxRecDepth 20000 in
set_option maxHeartbeats 2000000 in
theorem nextUp_ret (E M : Nat) (hf : fok E M = true) (n : Nat) (hn : n < 2 ^ (E + M + 1)) (hc : cls E M n ≠ 4) : Ret 406 #[fmt E M, .int .u64 (n : Int)] (fun v => ∃ r, v = .int .u64 r ∧ Snd E M r) := by
  obtain ⟨g1, g2, g3, g4⟩ := fok_bd hf
  obtain ⟨IP, hIP⟩ : ∃ IP : Int, IP = ((infP E M : Nat) : Int) := ⟨_, rfl⟩
  have e0 : ((infP E M + sgn E M false : Nat) : Int) = IP := by rw [hIP]; simp [sgn]
  have H1 := inf_ret E M hf false
  rw [e0] at H1
  have H1 := hide H1
  obtain ⟨SB, hSB⟩ : ∃ SB : Int, SB = ((2 ^ (E + M) : Nat) : Int) := ⟨_, rfl⟩
  have H2 := signBit_ret E M hf
  rw [← hSB] at H2
  have H2 := hide H2
  have S1 := snd_inf E M false (by omega)
  rw [e0] at S1
  have S2 : Snd E M 1 := by
    have h1 : 1 < infP E M := by
      unfold infP
      have a1 := pow_le' 2 E (by omega)
      have a2 := pow_le' 2 M (by omega)
      have : 3 * 4 ≤ (2 ^ E - 1) * 2 ^ M := Nat.mul_le_mul (by omega) a2
      omega
    have := snd_fin E M 1 false (by omega) h1
    simpa [sgn] using this
  have S3 := up1 E M n hf hn hc
  rw [← hIP, ← hSB] at S3
  have S4 := dn1 E M n hf hn hc
  rw [← hSB] at S4
  have S1 := hide S1
  have S2 := hide S2
  have S3 := hide S3
  have S4 := hide S4
  clear e0 hIP hSB hc hn hf
  intro w K hK
  have HK := hide hK
  clear hK
  obtain ⟨wb, x0, hwb, r0, hB, hZ⟩ := boxes1 w #[.int .u8 E, .int .u8 M] 23
  have c00 : ∀ x : Later wb, _ = some (.int .u8 E : Value) := Later.cell r0 0 _ rfl
  have c01 : ∀ x : Later wb, _ = some (.int .u8 M : Value) := Later.cell r0 1 _ rfl
  have R0 := hide r0
  clear r0
  have hne : Nonempty (Later wb) := ⟨x0⟩
  go_enter Oaag.func406, Oaag.ntmps406
  go_wp2_with (first
    | (with_reducible refine Go.Proofs.YgcoaaGreat.NatW.at_later 85 ?_; refine Go.Proofs.YgcoaaGreat.NatW.Ret.run (unhide H1) _ ?_; rintro _ y__ rfl)
    | (with_reducible refine Go.Proofs.YgcoaaGreat.NatW.at_later 104 ?_; refine Go.Proofs.YgcoaaGreat.NatW.Ret.run (unhide H2) _ ?_; rintro _ y__ rfl))
  · refine unhide HK _ _ ⟨_, rfl, ?_⟩ (hB _)
    have h : ((n : Int) == IP) = true := by assumption
    have e : (n : Int) = IP := by simpa using h
    show Snd E M (n : Int)
    rw [e]
    exact unhide S1
  · exact unhide HK _ _ ⟨_, rfl, unhide S2⟩ (hB _)
  · exact unhide HK _ _ ⟨_, rfl, unhide S4 (by assumption)⟩ (hB _)
  · have h1 : ((n : Int) == IP) = false := by assumption
    have h2 : ((n : Int) == SB) = false := by assumption
    exact unhide HK _ _ ⟨_, rfl, unhide S3 (by simpa using h1) (by simpa using h2) (by assumption)⟩ (hB _)

theorem masked (E M : Nat) (hf : fok E M = true) (a : Int) (ha : U64 a) (hc : cls E M a.toNat ≠ 4) : ∃ n : Nat, bits .and .u64 a ((2 : Int) ^ (E + M + 1) - 1) = n ∧ n < 2 ^ (E + M + 1) ∧ cls E M n ≠ 4 := by
  obtain ⟨g1, g2, g3, g4⟩ := fok_bd hf
  obtain ⟨n, rfl, hn⟩ := ha.nat
  have hp := pow_le' (E + M + 1) 64 (by omega)
  have hp1 := Nat.one_le_two_pow (n := E + M + 1)
  have e64 : (2 : Nat) ^ 64 = 18446744073709551616 := by decide
  have e : bits .and .u64 (n : Int) ((2 : Int) ^ (E + M + 1) - 1) = ((n % 2 ^ (E + M + 1) : Nat) : Int) := by
    have h1 : (2 : Int) ^ (E + M + 1) - 1 = ((2 ^ (E + M + 1) - 1 : Nat) : Int) := by rw [pow_cast]; omega
    rw [h1, u64_and_nat _ _ (by omega) (by omega), and_mask]
  refine ⟨_, e, Nat.mod_lt n (Nat.two_pow_pos _), ?_⟩
  rw [nat_cls_mod]
  simpa using hc
theorem xor_pow (n k : Nat) (hn : n < 2 ^ k) : n ^^^ 2 ^ k = n + 2 ^ k := by
  rw [← or_pow n k hn]
  apply Nat.eq_of_testBit_eq
  intro i
  rw [Nat.testBit_xor, Nat.testBit_or, Nat.testBit_two_pow]
  by_cases h : k = i
  · subst h
    rw [Nat.testBit_lt_two_pow hn]; simp
  · simp [h]
theorem snd_xor (E M : Nat) (hf : fok E M = true) (x : Int) (hx : Snd E M x) (hn : x ≠ (nanP E M : Nat)) : Snd E M (bits .xor .u64 x ((2 : Int) ^ (E + M))) := by
  obtain ⟨g1, g2, g3, g4⟩ := fok_bd hf
  obtain ⟨n, rfl, h1, h2⟩ := hx
  have hc : cls E M n ≠ 4 := fun h => hn (by rw [h2 h])
  have hp := pow63 (E + M) (by omega)
  have hlt := infP_lt E M
  have e64 := pow_le' (E + M + 1) 64 (by omega)
  have e65 : (2 : Nat) ^ 64 = 18446744073709551616 := by decide
  rw [pow_cast, bits_xor_u64_nat _ _ (by omega) (by omega)]
  rcases not_nan E M n h1 hc with h | h
  · rw [xor_pow n _ (by omega)]
    have := snd_up E M n hf h true
    simpa [sgn] using this
  · obtain ⟨k, rfl⟩ : ∃ k, n = k + 2 ^ (E + M) := ⟨n - 2 ^ (E + M), by omega⟩
    have hk : k < 2 ^ (E + M) := by omega
    rw [← xor_pow k _ hk, Nat.xor_assoc, Nat.xor_self, Nat.xor_zero]
    have := snd_up E M k hf (by omega) false
    simpa [sgn] using this

set_option maxRecDepth 20000 in
set_option maxHeartbeats 2000000 in
theorem nextUpFlags_ret (E M : Nat) (hf : fok E M = true) (a : Int) (ha : U64 a) : Ret 314 #[fmt E M, .int .u64 a] (fun v => ∃ r f, v = .tuple #[.int .u64 r, .int .u8 f] ∧ Snd E M r) := by
  obtain ⟨g1, g2, g3, g4⟩ := fok_bd hf
  intro w K hK
  have HK := hide hK
  clear hK
  obtain ⟨wb, x0, hwb, r0, hB, hZ⟩ := boxes1 w #[.int .u8 E, .int .u8 M] 23
  have c00 : ∀ x : Later wb, _ = some (.int .u8 E : Value) := Later.cell r0 0 _ rfl
  have c01 : ∀ x : Later wb, _ = some (.int .u8 M : Value) := Later.cell r0 1 _ rfl
  have R0 := hide r0
  clear r0
  have hne : Nonempty (Later wb) := ⟨x0⟩
  go_enter Oaag.func314, Oaag.ntmps314
  go_wp2_with (first
    | (with_reducible refine Go.Proofs.YgcoaaGreat.NatW.at_later 67 ?_; refine Go.Proofs.YgcoaaGreat.NatW.Ret.run (fmtOk_ret E M hf) _ ?_; rintro _ y__ rfl)
    | (with_reducible refine Go.Proofs.YgcoaaGreat.NatW.at_later 45 ?_; refine Go.Proofs.YgcoaaGreat.NatW.Ret.run (nan_ret E M hf) _ ?_; rintro _ y__ rfl)
    | (with_reducible refine Go.Proofs.YgcoaaGreat.NatW.at_later 68 ?_; refine Go.Proofs.YgcoaaGreat.NatW.Ret.run (unpack_i E M hf a ha) _ ?_; rintro _ y__ ⟨xn, xc, xe, xm, rfl, xp, xq⟩; have XQ := hide xq; clear xp xq)
    | (
      with_reducible refine Go.Proofs.YgcoaaGreat.NatW.at_reg 4 ?_
      (repeat (first | (rewrite [Go.Proofs.YgcoaaGreat.NatW.frz_ite]; generalize Go.Proofs.YgcoaaGreat.NatW.frzI _ = x__) | (rewrite [Go.Proofs.YgcoaaGreat.NatW.frz_dec]; generalize Go.Proofs.YgcoaaGreat.NatW.frzB _ = x__) | (rewrite [Go.Proofs.YgcoaaGreat.NatW.frz_beq]; generalize Go.Proofs.YgcoaaGreat.NatW.frzB _ = x__) | (rewrite [Go.Proofs.YgcoaaGreat.NatW.frz_not]; generalize Go.Proofs.YgcoaaGreat.NatW.frzB _ = x__) | (rewrite [Go.Proofs.YgcoaaGreat.NatW.frz_and]; generalize Go.Proofs.YgcoaaGreat.NatW.frzB _ = x__) | (rewrite [Go.Proofs.YgcoaaGreat.NatW.frz_or]; generalize Go.Proofs.YgcoaaGreat.NatW.frzB _ = x__)))
      refine Go.Lax.region_calls _ 8 2 [(1, fun v => v = .int .u64 ((nanP E M : Nat) : Int)), (5, fun v => ∃ f, v = .int .u8 f)] (by kernel_rfl) (by kernel_rfl) (by kernel_rfl) (List.forall_mem_cons.2 ⟨⟨_, rfl⟩, List.forall_mem_cons.2 ⟨⟨_, 0, rfl⟩, fun _ h => by cases h⟩⟩) ?_
      iterate 1 (refine Go.Lax.walk_det rfl rfl rfl ?_; go_big_quiet_want; go_big_quiet_op; go_big_quiet_on; refine wpQuiet_nil ?_)
      refine Go.Lax.call_at rfl ?_ (fun y__ K__ hK__ => by (go_wp2_with fail; refine (nan_ret E M hf) _ _ ?_; intro v__ w__ hv__ hb__; have hh__ := Go.Proofs.YgcoaaGreat.NatW.hide (hK__ v__ w__ hv__ hb__); clear hK__ hv__; go_wp2_with fail; exact Eq.mp (by kernel_rfl) (Go.Proofs.YgcoaaGreat.NatW.unhide hh__)))
      rintro v rfl
      ((try dsimp only); go_big_quiet_want; go_big_quiet_op; go_big_quiet_on; refine wpQuiet_nil ?_)
      iterate 3 (refine Go.Lax.walk_det rfl rfl rfl ?_; go_big_quiet_want; go_big_quiet_op; go_big_quiet_on; refine wpQuiet_nil ?_)
      refine Go.Lax.call_at rfl ?_ (fun y__ K__ hK__ => by (go_wp2_with fail; refine (heard_ret E M hf a a ha ha) _ _ ?_; intro v__ w__ hv__ hb__; have hh__ := Go.Proofs.YgcoaaGreat.NatW.hide (hK__ v__ w__ hv__ hb__); clear hK__ hv__; go_wp2_with fail; exact Eq.mp (by kernel_rfl) (Go.Proofs.YgcoaaGreat.NatW.unhide hh__)))
      rintro v ⟨fl, rfl⟩
      ((try dsimp only); go_big_quiet_want; go_big_quiet_op; go_big_quiet_on; refine wpQuiet_nil ?_)
      iterate 2 (refine Go.Lax.walk_det rfl rfl rfl ?_; go_big_quiet_want; go_big_quiet_op; go_big_quiet_on; refine wpQuiet_nil ?_)
      refine Go.Lax.end_at ?_
      intro y)
    | (
      with_reducible refine Go.Proofs.YgcoaaGreat.NatW.at_reg 5 ?_
      have hxc : (xc == 4) = false := by assumption
      obtain ⟨n, hn0, hn1, hn2⟩ := masked E M hf a ha (by rw [← unhide XQ]; simpa using hxc)
      have HN1 := hide hn1
      (repeat (first | (rewrite [Go.Proofs.YgcoaaGreat.NatW.frz_ite]; generalize Go.Proofs.YgcoaaGreat.NatW.frzI _ = x__) | (rewrite [Go.Proofs.YgcoaaGreat.NatW.frz_dec]; generalize Go.Proofs.YgcoaaGreat.NatW.frzB _ = x__) | (rewrite [Go.Proofs.YgcoaaGreat.NatW.frz_beq]; generalize Go.Proofs.YgcoaaGreat.NatW.frzB _ = x__) | (rewrite [Go.Proofs.YgcoaaGreat.NatW.frz_not]; generalize Go.Proofs.YgcoaaGreat.NatW.frzB _ = x__) | (rewrite [Go.Proofs.YgcoaaGreat.NatW.frz_and]; generalize Go.Proofs.YgcoaaGreat.NatW.frzB _ = x__) | (rewrite [Go.Proofs.YgcoaaGreat.NatW.frz_or]; generalize Go.Proofs.YgcoaaGreat.NatW.frzB _ = x__)))
      refine Go.Lax.region_calls _ 8 2 [(3, fun v => v = .int .u64 (((2 ^ (E + M + 1) : Nat) : Int) - 1)), (5, fun v => ∃ r, v = .int .u64 r ∧ Snd E M r)] (by kernel_rfl) (by kernel_rfl) (by kernel_rfl) (List.forall_mem_cons.2 ⟨⟨_, rfl⟩, List.forall_mem_cons.2 ⟨⟨_, _, rfl, snd_nan E M (by omega)⟩, fun _ h => by cases h⟩⟩) ?_
      iterate 3 (refine Go.Lax.walk_det rfl rfl rfl ?_; go_big_quiet_want; go_big_quiet_op; go_big_quiet_on; refine wpQuiet_nil ?_)
      refine Go.Lax.call_at rfl ?_ (fun y__ K__ hK__ => by (go_wp2_with fail; refine (mask_ret E M hf) _ _ ?_; intro v__ w__ hv__ hb__; have hh__ := Go.Proofs.YgcoaaGreat.NatW.hide (hK__ v__ w__ hv__ hb__); clear hK__ hv__; go_wp2_with fail; exact Eq.mp (by kernel_rfl) (Go.Proofs.YgcoaaGreat.NatW.unhide hh__)))
      rintro v rfl
      ((try dsimp only); go_big_quiet_want; go_big_quiet_op; go_big_quiet_on; refine wpQuiet_nil ?_)
      iterate 1 (refine Go.Lax.walk_det rfl rfl rfl ?_; go_big_quiet_want; go_big_quiet_op; go_big_quiet_on; refine wpQuiet_nil ?_)
      refine Go.Lax.call_at rfl ?_ (fun y__ K__ hK__ => by (go_wp2_with fail; refine (nextUp_ret E M hf n hn1 hn2) _ _ ?_; intro v__ w__ hv__ hb__; have hh__ := Go.Proofs.YgcoaaGreat.NatW.hide (hK__ v__ w__ hv__ hb__); clear hK__ hv__; go_wp2_with fail; exact Eq.mp (by kernel_rfl) (Go.Proofs.YgcoaaGreat.NatW.unhide hh__)))
      rintro v ⟨r9, rfl, hr9⟩
      ((try dsimp only); go_big_quiet_want; go_big_quiet_op; go_big_quiet_on; refine wpQuiet_nil ?_)
      iterate 2 (refine Go.Lax.walk_det rfl rfl rfl ?_; go_big_quiet_want; go_big_quiet_op; go_big_quiet_on; refine wpQuiet_nil ?_)
      refine Go.Lax.end_at ?_
      intro y))
  all_goals first
    | exact unhide HK _ _ ⟨_, _, rfl, by assumption⟩ (hB _)
    | exact unhide HK _ _ ⟨_, _, rfl, snd_nan E M (by omega)⟩ (hB _)
    | exact unhide HK _ _ ⟨_, _, rfl, snd_zero E M _ (by omega)⟩ (hB _)
    | exact unhide HK _ _ ⟨_, _, rfl, snd_inf E M _ (by omega)⟩ (hB _)
    | skip

set_option maxRecDepth 20000 in
set_option maxHeartbeats 2000000 in
theorem nextDownFlags_ret (E M : Nat) (hf : fok E M = true) (a : Int) (ha : U64 a) : Ret 315 #[fmt E M, .int .u64 a] (fun v => ∃ r f, v = .tuple #[.int .u64 r, .int .u8 f] ∧ Snd E M r) := by
  obtain ⟨g1, g2, g3, g4⟩ := fok_bd hf
  intro w K hK
  have HK := hide hK
  clear hK
  obtain ⟨wb, x0, hwb, r0, hB, hZ⟩ := boxes1 w #[.int .u8 E, .int .u8 M] 23
  have c00 : ∀ x : Later wb, _ = some (.int .u8 E : Value) := Later.cell r0 0 _ rfl
  have c01 : ∀ x : Later wb, _ = some (.int .u8 M : Value) := Later.cell r0 1 _ rfl
  have R0 := hide r0
  clear r0
  have hne : Nonempty (Later wb) := ⟨x0⟩
  go_enter Oaag.func315, Oaag.ntmps315
  go_wp2_with (first
    | (with_reducible refine Go.Proofs.YgcoaaGreat.NatW.at_later 67 ?_; refine Go.Proofs.YgcoaaGreat.NatW.Ret.run (fmtOk_ret E M hf) _ ?_; rintro _ y__ rfl)
    | (with_reducible refine Go.Proofs.YgcoaaGreat.NatW.at_later 45 ?_; refine Go.Proofs.YgcoaaGreat.NatW.Ret.run (nan_ret E M hf) _ ?_; rintro _ y__ rfl)
    | (with_reducible refine Go.Proofs.YgcoaaGreat.NatW.at_later 104 ?_; refine Go.Proofs.YgcoaaGreat.NatW.Ret.run (signBit_ret E M hf) _ ?_; rintro _ y__ rfl)
    | (
      with_reducible refine Go.Proofs.YgcoaaGreat.NatW.at_reg 1 ?_
      (repeat (first | (rewrite [Go.Proofs.YgcoaaGreat.NatW.frz_ite]; generalize Go.Proofs.YgcoaaGreat.NatW.frzI _ = x__) | (rewrite [Go.Proofs.YgcoaaGreat.NatW.frz_dec]; generalize Go.Proofs.YgcoaaGreat.NatW.frzB _ = x__) | (rewrite [Go.Proofs.YgcoaaGreat.NatW.frz_beq]; generalize Go.Proofs.YgcoaaGreat.NatW.frzB _ = x__) | (rewrite [Go.Proofs.YgcoaaGreat.NatW.frz_not]; generalize Go.Proofs.YgcoaaGreat.NatW.frzB _ = x__) | (rewrite [Go.Proofs.YgcoaaGreat.NatW.frz_and]; generalize Go.Proofs.YgcoaaGreat.NatW.frzB _ = x__) | (rewrite [Go.Proofs.YgcoaaGreat.NatW.frz_or]; generalize Go.Proofs.YgcoaaGreat.NatW.frzB _ = x__)))
      refine Go.Lax.region_calls _ 11 2 [(3, fun v => v = .int .u64 ((2 ^ (E + M) : Nat) : Int)), (5, fun v => ∃ r f, v = .tuple #[.int .u64 r, .int .u8 f] ∧ Snd E M r)] (by kernel_rfl) (by kernel_rfl) (by kernel_rfl) (List.forall_mem_cons.2 ⟨⟨_, rfl⟩, List.forall_mem_cons.2 ⟨(roundPack_ret E M hf 0 false 0 0 (by omega) (by omega) (by (first | assumption | exact U64.wrap _ | exact U64.bits _ _ _ | exact U64.div (by first | assumption | exact U64.wrap _ | exact U64.bits _ _ _ | exact U64.div (by first | assumption | exact U64.wrap _ | exact U64.bits _ _ _ | exact U64.lit (by omega) (by omega)) _ | exact U64.ediv (by first | assumption | exact U64.wrap _ | exact U64.bits _ _ _ | exact U64.lit (by omega) (by omega)) _ (by omega) | exact U64.lit (by omega) (by omega) | exact U64.one _ (by first | assumption | exact U64.wrap _ | exact U64.bits _ _ _ | exact U64.lit (by omega) (by omega)) (by first | assumption | exact U64.wrap _ | exact U64.bits _ _ _ | exact U64.lit (by omega) (by omega))) _ | exact U64.ediv (by first | assumption | exact U64.wrap _ | exact U64.bits _ _ _ | exact U64.div (by first | assumption | exact U64.wrap _ | exact U64.bits _ _ _ | exact U64.lit (by omega) (by omega)) _ | exact U64.ediv (by first | assumption | exact U64.wrap _ | exact U64.bits _ _ _ | exact U64.lit (by omega) (by omega)) _ (by omega) | exact U64.lit (by omega) (by omega) | exact U64.one _ (by first | assumption | exact U64.wrap _ | exact U64.bits _ _ _ | exact U64.lit (by omega) (by omega)) (by first | assumption | exact U64.wrap _ | exact U64.bits _ _ _ | exact U64.lit (by omega) (by omega))) _ (by omega) | exact U64.lit (by omega) (by omega) | exact U64.one _ (by first | assumption | exact U64.wrap _ | exact U64.bits _ _ _ | exact U64.div (by first | assumption | exact U64.wrap _ | exact U64.bits _ _ _ | exact U64.lit (by omega) (by omega)) _ | exact U64.ediv (by first | assumption | exact U64.wrap _ | exact U64.bits _ _ _ | exact U64.lit (by omega) (by omega)) _ (by omega) | exact U64.lit (by omega) (by omega) | exact U64.one _ (by first | assumption | exact U64.wrap _ | exact U64.bits _ _ _ | exact U64.lit (by omega) (by omega)) (by first | assumption | exact U64.wrap _ | exact U64.bits _ _ _ | exact U64.lit (by omega) (by omega))) (by first | assumption | exact U64.wrap _ | exact U64.bits _ _ _ | exact U64.div (by first | assumption | exact U64.wrap _ | exact U64.bits _ _ _ | exact U64.lit (by omega) (by omega)) _ | exact U64.ediv (by first | assumption | exact U64.wrap _ | exact U64.bits _ _ _ | exact U64.lit (by omega) (by omega)) _ (by omega) | exact U64.lit (by omega) (by omega) | exact U64.one _ (by first | assumption | exact U64.wrap _ | exact U64.bits _ _ _ | exact U64.lit (by omega) (by omega)) (by first | assumption | exact U64.wrap _ | exact U64.bits _ _ _ | exact U64.lit (by omega) (by omega)))))).ex, fun _ h => by cases h⟩⟩) ?_
      iterate 3 (refine Go.Lax.walk_det rfl rfl rfl ?_; go_big_quiet_want; go_big_quiet_op; go_big_quiet_on; refine wpQuiet_nil ?_)
      refine Go.Lax.call_at rfl ?_ (fun y__ K__ hK__ => by (go_wp2_with fail; refine (signBit_ret E M hf) _ _ ?_; intro v__ w__ hv__ hb__; have hh__ := Go.Proofs.YgcoaaGreat.NatW.hide (hK__ v__ w__ hv__ hb__); clear hK__ hv__; go_wp2_with fail; exact Eq.mp (by kernel_rfl) (Go.Proofs.YgcoaaGreat.NatW.unhide hh__)))
      rintro v rfl
      ((try dsimp only); go_big_quiet_want; go_big_quiet_op; go_big_quiet_on; refine wpQuiet_nil ?_)
      iterate 1 (refine Go.Lax.walk_det rfl rfl rfl ?_; go_big_quiet_want; go_big_quiet_op; go_big_quiet_on; refine wpQuiet_nil ?_)
      refine Go.Lax.call_at rfl ?_ (fun y__ K__ hK__ => by (go_wp2_with fail; refine (nextUpFlags_ret E M hf _ (by (first | assumption | exact U64.wrap _ | exact U64.bits _ _ _ | exact U64.div (by first | assumption | exact U64.wrap _ | exact U64.bits _ _ _ | exact U64.div (by first | assumption | exact U64.wrap _ | exact U64.bits _ _ _ | exact U64.lit (by omega) (by omega)) _ | exact U64.ediv (by first | assumption | exact U64.wrap _ | exact U64.bits _ _ _ | exact U64.lit (by omega) (by omega)) _ (by omega) | exact U64.lit (by omega) (by omega) | exact U64.one _ (by first | assumption | exact U64.wrap _ | exact U64.bits _ _ _ | exact U64.lit (by omega) (by omega)) (by first | assumption | exact U64.wrap _ | exact U64.bits _ _ _ | exact U64.lit (by omega) (by omega))) _ | exact U64.ediv (by first | assumption | exact U64.wrap _ | exact U64.bits _ _ _ | exact U64.div (by first | assumption | exact U64.wrap _ | exact U64.bits _ _ _ | exact U64.lit (by omega) (by omega)) _ | exact U64.ediv (by first | assumption | exact U64.wrap _ | exact U64.bits _ _ _ | exact U64.lit (by omega) (by omega)) _ (by omega) | exact U64.lit (by omega) (by omega) | exact U64.one _ (by first | assumption | exact U64.wrap _ | exact U64.bits _ _ _ | exact U64.lit (by omega) (by omega)) (by first | assumption | exact U64.wrap _ | exact U64.bits _ _ _ | exact U64.lit (by omega) (by omega))) _ (by omega) | exact U64.lit (by omega) (by omega) | exact U64.one _ (by first | assumption | exact U64.wrap _ | exact U64.bits _ _ _ | exact U64.div (by first | assumption | exact U64.wrap _ | exact U64.bits _ _ _ | exact U64.lit (by omega) (by omega)) _ | exact U64.ediv (by first | assumption | exact U64.wrap _ | exact U64.bits _ _ _ | exact U64.lit (by omega) (by omega)) _ (by omega) | exact U64.lit (by omega) (by omega) | exact U64.one _ (by first | assumption | exact U64.wrap _ | exact U64.bits _ _ _ | exact U64.lit (by omega) (by omega)) (by first | assumption | exact U64.wrap _ | exact U64.bits _ _ _ | exact U64.lit (by omega) (by omega))) (by first | assumption | exact U64.wrap _ | exact U64.bits _ _ _ | exact U64.div (by first | assumption | exact U64.wrap _ | exact U64.bits _ _ _ | exact U64.lit (by omega) (by omega)) _ | exact U64.ediv (by first | assumption | exact U64.wrap _ | exact U64.bits _ _ _ | exact U64.lit (by omega) (by omega)) _ (by omega) | exact U64.lit (by omega) (by omega) | exact U64.one _ (by first | assumption | exact U64.wrap _ | exact U64.bits _ _ _ | exact U64.lit (by omega) (by omega)) (by first | assumption | exact U64.wrap _ | exact U64.bits _ _ _ | exact U64.lit (by omega) (by omega)))))) _ _ ?_; intro v__ w__ hv__ hb__; have hh__ := Go.Proofs.YgcoaaGreat.NatW.hide (hK__ v__ w__ hv__ hb__); clear hK__ hv__; go_wp2_with fail; exact Eq.mp (by kernel_rfl) (Go.Proofs.YgcoaaGreat.NatW.unhide hh__)))
      rintro v ⟨r9, f9, rfl, hr9⟩
      ((try dsimp only); go_big_quiet_want; go_big_quiet_op; go_big_quiet_on; refine wpQuiet_nil ?_)
      iterate 5 (refine Go.Lax.walk_det rfl rfl rfl ?_; go_big_quiet_want; go_big_quiet_op; go_big_quiet_on; refine wpQuiet_nil ?_)
      refine Go.Lax.end_at ?_
      intro y))
  all_goals first
    | exact unhide HK _ _ ⟨_, _, rfl, by assumption⟩ (hB _)
    | (have hh : (r9 != ((nanP E M : Nat) : Int)) = true := by assumption
       exact unhide HK _ _ ⟨_, _, rfl, snd_xor E M hf r9 hr9 (by simpa using hh)⟩ (hB _))
    | skip

set_option maxRecDepth 20000 in
set_option maxHeartbeats 2000000 in
theorem nextUp_ret1 (E M : Nat) (hf : fok E M = true) (a : Int) (ha : U64 a) : Ret 262 #[fmt E M, .int .u64 a] (fun v => ∃ r, v = .int .u64 r ∧ Snd E M r) := by
  obtain ⟨g1, g2, g3, g4⟩ := fok_bd hf
  intro w K hK
  have HK := hide hK
  clear hK
  obtain ⟨wb, x0, hwb, r0, hB, hZ⟩ := boxes1 w #[.int .u8 E, .int .u8 M] 23
  have c00 : ∀ x : Later wb, _ = some (.int .u8 E : Value) := Later.cell r0 0 _ rfl
  have c01 : ∀ x : Later wb, _ = some (.int .u8 M : Value) := Later.cell r0 1 _ rfl
  have R0 := hide r0
  clear r0
  have hne : Nonempty (Later wb) := ⟨x0⟩
  go_enter Oaag.func262, Oaag.ntmps262
  go_wp2_with (first
    | (with_reducible refine Go.Proofs.YgcoaaGreat.NatW.at_later 314 ?_; refine Go.Proofs.YgcoaaGreat.NatW.Ret.run (nextUpFlags_ret E M hf a ha) _ ?_; rintro _ y__ ⟨rr, ff, rfl, hrr⟩))
  all_goals first | exact unhide HK _ _ ⟨_, rfl, by assumption⟩ (hB _) | skip

set_option maxRecDepth 20000 in
set_option maxHeartbeats 2000000 in
theorem nextDown_ret1 (E M : Nat) (hf : fok E M = true) (a : Int) (ha : U64 a) : Ret 263 #[fmt E M, .int .u64 a] (fun v => ∃ r, v = .int .u64 r ∧ Snd E M r) := by
  obtain ⟨g1, g2, g3, g4⟩ := fok_bd hf
  intro w K hK
  have HK := hide hK
  clear hK
  obtain ⟨wb, x0, hwb, r0, hB, hZ⟩ := boxes1 w #[.int .u8 E, .int .u8 M] 23
  have c00 : ∀ x : Later wb, _ = some (.int .u8 E : Value) := Later.cell r0 0 _ rfl
  have c01 : ∀ x : Later wb, _ = some (.int .u8 M : Value) := Later.cell r0 1 _ rfl
  have R0 := hide r0
  clear r0
  have hne : Nonempty (Later wb) := ⟨x0⟩
  go_enter Oaag.func263, Oaag.ntmps263
  go_wp2_with (first
    | (with_reducible refine Go.Proofs.YgcoaaGreat.NatW.at_later 315 ?_; refine Go.Proofs.YgcoaaGreat.NatW.Ret.run (nextDownFlags_ret E M hf a ha) _ ?_; rintro _ y__ ⟨rr, ff, rfl, hrr⟩))
  all_goals first | exact unhide HK _ _ ⟨_, rfl, by assumption⟩ (hB _) | skip


end Go.Proofs.YgcoaaGreat.NatW
