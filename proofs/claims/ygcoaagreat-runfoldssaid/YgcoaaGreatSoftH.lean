/-
  Package soft: roundPack.
-/
import Derived.Test.YgcoaaGreatSoftB
import Derived.Test.YgcoaaGreatSoftD
set_option linter.unusedVariables false
set_option linter.unusedSimpArgs false
namespace Go.Proofs.YgcoaaGreat.NatW
attribute [local go_sem] Go.Instr.field Go.asAgg
open Go.RowKit
open Go.Proofs.YgcoaaGreat.Limbs Go.Proofs.YgcoaaGreat.Bits

theorem snd_or (E M : Nat) (hf : fok E M = true) (neg : Bool) (x : Int) (ux : U64 x) (hx : x < (infP E M : Nat)) : Snd E M (bits .or .u64 x ((sgn E M neg : Nat) : Int)) := by
  obtain ⟨g1, g2, g3, g4⟩ := fok_bd hf
  obtain ⟨n, rfl, hn⟩ := ux.nat
  have h1 : n < infP E M := by omega
  have h2 := infP_lt E M
  have h3 := pow63 (E + M) (by omega)
  have h4 : sgn E M neg ≤ 9223372036854775808 := by rcases sgn_or E M neg with h | h <;> rw [h] <;> omega
  rw [u64_or_nat _ _ (by omega) (by omega)]
  have h5 : n ||| sgn E M neg = n + sgn E M neg := by
    rcases sgn_or E M neg with h | h <;> rw [h]
    · simp
    · exact or_pow n _ (by omega)
  rw [h5]
  exact snd_fin E M n neg (by omega) h1

theorem bias_bd (E M : Nat) (hf : fok E M = true) : ∃ B : Int, 1 ≤ B ∧ B ≤ 1023 ∧ Ret 117 #[fmt E M] (fun u => u = .int .i16 B) := by
  obtain ⟨g1, g2, g3, g4⟩ := fok_bd hf
  refine ⟨_, ?_, ?_, bias_ret E M hf⟩
  · have := pow_le' 1 (E - 1) (by omega)
    omega
  · have := pow_le' (E - 1) 10 (by omega)
    have e : (2 : Nat) ^ 10 = 1024 := by decide
    omega

set_option maxRecDepth 20000 in
set_option maxHeartbeats 4000000 in
theorem roundPack_ret (E M : Nat) (hf : fok E M = true) (m : Int) (neg : Bool) (x s : Int) (hx0 : -25000 ≤ x) (hx1 : x ≤ 25000) (hs : U64 s) : Ret 340 #[fmt E M, .int .u8 m, .bool neg, .int .i16 x, .int .u64 s] (fun v => ∃ r f, v = .tuple #[.int .u64 r, .int .u8 f] ∧ Snd E M r) := by
  obtain ⟨g1, g2, g3, g4⟩ := fok_bd hf
  have H1 := hide (fun n => zero_ret E M hf n)
  obtain ⟨B, hB0, hB1, hb⟩ := bias_bd E M hf
  have H2 := hide hb
  have H3 := hide (fun m n => overflow_ret E M hf m n)
  have H4 := inf_ret E M hf false
  obtain ⟨IP, hIP⟩ : ∃ IP : Int, IP = ((infP E M : Nat) : Int) := ⟨_, rfl⟩
  have e0 : ((infP E M + sgn E M false : Nat) : Int) = IP := by rw [hIP]; simp [sgn]
  rw [e0] at H4
  have H4 := hide H4
  have S0 := hide (fun n => snd_zero E M n (by omega))
  have S1 : ∀ (n : Bool) (x : Int), U64 x → x < IP → Snd E M (bits .or .u64 x ((sgn E M n : Nat) : Int)) := fun n x ux hx => snd_or E M hf n x ux (by rw [← hIP]; exact hx)
  have S1 := hide S1
  clear hf hb hIP e0
  intro w K hK
  have HK := hide hK
  clear hK
  obtain ⟨wb, x0, hwb, r0, hB, hZ⟩ := boxes1 w #[.int .u8 E, .int .u8 M] 23
  have c00 : ∀ x : Later wb, _ = some (.int .u8 E : Value) := Later.cell r0 0 _ rfl
  have c01 : ∀ x : Later wb, _ = some (.int .u8 M : Value) := Later.cell r0 1 _ rfl
  have R0 := hide r0
  clear r0
  have hne : Nonempty (Later wb) := ⟨x0⟩
  go_enter Oaag.func340, Oaag.ntmps340
  go_wp2_with (first
    | go_at_call 373; refine Go.Proofs.YgcoaaGreat.NatW.Ret.run (unhide H1 _) _ ?_; rintro _ y__ rfl
    | (go_at_call 194; refine Go.Proofs.YgcoaaGreat.NatW.Ret.run (clz_ret s hs) _ ?_; rintro _ y__ ⟨l, rfl, l0, l1, hl⟩; clear hl; rcases Int.lt_or_le (x - l + 63) (1 - B) with hq | hq)
    | go_at_call 117; refine Go.Proofs.YgcoaaGreat.NatW.Ret.run (unhide H2) _ ?_; rintro _ y__ rfl
    | go_at_call 412; refine Go.Proofs.YgcoaaGreat.NatW.Ret.run (unhide H3 _ _) _ ?_; rintro _ y__ ⟨r, f, rfl, hr⟩
    | (go_at_call 399; refine Go.Proofs.YgcoaaGreat.NatW.Ret.run (cut_ret _ _ (by (first | assumption | exact U64.wrap _ | exact U64.bits _ _ _ | exact U64.div (by first | assumption | exact U64.wrap _ | exact U64.bits _ _ _ | exact U64.div (by first | assumption | exact U64.wrap _ | exact U64.bits _ _ _ | exact U64.lit (by omega) (by omega)) _ | exact U64.ediv (by first | assumption | exact U64.wrap _ | exact U64.bits _ _ _ | exact U64.lit (by omega) (by omega)) _ (by omega) | exact U64.lit (by omega) (by omega) | exact U64.one _ (by first | assumption | exact U64.wrap _ | exact U64.bits _ _ _ | exact U64.lit (by omega) (by omega)) (by first | assumption | exact U64.wrap _ | exact U64.bits _ _ _ | exact U64.lit (by omega) (by omega))) _ | exact U64.ediv (by first | assumption | exact U64.wrap _ | exact U64.bits _ _ _ | exact U64.div (by first | assumption | exact U64.wrap _ | exact U64.bits _ _ _ | exact U64.lit (by omega) (by omega)) _ | exact U64.ediv (by first | assumption | exact U64.wrap _ | exact U64.bits _ _ _ | exact U64.lit (by omega) (by omega)) _ (by omega) | exact U64.lit (by omega) (by omega) | exact U64.one _ (by first | assumption | exact U64.wrap _ | exact U64.bits _ _ _ | exact U64.lit (by omega) (by omega)) (by first | assumption | exact U64.wrap _ | exact U64.bits _ _ _ | exact U64.lit (by omega) (by omega))) _ (by omega) | exact U64.lit (by omega) (by omega) | exact U64.one _ (by first | assumption | exact U64.wrap _ | exact U64.bits _ _ _ | exact U64.div (by first | assumption | exact U64.wrap _ | exact U64.bits _ _ _ | exact U64.lit (by omega) (by omega)) _ | exact U64.ediv (by first | assumption | exact U64.wrap _ | exact U64.bits _ _ _ | exact U64.lit (by omega) (by omega)) _ (by omega) | exact U64.lit (by omega) (by omega) | exact U64.one _ (by first | assumption | exact U64.wrap _ | exact U64.bits _ _ _ | exact U64.lit (by omega) (by omega)) (by first | assumption | exact U64.wrap _ | exact U64.bits _ _ _ | exact U64.lit (by omega) (by omega))) (by first | assumption | exact U64.wrap _ | exact U64.bits _ _ _ | exact U64.div (by first | assumption | exact U64.wrap _ | exact U64.bits _ _ _ | exact U64.lit (by omega) (by omega)) _ | exact U64.ediv (by first | assumption | exact U64.wrap _ | exact U64.bits _ _ _ | exact U64.lit (by omega) (by omega)) _ (by omega) | exact U64.lit (by omega) (by omega) | exact U64.one _ (by first | assumption | exact U64.wrap _ | exact U64.bits _ _ _ | exact U64.lit (by omega) (by omega)) (by first | assumption | exact U64.wrap _ | exact U64.bits _ _ _ | exact U64.lit (by omega) (by omega))))) (by omega) (by omega)) _ ?_; rintro _ y__ ⟨n, r, rfl, un, ur⟩)
    | (go_at_call 400; refine Go.Proofs.YgcoaaGreat.NatW.Ret.run (raises_ret _ _ _ _) _ ?_; rintro _ y__ ⟨b, rfl⟩)
    | go_at_call 85; refine Go.Proofs.YgcoaaGreat.NatW.Ret.run (unhide H4) _ ?_; rintro _ y__ rfl)
  all_goals first
    | exact unhide HK _ _ ⟨_, _, rfl, by assumption⟩ (hB _)
    | exact unhide HK _ _ ⟨_, _, rfl, unhide S0 _⟩ (hB _)
    | exact unhide HK _ _ ⟨_, _, rfl, unhide S1 _ _ (by (first | assumption | exact U64.wrap _ | exact U64.bits _ _ _ | exact U64.div (by first | assumption | exact U64.wrap _ | exact U64.bits _ _ _ | exact U64.div (by first | assumption | exact U64.wrap _ | exact U64.bits _ _ _ | exact U64.lit (by omega) (by omega)) _ | exact U64.ediv (by first | assumption | exact U64.wrap _ | exact U64.bits _ _ _ | exact U64.lit (by omega) (by omega)) _ (by omega) | exact U64.lit (by omega) (by omega) | exact U64.one _ (by first | assumption | exact U64.wrap _ | exact U64.bits _ _ _ | exact U64.lit (by omega) (by omega)) (by first | assumption | exact U64.wrap _ | exact U64.bits _ _ _ | exact U64.lit (by omega) (by omega))) _ | exact U64.ediv (by first | assumption | exact U64.wrap _ | exact U64.bits _ _ _ | exact U64.div (by first | assumption | exact U64.wrap _ | exact U64.bits _ _ _ | exact U64.lit (by omega) (by omega)) _ | exact U64.ediv (by first | assumption | exact U64.wrap _ | exact U64.bits _ _ _ | exact U64.lit (by omega) (by omega)) _ (by omega) | exact U64.lit (by omega) (by omega) | exact U64.one _ (by first | assumption | exact U64.wrap _ | exact U64.bits _ _ _ | exact U64.lit (by omega) (by omega)) (by first | assumption | exact U64.wrap _ | exact U64.bits _ _ _ | exact U64.lit (by omega) (by omega))) _ (by omega) | exact U64.lit (by omega) (by omega) | exact U64.one _ (by first | assumption | exact U64.wrap _ | exact U64.bits _ _ _ | exact U64.div (by first | assumption | exact U64.wrap _ | exact U64.bits _ _ _ | exact U64.lit (by omega) (by omega)) _ | exact U64.ediv (by first | assumption | exact U64.wrap _ | exact U64.bits _ _ _ | exact U64.lit (by omega) (by omega)) _ (by omega) | exact U64.lit (by omega) (by omega) | exact U64.one _ (by first | assumption | exact U64.wrap _ | exact U64.bits _ _ _ | exact U64.lit (by omega) (by omega)) (by first | assumption | exact U64.wrap _ | exact U64.bits _ _ _ | exact U64.lit (by omega) (by omega))) (by first | assumption | exact U64.wrap _ | exact U64.bits _ _ _ | exact U64.div (by first | assumption | exact U64.wrap _ | exact U64.bits _ _ _ | exact U64.lit (by omega) (by omega)) _ | exact U64.ediv (by first | assumption | exact U64.wrap _ | exact U64.bits _ _ _ | exact U64.lit (by omega) (by omega)) _ (by omega) | exact U64.lit (by omega) (by omega) | exact U64.one _ (by first | assumption | exact U64.wrap _ | exact U64.bits _ _ _ | exact U64.lit (by omega) (by omega)) (by first | assumption | exact U64.wrap _ | exact U64.bits _ _ _ | exact U64.lit (by omega) (by omega))))) (by assumption)⟩ (hB _)
    | skip


end Go.Proofs.YgcoaaGreat.NatW
