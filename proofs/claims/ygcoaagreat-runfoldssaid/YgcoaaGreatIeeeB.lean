/-
  Package ieee, on: signed, Inf, MaxFinite, TheNaN.
-/
import Derived.Test.YgcoaaGreatIeee
import Derived.Laws.BitsAllLaws
set_option linter.unusedVariables false
set_option linter.unusedSimpArgs false
namespace Go.Proofs.YgcoaaGreat.NatW
open Go.RowKit
open Go.Proofs.YgcoaaGreat.Limbs

theorem pow63 (k : Nat) (h : k ≤ 63) : 2 ^ k ≤ 9223372036854775808 := by simpa using pow_le' k 63 h

theorem or_pow (x k : Nat) (hx : x < 2 ^ k) : x ||| 2 ^ k = x + 2 ^ k := by
  have := Nat.two_pow_add_eq_or_of_lt hx 1
  rw [Nat.mul_one] at this
  rw [Nat.or_comm, ← this, Nat.add_comm]

def sgn (E M : Nat) (neg : Bool) : Nat := if neg then 2 ^ (E + M) else 0

set_option maxRecDepth 20000 in
set_option maxHeartbeats 1000000 in
theorem signed_is (E M : Nat) (hf : fok E M = true) (neg : Bool) (x : Nat) (hx : x < 2 ^ (E + M)) (w : World) :
    Calls Oaag.prog 158 #[.agg #[.int .u8 E, .int .u8 M], .bool neg, .int .u64 x] w fun e w' => e = .returned (.int .u64 ((x + sgn E M neg : Nat) : Int)) ∧ Below w.heap.size w w' := by
  obtain ⟨g1, g2, g3, g4⟩ := fok_bd hf
  have HS := hide (signBit_is E M hf)
  have HX := hide hx
  clear hf hx
  cases neg
  · go_enter Oaag.func158, Oaag.ntmps158
    go_wp2
    go_ret
    exact ⟨by simp [sgn], (Below.refl _ _).alloc (Nat.le_refl _) _⟩
  · go_enter Oaag.func158, Oaag.ntmps158
    go_wp2_with fail
    refine (unhide HS _).mono ?_
    rintro e w1 ⟨rfl, hb⟩
    have hb1 : Below w.heap.size w w1 := ((Below.refl _ _).alloc (Nat.le_refl _) _).trans (hb.mono (by simp))
    clear hb
    go_wp2
    go_ret
    refine ⟨ret_int ?_, hb1⟩
    have hx := unhide HX
    have hp := pow63 (E + M) (by omega)
    rw [pow_cast, u64_or_nat x _ (by omega) (by omega), or_pow x _ hx]
    simp [sgn]

/-- The pattern of the infinity, its sign left out. -/
def infP (E M : Nat) : Nat := (2 ^ E - 1) * 2 ^ M
theorem infP_lt (E M : Nat) : infP E M < 2 ^ (E + M) := by
  unfold infP
  rw [Nat.pow_add]
  exact Nat.mul_lt_mul_of_pos_right (by have := Nat.one_le_two_pow (n := E); omega) (Nat.two_pow_pos M)

set_option maxRecDepth 20000 in
set_option maxHeartbeats 1000000 in
theorem inf_is (E M : Nat) (hf : fok E M = true) (neg : Bool) : OneNeg 85 E M neg ((infP E M + sgn E M neg : Nat) : Int) := by
  obtain ⟨g1, g2, g3, g4⟩ := fok_bd hf
  have hr := signed_is E M hf neg (infP E M) (infP_lt E M)
  have hv : IntKind.u64.wrap (IntKind.u64.wrap (IntKind.u64.wrap ((2 : Int) ^ E) - 1) * 2 ^ M) = (infP E M : Nat) := by
    have h1 := infP_lt E M
    have h2 := pow63 (E + M) (by omega)
    have h3 := Nat.one_le_two_pow (n := E)
    have h4 := pow63 E (by omega)
    rw [wrap_pow E (by omega)]
    have e1 : ((2 ^ E : Nat) : Int) - 1 = ((2 ^ E - 1 : Nat) : Int) := by omega
    have e2 : IntKind.u64.wrap ((2 ^ E - 1 : Nat) : Int) = ((2 ^ E - 1 : Nat) : Int) := wrap_u (by omega) (by omega)
    rw [e1, e2, pow_cast, ← Int.natCast_mul]
    exact wrap_u (by omega) (by unfold infP at h1; omega)
  have hk := fun w => fmtOk_yes E M hf w
  have HK := hide hk
  have HR := hide hr
  have HV := hide hv
  clear hk hf hr hv
  intro w
  go_enter Oaag.func85, Oaag.ntmps85
  go_wp2_with fail
  refine (unhide HK _).mono ?_
  rintro e w1 ⟨rfl, hb⟩
  obtain ⟨c0, c1⟩ := box_now w w1 (.int .u8 E) (.int .u8 M) 23 (by simpa using hb)
  have hb1 : Below w.heap.size w w1 := ((Below.refl _ _).alloc (Nat.le_refl _) _).trans (hb.mono (by simp))
  have hz1 := hb1.size
  go_wp2_with fail
  rw [unhide HV]
  refine (unhide HR _).mono ?_
  rintro e w2 ⟨rfl, hb2⟩
  go_wp2
  go_ret
  exact ⟨rfl, hb1.trans (hb2.mono hz1)⟩

set_option maxRecDepth 20000 in
set_option maxHeartbeats 1000000 in
theorem maxFinite_is (E M : Nat) (hf : fok E M = true) (neg : Bool) : OneNeg 162 E M neg ((infP E M - 1 + sgn E M neg : Nat) : Int) := by
  obtain ⟨g1, g2, g3, g4⟩ := fok_bd hf
  have hr := signed_is E M hf neg (infP E M - 1) (by have := infP_lt E M; omega)
  have hv : IntKind.u64.wrap (IntKind.u64.wrap (IntKind.u64.wrap (IntKind.u64.wrap ((2 : Int) ^ E) - 1) * 2 ^ M) - 1) = ((infP E M - 1 : Nat) : Int) := by
    have h1 := infP_lt E M
    have h2 := pow63 (E + M) (by omega)
    have h3 := Nat.one_le_two_pow (n := E)
    have h4 := pow63 E (by omega)
    rw [wrap_pow E (by omega)]
    have e1 : ((2 ^ E : Nat) : Int) - 1 = ((2 ^ E - 1 : Nat) : Int) := by omega
    have e2 : IntKind.u64.wrap ((2 ^ E - 1 : Nat) : Int) = ((2 ^ E - 1 : Nat) : Int) := wrap_u (by omega) (by omega)
    rw [e1, e2, pow_cast, ← Int.natCast_mul]
    have h5 : 0 < infP E M := by
      unfold infP
      have h6 := pow_le' 2 E g1
      exact Nat.mul_pos (by omega) (Nat.two_pow_pos M)
    have e3 : IntKind.u64.wrap (((2 ^ E - 1) * 2 ^ M : Nat) : Int) = (infP E M : Nat) := wrap_u (by omega) (by unfold infP at h1; omega)
    rw [e3]
    have e4 : ((infP E M : Nat) : Int) - 1 = ((infP E M - 1 : Nat) : Int) := by omega
    rw [e4]
    exact wrap_u (by omega) (by omega)
  have hk := fun w => fmtOk_yes E M hf w
  have HK := hide hk
  have HR := hide hr
  have HV := hide hv
  clear hk hf hr hv
  intro w
  go_enter Oaag.func162, Oaag.ntmps162
  go_wp2_with fail
  refine (unhide HK _).mono ?_
  rintro e w1 ⟨rfl, hb⟩
  obtain ⟨c0, c1⟩ := box_now w w1 (.int .u8 E) (.int .u8 M) 23 (by simpa using hb)
  have hb1 : Below w.heap.size w w1 := ((Below.refl _ _).alloc (Nat.le_refl _) _).trans (hb.mono (by simp))
  have hz1 := hb1.size
  go_wp2_with fail
  rw [unhide HV]
  refine (unhide HR _).mono ?_
  rintro e w2 ⟨rfl, hb2⟩
  go_wp2
  go_ret
  exact ⟨rfl, hb1.trans (hb2.mono hz1)⟩

/-- THE NaN. -/
def nanP (E M : Nat) : Nat := infP E M + 2 ^ (M - 1)
theorem nanP_lt (E M : Nat) (hM : 1 ≤ M) : nanP E M < 2 ^ (E + M) := by
  unfold nanP infP
  have h1 : 2 ^ (M - 1) < 2 ^ M := Nat.pow_lt_pow_right (by omega) (by omega)
  have h2 := Nat.one_le_two_pow (n := E)
  have h3 : 2 ^ (E + M) = (2 ^ E - 1) * 2 ^ M + 2 ^ M := by
    rw [Nat.pow_add]
    have : 2 ^ E = (2 ^ E - 1) + 1 := by omega
    conv => lhs; rw [this]
    rw [Nat.succ_mul]
  omega
theorem nan_or (E M : Nat) (hM : 1 ≤ M) : infP E M ||| 2 ^ (M - 1) = nanP E M := by
  have h1 : 2 ^ (M - 1) < 2 ^ M := Nat.pow_lt_pow_right (by omega) (by omega)
  have := Nat.two_pow_add_eq_or_of_lt h1 (2 ^ E - 1)
  unfold nanP infP
  rw [Nat.mul_comm, this]

set_option maxRecDepth 20000 in
set_option maxHeartbeats 1000000 in
theorem theNaN_is (E M : Nat) (hf : fok E M = true) : OneOf 45 E M .u64 ((nanP E M : Nat) : Int) := by
  obtain ⟨g1, g2, g3, g4⟩ := fok_bd hf
  have hr := inf_is E M hf false
  have hv : bits .or .u64 ((infP E M : Nat) : Int) (IntKind.u64.wrap ((2 : Int) ^ (M - 1))) = (nanP E M : Nat) := by
    have h1 := infP_lt E M
    have h2 := pow63 (E + M) (by omega)
    have h3 := pow63 (M - 1) (by omega)
    rw [wrap_pow _ (by omega), u64_or_nat _ _ (by omega) (by omega), nan_or E M (by omega)]
  have hk := fun w => fmtOk_yes E M hf w
  have HK := hide hk
  have HR := hide hr
  have HV := hide hv
  clear hk hf hr hv
  intro w
  go_enter Oaag.func45, Oaag.ntmps45
  go_wp2_with fail
  refine (unhide HK _).mono ?_
  rintro e w1 ⟨rfl, hb⟩
  have hc0 : ∀ x : Later w1, x.at_.cell? ⟨w.heap.size, 0, none⟩ = some (.int .u8 E) := fun x => (box_now w x.at_ (.int .u8 E) (.int .u8 M) 23 (by simpa using hb.trans (x.ok.mono hb.size))).1
  have hc1 : ∀ x : Later w1, x.at_.cell? ⟨w.heap.size, 1, none⟩ = some (.int .u8 M) := fun x => (box_now w x.at_ (.int .u8 E) (.int .u8 M) 23 (by simpa using hb.trans (x.ok.mono hb.size))).2
  have hb1 : Below w.heap.size w w1 := ((Below.refl _ _).alloc (Nat.le_refl _) _).trans (hb.mono (by simp))
  have hz1 := hb1.size
  clear hb
  go_wp2_with fail
  have hne : Nonempty (Later w1) := ⟨⟨w1, Below.refl _ _⟩⟩
  refine wp_region_below (by kernel_rfl) (by kernel_rfl) ?_
  iterate 1 (go_big_quiet_want; go_big_quiet_op; go_big_quiet_on)
  go_big_quiet_want
  go_big_quiet_op
  apply Exists.intro
  refine ⟨fun x => Calls.below_of x (unhide HR x.at_), ?_⟩
  go_big_quiet_on
  iterate 6 (go_big_quiet_want; go_big_quiet_op; go_big_quiet_on)
  refine wpQuiet_nil ?_
  intro w3 hw3
  have hb3 : Below w1.heap.size w1 w3 := by obtain ⟨Z, hZ⟩ := hw3; rw [hZ]; exact Z.ok
  have hbF := hb1.trans (hb3.mono hz1)
  clear hw3 hc0 hc1 hne hb3
  go_wp2
  go_ret
  refine ⟨ret_int ?_, hbF⟩
  have e0 : ((infP E M : Nat) : Int) + ((sgn E M false : Nat) : Int) = ((infP E M : Nat) : Int) := by simp [sgn]
  rw [e0]
  exact unhide HV

end Go.Proofs.YgcoaaGreat.NatW
