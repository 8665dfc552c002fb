/-
  Package law: biteNat.
-/
import Derived.Test.YgcoaaGreatNatO
set_option linter.unusedVariables false
set_option linter.unusedSimpArgs false
namespace Go.Proofs.YgcoaaGreat.NatW
attribute [local go_sem] Go.Instr.field Go.asAgg
open Go.RowKit
open Go.Proofs.YgcoaaGreat.Limbs Go.Proofs.YgcoaaGreat.Bits

theorem fromU64_i (w : World) (x : Int) (u : U64 x) : Calls Oaag.prog 25 #[.int .u64 x] w fun e w' => ∃ (n : Nat) (a' : Option Addr) (cap' : Nat), (n : Int) = x ∧ n < 18446744073709551616 ∧ e = .returned (.slice a' (lim n).length cap') ∧ Res w.heap.size w' a' cap' n ∧ Below w.heap.size w w' := by
  obtain ⟨n, rfl⟩ := Int.eq_ofNat_of_zero_le u.1
  have hn : n < 18446744073709551616 := by have := u.2; omega
  refine (fromU64_any w n hn).mono ?_
  rintro e w' ⟨a', cap', rfl, h1, h2⟩
  exact ⟨n, a', cap', rfl, hn, rfl, h1, h2⟩

theorem len_mul (x y : Nat) : (lim (x * y)).length ≤ (lim x).length + (lim y).length := by
  refine lim_length_le _ _ ?_
  rw [Nat.pow_add]
  exact Nat.mul_lt_mul'' (lt_of_lim_length x) (lt_of_lim_length y)
theorem len_small (x : Nat) (h : x < 18446744073709551616) : (lim x).length ≤ 2 := lim_length_le x 2 (by simpa using h)

theorem Res.normal {B : Nat} {w : World} {a : Option Addr} {cap n : Nat} (h : Res B w a cap n) : (a.isNone || (decide (0 < (lim n).length) && (lim n).getD ((lim n).length - 1) 0 != 0)) = true := by
  rcases h with ⟨rfl, rfl, rfl⟩ | ⟨h0, g, l, rfl, _⟩
  · rfl
  · have h1 := (lim_length_pos n).2 h0
    have h2 := lim_top n h0
    simp [h1]
    simpa using h2
theorem app_normal (a : Addr) (n : Nat) : ((some a).isNone || (decide (0 < (lim n ++ [0]).length) && (lim n ++ [0]).getD ((lim n ++ [0]).length - 1) 0 != 0)) = false := by
  simp

theorem hr3n (w : World) {B : Nat} {a : Option Addr} {cap n : Nat} (h : Res B w a cap n) (hl : (lim n).length ≤ 1000000) : Calls Oaag.prog 32 #[.slice a (lim n).length cap] w fun e w' => w = w' ∧ e = .returned (.bool true) := by
  have := normal_any w a cap (lim n) h.sl (by omega)
  rwa [h.normal] at this

theorem hr3e (w : World) (a : Addr) : Calls Oaag.prog 32 #[.slice (some a) 0 0] w fun e w' => w = w' ∧ e = .returned (.bool false) :=
  normal_any w (some a) 0 [] ⟨Nat.le_refl _, fun h => (by cases h), Lt_nil, fun i hi => (by simp at hi)⟩ (by simp)
theorem hr3a (w : World) (a : Addr) (cap n : Nat) (h : Sl w (some a) cap (lim n ++ [0])) (hl : (lim n).length ≤ 1000000) : Calls Oaag.prog 32 #[.slice (some a) ((lim n).length + 1) cap] w fun e w' => w = w' ∧ e = .returned (.bool false) := by
  have := normal_any w (some a) cap (lim n ++ [0]) h (by simp; omega)
  rw [app_normal] at this
  simpa using this

/-- Calls on naturals, as the numbers have it. -/
theorem mul_r (w : World) {B B2 : Nat} {a a2 : Option Addr} {cap cap2 x y : Nat} (h : Res B w a cap x) (h2 : Res B2 w a2 cap2 y) (hx : (lim x).length ≤ 1000000) (hy : (lim y).length ≤ 1000000) :
    Calls Oaag.prog 27 #[.slice a (lim x).length cap, .slice a2 (lim y).length cap2] w fun e w' => ∃ a' cap', e = .returned (.slice a' (lim (x * y)).length cap') ∧ Res w.heap.size w' a' cap' (x * y) ∧ Below w.heap.size w w' :=
  mul_any w a cap (lim x) x (val_lim x) h.sl a2 cap2 (lim y) y (val_lim y) h2.sl (by omega)
theorem sub_r (w : World) {B B2 : Nat} {a a2 : Option Addr} {cap cap2 x y : Nat} (h : Res B w a cap x) (h2 : Res B2 w a2 cap2 y) (hx : (lim x).length ≤ 1000000) (hy : (lim y).length ≤ 1000000) :
    Calls Oaag.prog 31 #[.slice a (lim x).length cap, .slice a2 (lim y).length cap2] w fun e w' => ∃ a' cap', e = .returned (.tuple #[.slice a' (lim (x - y)).length cap', .bool (decide (y ≤ x))]) ∧ Res w.heap.size w' a' cap' (x - y) ∧ Below w.heap.size w w' :=
  sub_any w a cap (lim x) x (val_lim x) h.sl a2 cap2 (lim y) y (val_lim y) h2.sl (by omega) (by omega)

set_option maxRecDepth 20000 in
set_option maxHeartbeats 4000000 in
theorem biteNat_any (w : World) (db : Nat) (h : Dice db w) (hurt : Int) : Calls Oaag.prog 12 #[.pointer (some ⟨db, 0, none⟩), .int .u8 hurt] w fun e w' => e = .returned (.bool true) ∧ Below db w w' := by
  have q24 := eqnil24
  have HD := hide h
  have hlt := h.lt
  clear h
  go_enter Oaag.func12, Oaag.ntmps12
  go_wp2_with fail
  refine (roll_d w db (unhide HD)).mono ?_
  rintro e w1 ⟨r, rfl, ur, d1, R1⟩
  have z1 := R1.size
  have B1 := hide R1.below
  have D1 := hide d1
  clear R1 d1 HD
  go_wp2_with fail
  refine (below_d w1 db 64 (unhide D1) (by omega) (by omega)).mono ?_
  rintro e w2 ⟨s, rfl, hs, d2, R2⟩
  have z2 := R2.size
  have B2 := hide ((unhide B1).trans R2.below)
  have D2 := hide d2
  clear R2 d2 D1 B1
  go_wp2_with fail
  refine (fromU64_i w2 _ ?_).mono ?_
  · have h2 : (0 : Int) < 2 ^ s := Int.pow_pos (by decide)
    exact ⟨Int.ediv_nonneg ur.1 (Int.le_of_lt h2), Int.lt_of_le_of_lt (Int.ediv_le_self _ ur.1) ur.2⟩
  rintro e w3 ⟨x, a1, c1, -, hx, rfl, hr1, hb3⟩
  have z3 := hb3.size
  have B3 := hide ((unhide B2).trans (hb3.mono (by omega)))
  have D3 := hide ((unhide D2).kept hb3 (by omega))
  have L1 := len_small x hx
  have HR1 := hide hr1
  clear hr1 hb3 B2 D2 ur
  go_wp2_with fail
  refine (below_d w3 db 90 (unhide D3) (by omega) (by omega)).mono ?_
  rintro e w4 ⟨k, rfl, hk, d4, R4⟩
  have z4 := R4.size
  have B4 := hide ((unhide B3).trans R4.below)
  have D4 := hide d4
  have HR2 := hide (R4.res (unhide HR1) (by omega))
  clear R4 d4 D3 B3 HR1
  go_wp2_with fail
  refine (pow5_any w4 k (by omega)).mono ?_
  rintro e w5 ⟨a2, c2, rfl, hr2, hb5⟩
  have z5 := hb5.size
  have B5 := hide ((unhide B4).trans (hb5.mono (by omega)))
  have L2 := len5 k
  have HR3 := hide ((unhide HR2).later hb5)
  have HR4 := hide hr2
  clear hr2 hb5 B4 D4 HR2
  go_wp2_with fail
  refine (mul_r w5 (unhide HR3) (unhide HR4) (by omega) (by omega)).mono ?_
  rintro e w6 ⟨a3, c3, rfl, hr3, hb6⟩
  have z6 := hb6.size
  have B6 := hide ((unhide B5).trans (hb6.mono (by omega)))
  have L3 := len_mul x (5 ^ k)
  obtain ⟨X, hX⟩ : ∃ X, X = x * 5 ^ k := ⟨_, rfl⟩
  rw [← hX] at hr3 L3 ⊢
  have HR5 := hide hr3
  clear hr3 hb6 B5 HR3 HR4 hX
  have N1 := hide (hr3n w6 (unhide HR5) (by omega))
  by_cases h0 : hurt = 0
  · subst h0
    go_wp2_with fail
    refine (sub_r w6 (unhide HR5) (unhide HR5) (by omega) (by omega)).mono ?_
    rintro e w7 ⟨a4, c4, rfl, hr4, hb7⟩
    have z7 := hb7.size
    have B7 := hide ((unhide B6).trans (hb7.mono (by omega)))
    rw [Nat.sub_self] at hr4 ⊢
    rcases hr4 with ⟨-, rfl, rfl⟩ | ⟨h', -⟩
    · have N2 := hide (hr3n w7 (B := 0) Res.nil (by decide))
      clear hb7 B6
      go_wp2_with fail
      refine (unhide N2).mono ?_
      rintro e w8 ⟨rfl, rfl⟩
      go_wp2_with fail
      refine (hr3e _ _).mono ?_
      rintro e w8 ⟨rfl, rfl⟩
      go_wp2_with fail
      go_ret
      exact ⟨rfl, (unhide B7).alloc (by omega) _⟩
    · exact absurd rfl h'
  · go_wp2_with fail
    refine (unhide N1).mono ?_
    rintro e w8 ⟨rfl, rfl⟩
    go_wp2_with (at_builtin; refine wpList_nat0 rfl _ _ rfl (unhide HR5) (by omega) (by omega) rfl rfl ?_; intro a9 c9 w9 hs9 hb9; have HS9 := hide hs9; have HB9 := hide hb9; clear hs9 hb9)
    refine (hr3a w9 a9 c9 X (unhide HS9) (by omega)).mono ?_
    rintro e w8 ⟨rfl, rfl⟩
    go_wp2_with fail
    go_ret
    exact ⟨rfl, (unhide B6).trans ((unhide HB9).mono (by omega))⟩
end Go.Proofs.YgcoaaGreat.NatW
