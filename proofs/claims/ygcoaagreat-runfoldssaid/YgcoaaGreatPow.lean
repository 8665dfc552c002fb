/-
  Pow5: the walk.
-/
import Derived.Test.YgcoaaGreatShift
set_option linter.unusedVariables false
set_option linter.unusedSimpArgs false
namespace Go.Proofs.YgcoaaGreat.NatW
open Go.RowKit
open Go.Proofs.YgcoaaGreat.Limbs

theorem pow5_len (n : Nat) : (lim (5 ^ n)).length ≤ n + 1 := by
  apply lim_length_le
  have h1 : 5 ^ n ≤ 4294967296 ^ n := Nat.pow_le_pow_left (by omega) n
  have h2 : 4294967296 ^ n < 4294967296 ^ (n + 1) := Nat.pow_lt_pow_right (by omega) (by omega)
  omega

/-- A one-limb literal. -/
theorem one_limb (w : World) (d : Nat) (hd : d < 4294967296) (h0 : d ≠ 0) : Res w.heap.size (w.alloc (.cells #[.int .u32 (d : Nat)] 65)) (some ⟨w.heap.size, 0, none⟩) 1 d := by
  refine .inr ⟨h0, w.heap.size, [d], rfl, Nat.le_refl _, ?_, Lt_cons hd Lt_nil, rfl, by simp [val]⟩
  unfold Row
  rw [heap_alloc_new]
  simp
theorem lim_one (d : Nat) (hd : d < 4294967296) (h0 : d ≠ 0) : lim d = [d] := by
  rw [lim_step d h0, show d / 4294967296 = 0 from by omega, lim_zero, Nat.mod_eq_of_lt hd]

theorem pow5_sq (k j : Nat) : 5 ^ (k / 2 ^ (j + 1)) * 5 ^ (k / 2 ^ (j + 1)) = 5 ^ (2 * (k / 2 ^ j / 2)) := by
  rw [← Nat.pow_add, Nat.pow_succ, ← Nat.div_div_eq_div_mul, Nat.two_mul]
theorem pow5_even (k j : Nat) (h : k / 2 ^ j % 2 ≠ 1) : 5 ^ (2 * (k / 2 ^ j / 2)) = 5 ^ (k / 2 ^ j) := by
  congr 1; omega
theorem pow5_odd (k j : Nat) (h : k / 2 ^ j % 2 = 1) : 5 ^ (2 * (k / 2 ^ j / 2)) * 5 = 5 ^ (k / 2 ^ j) := by
  rw [← Nat.pow_succ]; congr 1; omega
theorem bit_form (k j : Nat) (hk : k < 65536) : bits .and .u16 ((k : Int) / 2 ^ j) 1 = ((k / 2 ^ j % 2 : Nat) : Int) := by
  have e : (k : Int) / 2 ^ j = ((k / 2 ^ j : Nat) : Int) := by simp
  have h := u16_and_nat (k / 2 ^ j) 1 (Nat.lt_of_le_of_lt (Nat.div_le_self _ _) hk) (by omega)
  rw [nat_mask1] at h
  rw [e]; exact h

set_option maxRecDepth 20000 in
set_option maxHeartbeats 1000000 in
theorem pow5_any (w : World) (k : Nat) (hk : k < 65536) :
    Calls Oaag.prog 30 #[.int .u16 k] w fun e w' => ∃ a' cap', e = .returned (.slice a' (lim (5 ^ k)).length cap') ∧ Res w.heap.size w' a' cap' (5 ^ k) ∧ Below w.heap.size w w' := by
  have h1 := one_limb w 1 (by omega) (by omega)
  have H1 := hide h1
  clear h1
  go_enter Oaag.func30, Oaag.ntmps30
  go_wp2
  go_loopw [4, 3] (fun t p wr => ∃ m : Nat, m ≤ 16 ∧ t = .int .i64 ((m : Int) - 1) ∧ Below w.heap.size w wr ∧ ∃ a' cap', p = .slice a' (lim (5 ^ (k / 2 ^ m))).length cap' ∧ Res w.heap.size wr a' cap' (5 ^ (k / 2 ^ m)))
    (fun t _ _ => (intOf t + 1).toNat)
  case atStart =>
    have e : k / 2 ^ 16 = 0 := by omega
    exact ⟨16, Nat.le_refl _, rfl, (Below.refl _ _).alloc (Nat.le_refl _) _, _, _, by rw [e]; rfl, by rw [e]; exact unhide H1⟩
  case round =>
    obtain ⟨m, hm, rfl, hbw, a', cap', rfl, hres⟩ := hrel
    by_cases hm0 : m = 0
    · subst hm0
      go_wp2
      go_ret
      simp only [Nat.pow_zero, Nat.div_one] at hres
      exact ⟨a', cap', by simp, hres, hbw⟩
    · obtain ⟨j, rfl⟩ : ∃ j, m = j + 1 := ⟨m - 1, by omega⟩
      have hlen := pow5_len (k / 2 ^ (j + 1))
      have hd : k / 2 ^ (j + 1) ≤ k := Nat.div_le_self _ _
      have ej : ((j + 1 : Nat) : Int) - 1 = (j : Int) := by omega
      rw [ej]
      by_cases hz : k / 2 ^ j = 0
      · have z1 : (((k : Int) / 2 ^ j) != 0) = false := by
          have : (k : Int) / 2 ^ j = ((k / 2 ^ j : Nat) : Int) := by simp
          rw [this, hz]; rfl
        have z2 : (bits .and .u16 ((k : Int) / 2 ^ j) 1 == 1) = false := by rw [bit_form k j hk, hz]; rfl
        have e0 : k / 2 ^ (j + 1) = k / 2 ^ j := by rw [Nat.pow_succ, ← Nat.div_div_eq_div_mul, hz]
        have E0 := hide e0
        clear e0 hz
        go_wp2
        go_roundw
        case rel =>
          have e0 := unhide E0
          rw [e0] at hres
          exact ⟨j, by omega, rfl, hbw, a', cap', by rw [e0], hres⟩
        case measure => simp [intOf]
      · have z1 : (((k : Int) / 2 ^ j) != 0) = true := by
          have : (k : Int) / 2 ^ j = ((k / 2 ^ j : Nat) : Int) := by simp
          rw [this]; simp only [bne_iff_ne]; omega
        have hm1 := mul_any wr a' cap' _ _ (val_lim _) hres.sl a' cap' _ _ (val_lim _) hres.sl (by omega)
        rw [pow5_sq] at hm1
        have HM1 := hide hm1
        have hsz := hbw.size
        clear hm1
        by_cases hbit : k / 2 ^ j % 2 = 1
        · have z2 : (bits .and .u16 ((k : Int) / 2 ^ j) 1 == 1) = true := by rw [bit_form k j hk, hbit]; rfl
          have HB := hide hbit
          clear hbit hz ej
          go_wp2_with fail
          refine (unhide HM1).mono ?_; rintro e w1 ⟨a1, cap1, rfl, hres1, hb1⟩
          have hl1 : (lim (5 ^ (2 * (k / 2 ^ j / 2)))).length ≤ k + 1 := Nat.le_trans (pow5_len _) (by have := Nat.div_le_self k (2 ^ j); omega)
          have hlit := one_limb w1 5 (by omega) (by omega)
          have hm2 := mul_any (w1.alloc (.cells #[.int .u32 (5 : Nat)] 65)) a1 cap1 _ _ (val_lim _) (hres1.later ((Below.refl _ _).alloc (Nat.le_refl _) _)).sl _ _ _ _ (val_lim _) hlit.sl (by rw [lim_one 5 (by omega) (by omega)]; simp; omega)
          rw [pow5_odd k j (unhide HB), lim_one 5 (by omega) (by omega)] at hm2
          have HM2 := hide hm2
          have HR1 := hide hres1
          clear hm2 hlit hres1
          have hsz1 := hb1.size
          go_wp2_with fail
          refine (unhide HM2).mono ?_; rintro e w2 ⟨a2, cap2, rfl, hres2, hb2⟩
          go_wp2
          go_roundw
          case rel =>
            have hb3 : Below w.heap.size w w2 := (hbw.trans (hb1.mono hsz)).trans (((Below.refl _ _).alloc (by omega) _).trans (hb2.mono (by simp; omega)))
            exact ⟨j, by omega, rfl, hb3, a2, cap2, rfl, hres2.lower (by simp; omega)⟩
          case measure => simp [intOf]
        · have z2 : (bits .and .u16 ((k : Int) / 2 ^ j) 1 == 1) = false := by
            rw [bit_form k j hk, show k / 2 ^ j % 2 = 0 from by omega]; rfl
          have HB := hide hbit
          clear hbit hz ej
          go_wp2_with fail
          refine (unhide HM1).mono ?_; rintro e w1 ⟨a1, cap1, rfl, hres1, hb1⟩
          have HR1 := hide hres1
          clear hres1
          go_wp2
          go_roundw
          case rel =>
            have hres1 := unhide HR1
            have hb3 : Below w.heap.size w w1 := hbw.trans (hb1.mono hsz)
            rw [pow5_even k j (unhide HB)] at hres1
            exact ⟨j, by omega, rfl, hb3, a1, cap1, by rw [pow5_even k j (unhide HB)], hres1.lower (by omega)⟩
          case measure => simp [intOf]

end Go.Proofs.YgcoaaGreat.NatW
