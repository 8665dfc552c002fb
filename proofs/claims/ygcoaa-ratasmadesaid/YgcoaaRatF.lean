/-
  exact.Round's callees, on: log2.
-/
import Derived.Test.YgcoaaRatE
import Derived.Test.YgcoaaNatAll
set_option linter.unusedVariables false
set_option linter.unusedSimpArgs false
namespace Go.Proofs.Ygcoaa.NatW
open Go.RowKit
open Go.Proofs.Ygcoaa.Limbs

/-- log2's answer. -/
def Log2Of (x y : Nat) (lo hi r : Int) : Prop := ∀ (w : World) (a : Option Addr) (cap : Nat) (_ : Sl w a cap (lim x)) (a2 : Option Addr) (cap2 : Nat) (_ : Sl w a2 cap2 (lim y)),
    Calls Oaag.prog 76 #[.slice a (lim x).length cap, .slice a2 (lim y).length cap2, .int .i64 lo, .int .i64 hi] w fun e w' => e = .returned (.int .i64 r) ∧ Below w.heap.size w w'

theorem len_sh (x : Nat) (K : Nat) (hK : K < 65536) : (lim (x * 2 ^ K)).length ≤ (lim x).length + 2049 := by
  have h1 := len_mul x (2 ^ K)
  have h2 := pow2_len' K
  omega
theorem len_shX (x : Nat) (k : Int) : (lim (shX x k)).length ≤ (lim x).length + 2049 := by
  unfold shX; split; omega; exact len_sh x _ (shK_lt k)
theorem len_shY (x : Nat) (k : Int) : (lim (shY x k)).length ≤ (lim x).length + 2049 := by
  unfold shY; split; exact len_sh x _ (shK_lt k); omega

set_option maxRecDepth 20000 in
set_option maxHeartbeats 1000000 in
theorem log2_any (x y : Nat) (lo hi : Int) (hb : (lim x).length ≤ 70368744100000) (hb2 : (lim y).length ≤ 70368744100000) : ∃ r : Int, Log2Of x y lo hi r := by
  have hlx := bl_len x
  have hly := bl_len y
  have hbx := fun (w : World) (a : Option Addr) (cap : Nat) (h : Sl w a cap (lim x)) => bitLen_any w a cap _ x (val_lim x) h (by omega)
  have hby := fun (w : World) (a : Option Addr) (cap : Nat) (h : Sl w a cap (lim y)) => bitLen_any w a cap _ y (val_lim y) h (by omega)
  obtain ⟨B1, hB1⟩ : ∃ B, B = bl x := ⟨_, rfl⟩
  obtain ⟨B2, hB2⟩ : ∃ B, B = bl y := ⟨_, rfl⟩
  rw [← hB1] at hbx hlx
  rw [← hB2] at hby hly
  have HBX := hide hbx
  have HBY := hide hby
  clear hB1 hB2 hbx hby
  obtain ⟨e0, he0⟩ : ∃ e : Int, e = (B1 : Int) - B2 := ⟨_, rfl⟩
  have hr1 : (B1 : Int) - B2 = e0 := he0.symm
  have hr2 : -4611686018427387904 ≤ e0 ∧ e0 ≤ 4611686018427387904 := by omega
  clear he0
  obtain ⟨hi1, hh1⟩ : ∃ z, z = wrap64 (hi + 1) := ⟨_, rfl⟩
  have hw1 : wrap64 (hi + 1) = hi1 := hh1.symm
  clear hh1
  by_cases h1 : hi1 < e0
  · refine ⟨hi1, ?_⟩
    intro w a cap h a2 cap2 h2
    go_enter Oaag.func76, Oaag.ntmps76
    go_wp2_with fail
    refine (unhide HBX w a cap h).mono ?_
    rintro e w1 ⟨rfl, rfl⟩
    go_wp2_with fail
    refine (unhide HBY w a2 cap2 h2).mono ?_
    rintro e w1 ⟨rfl, rfl⟩
    go_wp2
    go_ret
    exact ⟨ret_int hw1, Below.refl _ _⟩
  · by_cases h3 : e0 < lo
    · refine ⟨wrap64 (lo - 1), ?_⟩
      intro w a cap h a2 cap2 h2
      go_enter Oaag.func76, Oaag.ntmps76
      go_wp2_with fail
      refine (unhide HBX w a cap h).mono ?_
      rintro e w1 ⟨rfl, rfl⟩
      go_wp2_with fail
      refine (unhide HBY w a2 cap2 h2).mono ?_
      rintro e w1 ⟨rfl, rfl⟩
      go_wp2
      go_ret
      exact ⟨rfl, Below.refl _ _⟩
    · have hl1 := len_shX x (-e0)
      have hl2 := len_shY y (-e0)
      by_cases hc : shX x (-e0) < shY y (-e0)
      · have ec : cmpI (shX x (-e0)) (shY y (-e0)) = -1 := by simp [cmpI, hc]
        have EC := hide ec
        clear ec hc
        refine ⟨e0 - 1, ?_⟩
        intro w a cap h a2 cap2 h2
        go_enter Oaag.func76, Oaag.ntmps76
        go_wp2_with fail
        refine (unhide HBX w a cap h).mono ?_
        rintro e w1 ⟨rfl, rfl⟩
        go_wp2_with fail
        refine (unhide HBY w a2 cap2 h2).mono ?_
        rintro e w1 ⟨rfl, rfl⟩
        go_wp2_with fail
        refine (shift_any w a cap x h a2 cap2 y h2 (-e0) (by omega) (by omega)).mono ?_
        rintro e w1 ⟨a3, c3, a4, c4, rfl, s3, s4, hb1⟩
        have hz1 := hb1.size
        have hcm := cmp_any w1 a3 c3 _ _ (val_lim _) s3 (by omega) a4 c4 _ _ (val_lim _) s4 (by omega)
        rw [unhide EC] at hcm
        have HCM := hide hcm
        clear hcm s3 s4
        go_wp2_with fail
        refine (unhide HCM).mono ?_
        rintro e w2 ⟨hb2', rfl⟩
        go_wp2
        go_ret
        exact ⟨rfl, hb1.trans (hb2'.mono hz1)⟩
      · have ec : 0 ≤ cmpI (shX x (-e0)) (shY y (-e0)) := by
          simp only [cmpI, if_neg hc]; split <;> omega
        obtain ⟨C, hC⟩ : ∃ C, C = cmpI (shX x (-e0)) (shY y (-e0)) := ⟨_, rfl⟩
        rw [← hC] at ec
        have ecd : decide (C < 0) = false := decide_eq_false (by omega)
        have HC := hide hC
        clear hC hc
        refine ⟨e0, ?_⟩
        intro w a cap h a2 cap2 h2
        go_enter Oaag.func76, Oaag.ntmps76
        go_wp2_with fail
        refine (unhide HBX w a cap h).mono ?_
        rintro e w1 ⟨rfl, rfl⟩
        go_wp2_with fail
        refine (unhide HBY w a2 cap2 h2).mono ?_
        rintro e w1 ⟨rfl, rfl⟩
        go_wp2_with fail
        refine (shift_any w a cap x h a2 cap2 y h2 (-e0) (by omega) (by omega)).mono ?_
        rintro e w1 ⟨a3, c3, a4, c4, rfl, s3, s4, hb1⟩
        have hz1 := hb1.size
        have hcm := cmp_any w1 a3 c3 _ _ (val_lim _) s3 (by omega) a4 c4 _ _ (val_lim _) s4 (by omega)
        rw [← unhide HC] at hcm
        have HCM := hide hcm
        clear hcm s3 s4
        go_wp2_with fail
        refine (unhide HCM).mono ?_
        rintro e w2 ⟨hb2', rfl⟩
        go_wp2
        go_ret
        exact ⟨rfl, hb1.trans (hb2'.mono hz1)⟩

end Go.Proofs.Ygcoaa.NatW
