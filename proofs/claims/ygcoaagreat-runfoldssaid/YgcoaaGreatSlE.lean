/-
  Package slow: mulPow5: how many limbs; the top limb does not vanish.
-/
import Derived.Test.YgcoaaGreatSlC
set_option linter.unusedVariables false
set_option linter.unusedSimpArgs false
set_option maxRecDepth 20000
namespace Go.Proofs.YgcoaaGreat.NatW
open Go.RowKit
open Go.Proofs.YgcoaaGreat.Det
attribute [local go_sem] Go.Instr.field Go.asAgg

def P5R (b n0 K0 : Nat) (c0 : Nat → Nat) (w : World) (t1 : Value) (wr : World) : Prop :=
  ∃ (k n : Nat) (c : Nat → Nat), t1 = .int .i64 k ∧ k ≤ K0 ∧ 27 * n + k ≤ 27 * n0 + K0 ∧ BigX b n c wr ∧ (∀ j, n ≤ j → c j = 0) ∧ (Nz n0 c0 → Nz n c) ∧ wr.tape = (fun _ _ => 0) ∧ Keep b w wr
def P5I (t1 t4 : Value) : Prop := ∃ k P : Nat, t1 = .int .i64 k ∧ t4 = .int .u64 P ∧ 1 ≤ P ∧ k ≤ 26 ∧ P * 5 ^ k ≤ 1490116119384765625
theorem p5_next (k P : Nat) (hk : k ≠ 0) (h : P * 5 ^ k ≤ 1490116119384765625) : P * 5 ≤ 1490116119384765625 ∧ P * 5 * 5 ^ (k - 1) ≤ 1490116119384765625 := by
  obtain ⟨j, rfl⟩ : ∃ j, k = j + 1 := ⟨k - 1, by omega⟩
  have e : P * 5 ^ (j + 1) = P * 5 * 5 ^ j := by rw [Nat.pow_succ, Nat.mul_assoc, Nat.mul_comm 5 (5 ^ j)]
  rw [e] at h
  have h5 : 1 ≤ 5 ^ j := Nat.one_le_pow _ _ (by omega)
  exact ⟨Nat.le_trans (Nat.le_mul_of_pos_right _ h5) h, h⟩

set_option maxHeartbeats 4000000 in
theorem mulPow5_run (w : World) (b n0 K0 : Nat) (c0 : Nat → Nat) (hK0 : 27 * n0 + K0 ≤ 1350) (hX : BigX b n0 c0 w) (hz : ∀ j, n0 ≤ j → c0 j = 0) (ht : w.tape = fun _ _ => 0) :
    Calls Oaag.prog 209 #[.pointer (some ⟨b, 0, none⟩), .int .i64 (K0 : Nat)] w fun e w' => e = .returned (.tuple #[]) ∧ ∃ (n : Nat) (c : Nat → Nat), BigX b n c w' ∧ n ≤ 51 ∧ (∀ j, n ≤ j → c j = 0) ∧ (Nz n0 c0 → Nz n c) ∧ w'.tape = (fun _ _ => 0) ∧ Keep b w w' := by
  have HX := hide hX
  have HT := hide ht
  have HZ := hide hz
  clear hX ht hz
  go_enter Oaag.func209, Oaag.ntmps209
  go_wp2_with fail
  go_loopw [1] (P5R b n0 K0 c0 w) (fun t1 _ => (intOf t1).toNat)
  case atStart => exact ⟨K0, n0, c0, rfl, Nat.le_refl _, Nat.le_refl _, unhide HX, unhide HZ, fun h => h, unhide HT, Keep.refl _ _⟩
  case round =>
    obtain ⟨k, n, c, rfl, hk, hn, hX, hzz, hnz, hT, hK⟩ := hrel
    clear HX HT HZ
    have HX := hide hX
    have HT := hide hT
    have HK := hide hK
    have HZ := hide hzz
    have HN := hide hnz
    clear hX hT hK hzz hnz
    by_cases hl : 27 ≤ k
    · have h1 : (27 : Int) ≤ (k : Int) := by omega
      go_wp2_with fail
      refine (mulAdd_run wr b n c 7450580596923828125 0 (by omega) (by omega) (unhide HX) (by omega) (unhide HZ) (unhide HT)).mono ?_
      rintro e w1 ⟨rfl, n', c', x1, x2, x3, x4, x7, x5, x6⟩
      have HX1 := hide x1
      have HZ1 := hide x4
      have HT1 := hide x5
      have HK1 := hide ((unhide HK).trans x6)
      have HN1 := hide (show Nz n0 c0 → Nz n' c' from fun h => x7 (.inl (by omega)) (.inl (unhide HN h)))
      clear x1 x4 x5 x6 x7
      go_wp2_with fail
      exact ⟨⟨k - 27, n', c', by congr 1; omega, by omega, by omega, unhide HX1, unhide HZ1, unhide HN1, unhide HT1, unhide HK1⟩, by simp [intOf]; omega⟩
    · have h1 : ¬ ((27 : Int) ≤ (k : Int)) := by omega
      go_wp2_with fail
      go_loop [1, 4] P5I (fun t1 _ => (intOf t1).toNat)
      case atStart =>
        refine ⟨k, 1, rfl, rfl, Nat.le_refl _, by omega, ?_⟩
        have : 5 ^ k ≤ 5 ^ 26 := Nat.pow_le_pow_right (by omega) (by omega)
        have e : (5 : Nat) ^ 26 = 1490116119384765625 := by decide
        omega
      case round =>
        obtain ⟨q, P, rfl, rfl, hP, hq26, hq⟩ := hrel
        by_cases hq0 : q = 0
        · subst hq0
          go_wp2_with fail
          have hP2 : P < 18446744073709551616 := by simp at hq; omega
          refine (mulAdd_run wr b n c P 0 hP2 (by omega) (unhide HX) (by omega) (unhide HZ) (unhide HT)).mono ?_
          rintro e w1 ⟨rfl, n', c', x1, x2, x3, x4, x7, x5, x6⟩
          have hR : BigX b n' c' w1 ∧ n' ≤ 51 ∧ (∀ j, n' ≤ j → c' j = 0) ∧ (Nz n0 c0 → Nz n' c') ∧ w1.tape = (fun _ _ => 0) ∧ Keep b w w1 := ⟨x1, by omega, x4, fun h => x7 (.inl (by omega)) (.inl (unhide HN h)), x5, (unhide HK).trans x6⟩
          have HR := hide hR
          clear x1 x4 x5 x6 x7 hR
          go_wp2_with fail
          refine bodyPost_nor (v := .tuple #[]) (by simp [results, Oaag.results209, go_sem]) rfl ⟨rfl, n', c', unhide HR⟩
        · obtain ⟨g1, g2⟩ := p5_next q P hq0 hq
          have h0 : (0 : Int) < (q : Int) := by omega
          go_wp2_with fail
          exact ⟨⟨q - 1, P * 5, by congr 1; omega, by congr 1, by omega, by omega, g2⟩, by simp [intOf]; omega⟩
end Go.Proofs.YgcoaaGreat.NatW
