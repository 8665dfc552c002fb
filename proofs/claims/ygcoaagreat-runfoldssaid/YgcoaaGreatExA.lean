/-
  Package exact: pow10.
-/
import Derived.Test.YgcoaaGreatPow
import Derived.Test.YgcoaaGreatShift
set_option linter.unusedVariables false
set_option linter.unusedSimpArgs false
namespace Go.Proofs.YgcoaaGreat.NatW
open Go.RowKit
open Go.Proofs.YgcoaaGreat.Limbs

theorem len5 (k : Nat) : (lim (5 ^ k)).length ≤ k + 1 := by
  refine lim_length_le _ _ ?_
  calc 5 ^ k ≤ 4294967296 ^ k := Nat.pow_le_pow_left (by omega) k
    _ < 4294967296 ^ (k + 1) := Nat.pow_lt_pow_right (by omega) (by omega)

set_option maxRecDepth 20000 in
set_option maxHeartbeats 1000000 in
theorem pow10_any (w : World) (k : Nat) (hk : k < 65536) :
    Calls Oaag.prog 78 #[.int .i64 k] w fun e w' => ∃ a' cap', e = .returned (.slice a' (lim (10 ^ k)).length cap') ∧ Res w.heap.size w' a' cap' (10 ^ k) ∧ Below w.heap.size w w' := by
  have hc := pow5_any w k hk
  have HC := hide hc
  clear hc
  go_enter Oaag.func78, Oaag.ntmps78
  go_wp2_with fail
  refine (unhide HC).mono ?_
  rintro e w1 ⟨a1, cap1, rfl, hres, hb1⟩
  have hl := len5 k
  have hs := shl_any w1 a1 cap1 (lim (5 ^ k)) (5 ^ k) (val_lim _) hres.sl k hk (by omega)
  have HS := hide hs
  have HB := hide hb1
  clear hs hres hb1 HC
  go_wp2_with fail
  refine (unhide HS).mono ?_
  rintro e w2 ⟨a2, cap2, rfl, hres2, hb2⟩
  have e10 : 5 ^ k * 2 ^ k = 10 ^ k := by rw [← Nat.mul_pow]
  rw [e10] at hres2 ⊢
  have hb1 := unhide HB
  have H2 := hide (hres2.lower hb1.size)
  have HB2 := hide (hb1.trans (hb2.mono hb1.size))
  clear hres2 hb2 hb1 HS HB
  go_wp2_with fail
  go_ret
  exact ⟨_, _, rfl, unhide H2, unhide HB2⟩

end Go.Proofs.YgcoaaGreat.NatW
