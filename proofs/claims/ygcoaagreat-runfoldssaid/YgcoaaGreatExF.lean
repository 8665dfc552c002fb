/-
  Package exact: ofDigits.
-/
import Derived.Test.YgcoaaGreatBiA
import Derived.Test.YgcoaaGreatDecC
set_option linter.unusedVariables false
set_option linter.unusedSimpArgs false
namespace Go.Proofs.YgcoaaGreat.NatW
attribute [local go_sem] Go.Instr.field Go.asAgg
open Go.RowKit
open Go.Proofs.YgcoaaGreat.Limbs Go.Proofs.YgcoaaGreat.Bits

theorem len_add (x y n : Nat) (hx : (lim x).length ≤ n) (hy : (lim y).length ≤ n) : (lim (x + y)).length ≤ n + 1 := by
  refine lim_length_le _ _ ?_
  have h1 := Nat.lt_of_lt_of_le (lt_of_lim_length x) (Nat.pow_le_pow_right (by decide : 0 < 4294967296) hx)
  have h2 := Nat.lt_of_lt_of_le (lt_of_lim_length y) (Nat.pow_le_pow_right (by decide : 0 < 4294967296) hy)
  rw [Nat.pow_succ]
  omega

theorem add_r (w : World) {B B2 : Nat} {a a2 : Option Addr} {cap cap2 x y : Nat} (h : Res B w a cap x) (h2 : Res B2 w a2 cap2 y) (hx : (lim x).length ≤ 1000000) (hy : (lim y).length ≤ 1000000) :
    Calls Oaag.prog 80 #[.slice a (lim x).length cap, .slice a2 (lim y).length cap2] w fun e w' => ∃ a' cap', e = .returned (.slice a' (lim (x + y)).length cap') ∧ Res w.heap.size w' a' cap' (x + y) ∧ Below w.heap.size w w' :=
  add_any w a cap (lim x) x (val_lim x) h.sl a2 cap2 (lim y) y (val_lim y) h2.sl (by omega) (by omega)

def OdR (w : World) (s : ByteArray) (t3 t4 : Value) (wr : World) : Prop := ∃ (i n : Nat) (a : Option Addr) (cap : Nat), i ≤ s.size ∧ t4 = .int .i64 i ∧ t3 = .slice a (lim n).length cap ∧ Res w.heap.size wr a cap n ∧ (lim n).length ≤ 3 * i + 3 ∧ Below w.heap.size w wr
def OdI (s : ByteArray) (i : Nat) (t4 t5 t6 t7 : Value) : Prop := ∃ (j : Nat) (v p : Int), j ≤ 9 ∧ i + j ≤ s.size ∧ t7 = .int .i64 j ∧ t4 = .int .i64 ((i + j : Nat) : Int) ∧ t5 = .int .u64 v ∧ t6 = .int .u64 p ∧ Hid (U64 v) ∧ Hid (U64 p)

set_option maxRecDepth 20000 in
set_option maxHeartbeats 4000000 in
theorem ofDigits_any (w : World) (s : ByteArray) (hs : s.size ≤ 1000) : Calls Oaag.prog 77 #[.string s] w fun e w' => ∃ n a cap, e = .returned (.slice a (lim n).length cap) ∧ Res w.heap.size w' a cap n ∧ (lim n).length ≤ 3003 ∧ Below w.heap.size w w' := by
  go_enter Oaag.func77, Oaag.ntmps77
  go_wp2_with fail
  go_loopw [3, 4] (OdR w s) (fun _ t4 _ => s.size - (intOf t4).toNat)
  case atStart => exact ⟨0, 0, none, 0, by omega, rfl, rfl, Res.nil, by decide, Below.refl _ _⟩
  case round =>
    obtain ⟨i, n, a, cap, hi, rfl, rfl, hR, hln, hb⟩ := hrel
    have HR := hide hR
    have HB := hide hb
    clear hR hb
    by_cases hl : i < s.size
    · go_wp2_with fail
      go_loop [4, 5, 6, 7] (OdI s i) (fun _ _ _ t7 => 9 - (intOf t7).toNat)
      case atStart => exact ⟨0, 0, 1, by omega, by omega, rfl, by simp, rfl, rfl, hide ⟨by decide, by decide⟩, hide ⟨by decide, by decide⟩⟩
      case round =>
        obtain ⟨j, v, p, hj, hij, rfl, rfl, rfl, rfl, uv, up⟩ := hrel
        by_cases hin : j < 9 ∧ i + j < s.size
        · have hix := index_str s (i + j) ((i + j : Nat) : Int) rfl hin.2
          have hbt := byt_lt s (i + j)
          obtain ⟨hj9, hjs⟩ := hin
          go_wp2_with fail
          exact ⟨⟨j + 1, _, _, by omega, by omega, by simp, by congr 1, rfl, rfl, hide (wr64' _), hide (wr64' _)⟩, by simp [intOf]; omega⟩
        · have hjn : j = 9 ∨ i + j = s.size := by omega
          have hj1 : 1 ≤ j := by omega
          clear hin
          rcases Nat.lt_or_ge j 9 with hj9 | hj9
          all_goals
            go_wp2_with fail
            refine (fromU64_i wr p (unhide up)).mono ?_
            rintro e w1 ⟨P, a1, cp1, -, hP, rfl, hr1, hb1⟩
            have L1 := len_small P hP
            have HN1 := hide ((unhide HR).later hb1)
            have HB1 := hide ((unhide HB).trans (hb1.mono (unhide HB).size))
            have HP1 := hide hr1
            clear hr1 hb1 up
            go_wp2_with fail
            refine (mul_r w1 (unhide HN1) (unhide HP1) (by omega) (by omega)).mono ?_
            rintro e w2 ⟨a2, cp2, rfl, hr2, hb2⟩
            have L2 := len_mul n P
            have HB2 := hide ((unhide HB1).trans (hb2.mono (unhide HB1).size))
            have HM2 := hide hr2
            clear hr2 hb2 HN1 HP1 HB1
            go_wp2_with fail
            refine (fromU64_i w2 v (unhide uv)).mono ?_
            rintro e w3 ⟨V, a3, cp3, -, hV, rfl, hr3, hb3⟩
            have L3 := len_small V hV
            have HM3 := hide ((unhide HM2).later hb3)
            have HB3 := hide ((unhide HB2).trans (hb3.mono (unhide HB2).size))
            have HV3 := hide hr3
            clear hr3 hb3 uv HM2 HB2
            go_wp2_with fail
            refine (add_r w3 (unhide HM3) (unhide HV3) (by omega) (by omega)).mono ?_
            rintro e w4 ⟨a4, cp4, rfl, hr4, hb4⟩
            have L4 := len_add (n * P) V ((lim n).length + 2) (by omega) (by omega)
            have hz3 := (unhide HB3).size
            have HB4 := hide ((unhide HB3).trans (hb4.mono hz3))
            have HA4 := hide (hr4.lower hz3)
            clear hr4 hb4 HM3 HV3 HB3
            go_wp2_with fail
            exact ⟨⟨i + j, n * P + V, a4, cp4, by omega, rfl, rfl, unhide HA4, by omega, unhide HB4⟩, by simp [intOf]; omega⟩
    · go_wp2_with fail
      go_ret
      exact ⟨n, a, cap, rfl, unhide HR, by omega, unhide HB⟩

end Go.Proofs.YgcoaaGreat.NatW
