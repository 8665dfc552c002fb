/-
  Package slow: read: how many limbs.
-/
import Derived.Test.YgcoaaGreatSlC
set_option linter.unusedVariables false
set_option linter.unusedSimpArgs false
set_option maxRecDepth 20000
namespace Go.Proofs.YgcoaaGreat.NatW
open Go.RowKit
open Go.Proofs.YgcoaaGreat.Det
attribute [local go_sem] Go.Instr.field Go.asAgg

def RdR (b : Nat) (w : World) (s : ByteArray) (t4 : Value) (wr : World) : Prop :=
  ∃ (i n : Nat) (c : Nat → Nat), i ≤ s.size ∧ t4 = .int .i64 i ∧ ((i % 19 = 0 ∧ 19 * n ≤ i) ∨ (i = s.size ∧ 19 * n ≤ i + 18)) ∧ BigX b n c wr ∧ (∀ j, n ≤ j → c j = 0) ∧ wr.tape = (fun _ _ => 0) ∧ Keep b w wr
def RdI (s : ByteArray) (i : Nat) (t4 t5 t6 t7 : Value) : Prop := ∃ (j : Nat) (v p : Int), j ≤ 19 ∧ i + j ≤ s.size ∧ t7 = .int .i64 j ∧ t4 = .int .i64 ((i + j : Nat) : Int) ∧ t5 = .int .u64 v ∧ t6 = .int .u64 p ∧ Hid (U64 v) ∧ Hid (U64 p)

set_option maxHeartbeats 4000000 in
theorem read_run (w : World) (b : Nat) (c0 : Nat → Nat) (s : ByteArray) (hs : s.size ≤ 900) (hX : BigX b 0 c0 w) (hz : ∀ j, c0 j = 0) (ht : w.tape = fun _ _ => 0) :
    Calls Oaag.prog 207 #[.pointer (some ⟨b, 0, none⟩), .string s] w fun e w' => e = .returned (.tuple #[]) ∧ ∃ (n : Nat) (c : Nat → Nat), BigX b n c w' ∧ 19 * n ≤ s.size + 18 ∧ (∀ j, n ≤ j → c j = 0) ∧ w'.tape = (fun _ _ => 0) ∧ Keep b w w' := by
  have HX := hide hX
  have HT := hide ht
  clear hX ht
  go_enter Oaag.func207, Oaag.ntmps207
  go_wp2_with fail
  go_loopw [4] (RdR b w s) (fun t4 _ => s.size - (intOf t4).toNat)
  case atStart => exact ⟨0, 0, c0, by omega, rfl, .inl ⟨rfl, by omega⟩, unhide HX, fun j _ => hz j, unhide HT, Keep.refl _ _⟩
  case round =>
    obtain ⟨i, n, c, hi, rfl, hn, hX, hzz, hT, hK⟩ := hrel
    clear HX HT
    have HX := hide hX
    have HT := hide hT
    have HK := hide hK
    have HZ := hide hzz
    clear hX hT hK hzz
    by_cases hl : i < s.size
    · have hn1 : i % 19 = 0 ∧ 19 * n ≤ i := by omega
      go_wp2_with fail
      go_loop [4, 5, 6, 7] (RdI s i) (fun _ _ _ t7 => 19 - (intOf t7).toNat)
      case atStart => exact ⟨0, 0, 1, by omega, by omega, rfl, by simp, rfl, rfl, hide ⟨by decide, by decide⟩, hide ⟨by decide, by decide⟩⟩
      case round =>
        obtain ⟨j, v, p, hj, hij, rfl, rfl, rfl, rfl, uv, up⟩ := hrel
        by_cases hin : j < 19 ∧ i + j < s.size
        · have hix := index_str s (i + j) ((i + j : Nat) : Int) rfl hin.2
          have hbt := byt_lt s (i + j)
          obtain ⟨hj9, hjs⟩ := hin
          go_wp2_with fail
          exact ⟨⟨j + 1, _, _, by omega, by omega, by simp, by congr 1, rfl, rfl, hide (wr64' _), hide (wr64' _)⟩, by simp [intOf]; omega⟩
        · have hjn : j = 19 ∨ i + j = s.size := by omega
          have hj1 : 1 ≤ j := by omega
          clear hin
          obtain ⟨V, rfl⟩ := Int.eq_ofNat_of_zero_le (unhide uv).1
          obtain ⟨P, rfl⟩ := Int.eq_ofNat_of_zero_le (unhide up).1
          rcases Nat.lt_or_ge j 19 with hj9 | hj9
          all_goals
            go_wp2_with fail
            refine (mulAdd_run wr b n c P V (by have := (unhide up).2; omega) (by have := (unhide uv).2; omega) (unhide HX) (by omega) (unhide HZ) (unhide HT)).mono ?_
            rintro e w1 ⟨rfl, n', c', x1, x2, x3, x4, _, x5, x6⟩
            have HX1 := hide x1
            have HZ1 := hide x4
            have HT1 := hide x5
            have HK1 := hide ((unhide HK).trans x6)
            clear x1 x4 x5 x6 up uv
            go_wp2_with fail
            exact ⟨⟨i + j, n', c', by omega, rfl, by omega, unhide HX1, unhide HZ1, unhide HT1, unhide HK1⟩, by simp [intOf]; omega⟩
    · go_wp2_with fail
      refine bodyPost_nor (v := .tuple #[]) (by simp [results, Oaag.results207, go_sem]) rfl ⟨rfl, n, c, unhide HX, by omega, unhide HZ, unhide HT, unhide HK⟩
end Go.Proofs.YgcoaaGreat.NatW
