/-
  Package dec: TextF.
-/
import Derived.Test.YgcoaaGreatApp
set_option linter.unusedVariables false
set_option linter.unusedSimpArgs false
namespace Go.Proofs.YgcoaaGreat.NatW
attribute [local go_sem] Go.Instr.field Go.asAgg
open Go.RowKit

set_option maxRecDepth 20000 in
set_option maxHeartbeats 2000000 in
theorem textF_ret (n : Bool) (d : ByteArray) (hd : d.size ≤ 100000) (p : Nat) (hp : p ≤ 65535) : Ret 366 #[.bool n, .string d, .int .u16 p] (fun v => ∃ s : ByteArray, v = .string s ∧ s.size ≤ 300000) := by
  intro w K hK
  have HK := hide hK
  clear hK
  have te := toList_empty d
  go_enter Oaag.func366, Oaag.ntmps366
  by_cases h0 : d.size = 0
  · simp only [h0, decide_true] at te
    go_wp2_with fail
    exact unhide HK _ _ ⟨_, rfl, by decide⟩ (Below.refl _ _)
  simp only [h0, decide_false] at te
  by_cases hp2 : 2000 < p
  · go_wp2_with fail
    exact unhide HK _ _ ⟨_, rfl, by decide⟩ (Below.refl _ _)
  by_cases hq : p + 1 ≤ d.size
  · cases n
    all_goals (
      go_wp2_with (first
        | (at_builtin; refine wpList_app1 119 5 (.int .u8 0) 1 info5 rfl NatW.u119 (by decide) rfl _ _ rfl hown rfl rfl (by rfl) (by exact ⟨_, rfl⟩) (by omega) hbw.size ?_; intro v1 w1 ho1 hb1; replace hbw := hbw.trans hb1; replace hown := ho1; clear ho1 hb1)
        | (refine wpList_mk0 rfl _ _ rfl (d.size + 0 + 2) _ rfl rfl (by omega) (by omega) w.heap.size (Nat.le_refl _) ?_; intro v0 w0 hown hbw))
      all_goals
        go_loopw [10, 11] (fun v t wr => ∃ (i c : Nat), t = .int .i64 i ∧ i ≤ d.size + 0 ∧ Own wr w.heap.size 5 v c isB ∧ c ≤ 2 * i + 1 ∧ Below w.heap.size w wr) (fun v t _ => d.size + 0 - (intOf t).toNat)
        case atStart => exact ⟨0, _, rfl, by omega, hown, by omega, hbw⟩
        case round =>
          clear hown hbw
          obtain ⟨i, c, rfl, hi, hown, hc, hbw⟩ := hrel
          by_cases hl : i < d.size + 0
          · by_cases hcut : (i : Int) = (d.size : Int) + 0 - p
            all_goals by_cases hpd : i < 0
            all_goals have hix := fun (h : ¬ i < 0) => index_str d (i - 0) ((i : Int) - 0) (by omega) (by omega)
            all_goals try replace hix := hix hpd
            all_goals have hbt := byt_lt d (i - 0)
            all_goals have hcut' : ((i : Int) == (d.size : Int) + 0 - p) = decide ((i : Int) = (d.size : Int) + 0 - p) := rfl
            all_goals simp only [hcut, decide_true, decide_false] at hcut'
            all_goals go_wp2_with (first
              | (at_builtin; refine wpList_app1 119 5 (.int .u8 0) 1 info5 rfl NatW.u119 (by decide) rfl _ _ rfl hown rfl rfl (by rfl) (by exact ⟨_, rfl⟩) (by omega) hbw.size ?_; intro v1 w1 ho1 hb1; replace hbw := hbw.trans hb1; replace hown := ho1; clear ho1 hb1))
            all_goals first
              | exact ⟨⟨i + 1, _, congrArg (Value.int .i64) (by omega), by omega, hown, by omega, hbw⟩, by simp only [intOf]; omega⟩
              | skip
          · have hi' : i = d.size + 0 := by omega
            obtain ⟨s, hs, hcv⟩ := hown.string
            go_wp2_with fail
            first
              | exact unhide HK _ _ ⟨_, rfl, by omega⟩ hbw
              | skip)
  · cases n
    all_goals (
      go_wp2_with (first
        | (at_builtin; refine wpList_app1 119 5 (.int .u8 0) 1 info5 rfl NatW.u119 (by decide) rfl _ _ rfl hown rfl rfl (by rfl) (by exact ⟨_, rfl⟩) (by omega) hbw.size ?_; intro v1 w1 ho1 hb1; replace hbw := hbw.trans hb1; replace hown := ho1; clear ho1 hb1)
        | (refine wpList_mk0 rfl _ _ rfl (d.size + (p + 1 - d.size) + 2) _ rfl rfl (by omega) (by omega) w.heap.size (Nat.le_refl _) ?_; intro v0 w0 hown hbw))
      all_goals
        go_loopw [10, 11] (fun v t wr => ∃ (i c : Nat), t = .int .i64 i ∧ i ≤ d.size + (p + 1 - d.size) ∧ Own wr w.heap.size 5 v c isB ∧ c ≤ 2 * i + 1 ∧ Below w.heap.size w wr) (fun v t _ => d.size + (p + 1 - d.size) - (intOf t).toNat)
        case atStart => exact ⟨0, _, rfl, by omega, hown, by omega, hbw⟩
        case round =>
          clear hown hbw
          obtain ⟨i, c, rfl, hi, hown, hc, hbw⟩ := hrel
          by_cases hl : i < d.size + (p + 1 - d.size)
          · by_cases hcut : (i : Int) = (d.size : Int) + ((p : Int) + 1 - d.size) - p
            all_goals by_cases hpd : i < (p + 1 - d.size)
            all_goals have hix := fun (h : ¬ i < (p + 1 - d.size)) => index_str d (i - (p + 1 - d.size)) ((i : Int) - ((p : Int) + 1 - d.size)) (by omega) (by omega)
            all_goals try replace hix := hix hpd
            all_goals have hbt := byt_lt d (i - (p + 1 - d.size))
            all_goals have hcut' : ((i : Int) == (d.size : Int) + ((p : Int) + 1 - d.size) - p) = decide ((i : Int) = (d.size : Int) + ((p : Int) + 1 - d.size) - p) := rfl
            all_goals simp only [hcut, decide_true, decide_false] at hcut'
            all_goals go_wp2_with (first
              | (at_builtin; refine wpList_app1 119 5 (.int .u8 0) 1 info5 rfl NatW.u119 (by decide) rfl _ _ rfl hown rfl rfl (by rfl) (by exact ⟨_, rfl⟩) (by omega) hbw.size ?_; intro v1 w1 ho1 hb1; replace hbw := hbw.trans hb1; replace hown := ho1; clear ho1 hb1))
            all_goals first
              | exact ⟨⟨i + 1, _, congrArg (Value.int .i64) (by omega), by omega, hown, by omega, hbw⟩, by simp only [intOf]; omega⟩
              | skip
          · have hi' : i = d.size + (p + 1 - d.size) := by omega
            obtain ⟨s, hs, hcv⟩ := hown.string
            go_wp2_with fail
            first
              | exact unhide HK _ _ ⟨_, rfl, by omega⟩ hbw
              | skip)

end Go.Proofs.YgcoaaGreat.NatW
