/-
  Package dec: TextF, exactly.
-/
import Derived.Test.YgcoaaGreatAppY
import Derived.Test.YgcoaaGreatDecE
import Derived.Test.YgcoaaGreatDmB
set_option linter.unusedVariables false
set_option linter.unusedSimpArgs false
set_option maxRecDepth 20000
namespace Go.Proofs.YgcoaaGreat.NatW
attribute [local go_sem] Go.Instr.field Go.asAgg
open Go.RowKit

theorem bytAt (d : ByteArray) (i j : Nat) (h : i = j) (hj : j < d.size) : byt d i = ((d[j]'hj).toNat : Int) := by
  subst h
  exact (byt_at d i hj).symm
theorem rowX_cast {w : World} {base : Nat} {av : Nat → Prop} {v : Value} {xs ys : List Value} (h : w.rowX base av v xs) (e : xs = ys) : w.rowX base av v ys := e ▸ h

/-- What TextF has put together behind i rounds. -/
def tfL (neg : Bool) (d : ByteArray) (pad : Nat) (cut : Int) : Nat → List Int
  | 0 => if neg then [45] else []
  | i + 1 => tfL neg d pad cut i ++ (if (i : Int) = cut then [46] else []) ++ [if i < pad then 48 else (byt d (i - pad) : Int)]
theorem tfL_zero (neg : Bool) (d : ByteArray) (pad : Nat) (cut : Int) : tfL neg d pad cut 0 = if neg then [45] else [] := rfl
theorem tfL_succ (neg : Bool) (d : ByteArray) (pad : Nat) (cut : Int) (i : Nat) : tfL neg d pad cut (i + 1) = tfL neg d pad cut i ++ (if (i : Int) = cut then [46] else []) ++ [if i < pad then 48 else (byt d (i - pad) : Int)] := rfl
theorem tfL_len (neg : Bool) (d : ByteArray) (pad : Nat) (cut : Int) (i : Nat) : (tfL neg d pad cut i).length ≤ 2 * i + 1 := by
  induction i with
  | zero => cases neg <;> simp [tfL]
  | succ i ih =>
    rw [tfL_succ]
    simp only [List.length_append, List.length_cons, List.length_nil]
    split <;> simp <;> omega

set_option maxHeartbeats 2000000 in
theorem textF_x (n : Bool) (d : ByteArray) (hd : d.size ≤ 100000) (p : Nat) (hp : p ≤ 65535) : ∃ s : ByteArray, s.size ≤ 300000 ∧ DF 366 #[.bool n, .string d, .int .u16 p] (.string s) := by
  have te := toList_empty d
  by_cases h0 : d.size = 0
  · simp only [h0, decide_true] at te
    refine ⟨⟨#[]⟩, Nat.zero_le _, fun w tb K hon hK => ?_⟩
    have HK := hide hK
    clear hK
    go_enter Oaag.func366, Oaag.ntmps366
    go_wp2_with fail
    exact unhide HK _ (Below.refl _ _)
  simp only [h0, decide_false] at te
  by_cases hp2 : 2000 < p
  · refine ⟨⟨#[]⟩, Nat.zero_le _, fun w tb K hon hK => ?_⟩
    have HK := hide hK
    clear hK
    go_enter Oaag.func366, Oaag.ntmps366
    go_wp2_with fail
    exact unhide HK _ (Below.refl _ _)
  by_cases hq : p + 1 ≤ d.size
  · refine ⟨strOfNums (tfL n d 0 ((d.size : Int) + 0 - p) (d.size + 0)), by rw [strOfNums_size]; have := tfL_len n d 0 ((d.size : Int) + 0 - p) (d.size + 0); omega, fun w tb K hon hK => ?_⟩
    have HK := hide hK
    clear hK
    clear hon
    go_enter Oaag.func366, Oaag.ntmps366

    have hL := tfL_len n d (0) ((d.size : Int) + 0 - p)
    have hS := tfL_succ n d (0) ((d.size : Int) + 0 - p)
    have hZ := tfL_zero n d (0) ((d.size : Int) + 0 - p)
    generalize tfL n d (0) ((d.size : Int) + 0 - p) = L at hL hS hZ HK
    cases n
    all_goals (
      go_wp2_with (first
        | (at_builtin; refine wpList_appX 119 5 (.int .u8 0) 1 info5 rfl NatW.u119 (by decide) rfl _ _ rfl hown rfl rfl (by rfl) (by simp only [List.length_append, List.length_map, List.length_cons, List.length_nil]; skip; omega) hbw.size (fun _ _ h => h) ?_; intro v1 w1 ho1 hb1; replace hbw := hbw.trans hb1.below; replace hown := ho1; clear ho1 hb1)
        | (refine wpList_mkX rfl _ _ rfl (d.size + 0 + 2) _ rfl rfl (by omega) (by omega) w.heap.size (fun _ => False) (Nat.le_refl _) (fun _ _ h => h) ?_; intro v0 w0 hown hbw))
      all_goals
        go_loopw [10, 11] (fun v t wr => ∃ i : Nat, t = .int .i64 i ∧ i ≤ d.size + 0 ∧ wr.rowX w.heap.size (fun _ => False) v ((L i).map (.int .u8)) ∧ Below w.heap.size w wr) (fun v t _ => d.size + 0 - (intOf t).toNat)
        case atStart => exact ⟨0, rfl, by omega, by rw [hZ]; exact hown, hbw⟩
        case round =>
          clear hown hbw
          obtain ⟨i, rfl, hi, hown, hbw⟩ := hrel
          have hLi := hL i
          by_cases hl : i < d.size + 0
          · by_cases hcut : (i : Int) = (d.size : Int) + 0 - p
            all_goals by_cases hpd : i < 0
            all_goals have hix := fun (h : ¬ i < 0) => index_str d (i - 0) ((i : Int) - 0) (by omega) (by omega)
            all_goals try replace hix := hix hpd
            all_goals have hbt := byt_lt d (i - 0)
            all_goals have hcut' : ((i : Int) == (d.size : Int) + 0 - p) = decide ((i : Int) = (d.size : Int) + 0 - p) := rfl
            all_goals simp only [hcut, decide_true, decide_false] at hcut'
            all_goals have hSi := hS i
            all_goals have HS := hide hSi
            all_goals clear hSi
            all_goals go_wp2_with (first
              | (at_builtin; refine wpList_appX 119 5 (.int .u8 0) 1 info5 rfl NatW.u119 (by decide) rfl _ _ rfl hown rfl rfl (by rfl) (by simp only [List.length_append, List.length_map, List.length_cons, List.length_nil]; skip; omega) hbw.size (fun _ _ h => h) ?_; intro v1 w1 ho1 hb1; replace hbw := hbw.trans hb1.below; replace hown := ho1; clear ho1 hb1))
            all_goals first
              | exact ⟨⟨i + 1, congrArg (Value.int .i64) (by omega), by omega, by rw [unhide HS]; (first | simpa [hcut, hpd] using hown | (refine rowX_cast hown ?_; first | (rw [bytAt d (i - 0) (d.size + 0 - p - 0) (by omega) (by omega)]; simp [hcut, hpd]; done) | (rw [bytAt d (i - 0) (d.size - p) (by omega) (by omega)]; simp [hcut, hpd]; done) | (rw [bytAt d (i - 0) i (by omega) (by omega)]; simp [hcut, hpd]; done) | (rw [bytAt d (i - 0) i (by omega) (by omega)]; simp [hcut, hpd]; omega) | (rw [bytAt d (i - 0) (d.size + 0 - p - 0) (by omega) (by omega)]; simp [hcut, hpd]; omega))), hbw⟩, by simp only [intOf]; omega⟩
              | skip
          · have hi' : i = d.size + 0 := by omega
            have hcv := rowX_string _ hown
            go_wp2_with fail
            first
              | (rw [hi']; exact unhide HK _ hbw)
              | skip)
  · refine ⟨strOfNums (tfL n d (p + 1 - d.size) ((d.size : Int) + ((p : Int) + 1 - d.size) - p) (d.size + (p + 1 - d.size))), by rw [strOfNums_size]; have := tfL_len n d (p + 1 - d.size) ((d.size : Int) + ((p : Int) + 1 - d.size) - p) (d.size + (p + 1 - d.size)); omega, fun w tb K hon hK => ?_⟩
    have HK := hide hK
    clear hK
    clear hon
    go_enter Oaag.func366, Oaag.ntmps366

    have hL := tfL_len n d ((p + 1 - d.size)) ((d.size : Int) + ((p : Int) + 1 - d.size) - p)
    have hS := tfL_succ n d ((p + 1 - d.size)) ((d.size : Int) + ((p : Int) + 1 - d.size) - p)
    have hZ := tfL_zero n d ((p + 1 - d.size)) ((d.size : Int) + ((p : Int) + 1 - d.size) - p)
    generalize tfL n d ((p + 1 - d.size)) ((d.size : Int) + ((p : Int) + 1 - d.size) - p) = L at hL hS hZ HK
    cases n
    all_goals (
      go_wp2_with (first
        | (at_builtin; refine wpList_appX 119 5 (.int .u8 0) 1 info5 rfl NatW.u119 (by decide) rfl _ _ rfl hown rfl rfl (by rfl) (by simp only [List.length_append, List.length_map, List.length_cons, List.length_nil]; skip; omega) hbw.size (fun _ _ h => h) ?_; intro v1 w1 ho1 hb1; replace hbw := hbw.trans hb1.below; replace hown := ho1; clear ho1 hb1)
        | (refine wpList_mkX rfl _ _ rfl (d.size + (p + 1 - d.size) + 2) _ rfl rfl (by omega) (by omega) w.heap.size (fun _ => False) (Nat.le_refl _) (fun _ _ h => h) ?_; intro v0 w0 hown hbw))
      all_goals
        go_loopw [10, 11] (fun v t wr => ∃ i : Nat, t = .int .i64 i ∧ i ≤ d.size + (p + 1 - d.size) ∧ wr.rowX w.heap.size (fun _ => False) v ((L i).map (.int .u8)) ∧ Below w.heap.size w wr) (fun v t _ => d.size + (p + 1 - d.size) - (intOf t).toNat)
        case atStart => exact ⟨0, rfl, by omega, by rw [hZ]; exact hown, hbw⟩
        case round =>
          clear hown hbw
          obtain ⟨i, rfl, hi, hown, hbw⟩ := hrel
          have hLi := hL i
          by_cases hl : i < d.size + (p + 1 - d.size)
          · by_cases hcut : (i : Int) = (d.size : Int) + ((p : Int) + 1 - d.size) - p
            all_goals by_cases hpd : i < (p + 1 - d.size)
            all_goals have hix := fun (h : ¬ i < (p + 1 - d.size)) => index_str d (i - (p + 1 - d.size)) ((i : Int) - ((p : Int) + 1 - d.size)) (by omega) (by omega)
            all_goals try replace hix := hix hpd
            all_goals have hbt := byt_lt d (i - (p + 1 - d.size))
            all_goals have hcut' : ((i : Int) == (d.size : Int) + ((p : Int) + 1 - d.size) - p) = decide ((i : Int) = (d.size : Int) + ((p : Int) + 1 - d.size) - p) := rfl
            all_goals simp only [hcut, decide_true, decide_false] at hcut'
            all_goals have hSi := hS i
            all_goals have HS := hide hSi
            all_goals clear hSi
            all_goals go_wp2_with (first
              | (at_builtin; refine wpList_appX 119 5 (.int .u8 0) 1 info5 rfl NatW.u119 (by decide) rfl _ _ rfl hown rfl rfl (by rfl) (by simp only [List.length_append, List.length_map, List.length_cons, List.length_nil]; skip; omega) hbw.size (fun _ _ h => h) ?_; intro v1 w1 ho1 hb1; replace hbw := hbw.trans hb1.below; replace hown := ho1; clear ho1 hb1))
            all_goals first
              | exact ⟨⟨i + 1, congrArg (Value.int .i64) (by omega), by omega, by rw [unhide HS]; (first | simpa [hcut, hpd] using hown | (refine rowX_cast hown ?_; first | (rw [bytAt d (i - (p + 1 - d.size)) (d.size + (p + 1 - d.size) - p - (p + 1 - d.size)) (by omega) (by omega)]; simp [hcut, hpd]; done) | (rw [bytAt d (i - (p + 1 - d.size)) (d.size - p) (by omega) (by omega)]; simp [hcut, hpd]; done) | (rw [bytAt d (i - (p + 1 - d.size)) i (by omega) (by omega)]; simp [hcut, hpd]; done) | (rw [bytAt d (i - (p + 1 - d.size)) i (by omega) (by omega)]; simp [hcut, hpd]; omega) | (rw [bytAt d (i - (p + 1 - d.size)) (d.size + (p + 1 - d.size) - p - (p + 1 - d.size)) (by omega) (by omega)]; simp [hcut, hpd]; omega))), hbw⟩, by simp only [intOf]; omega⟩
              | skip
          · have hi' : i = d.size + (p + 1 - d.size) := by omega
            have hcv := rowX_string _ hown
            go_wp2_with fail
            first
              | (rw [hi']; exact unhide HK _ hbw)
              | skip)

end Go.Proofs.YgcoaaGreat.NatW
