/-
  Package slow: shl.
-/
import Derived.Test.YgcoaaGreatSlF
import Derived.Test.YgcoaaGreatWxA
set_option linter.unusedVariables false
set_option linter.unusedSimpArgs false
set_option maxRecDepth 20000
namespace Go.Proofs.YgcoaaGreat.NatW
open Go.RowKit
open Go.Proofs.YgcoaaGreat.Det
open Go.Proofs.YgcoaaGreat.Limbs Go.Proofs.YgcoaaGreat.Bits
attribute [local go_sem] Go.Instr.field Go.asAgg

/-- Limb j behind a shift by 64 mv + s. -/
def shv (c : Nat → Nat) (mv s j : Nat) : Nat := if j < mv then 0 else (c (j - mv) * 2 ^ s % 18446744073709551616) ||| (if 0 < j - mv ∧ 0 < s then c (j - mv - 1) / 2 ^ (64 - s) else 0)
def ShR (b n n1 mv s : Nat) (c0 : Nat → Nat) (w : World) (t7 : Value) (wr : World) : Prop :=
  ∃ (i : Nat) (c : Nat → Nat), i ≤ n1 ∧ t7 = .int .i64 ((i : Int) - 1) ∧ (∀ j, j < i → c j = c0 j) ∧ (∀ j, i ≤ j → j < n1 → c j = shv c0 mv s j) ∧ (∀ j, n1 ≤ j → c j = c0 j) ∧ BigX b n c wr ∧ wr.tape = (fun _ _ => 0) ∧ Keep b w wr

theorem shv_lt (c : Nat → Nat) (h : ∀ i, c i < 18446744073709551616) (mv s j : Nat) (hs : s < 64) : shv c mv s j < 18446744073709551616 := by
  unfold shv
  split
  · omega
  · have e : (18446744073709551616 : Nat) = 2 ^ 64 := by decide
    rw [e]
    refine Nat.or_lt_two_pow ?_ ?_
    · exact Nat.mod_lt _ (by decide)
    · split
      · exact Nat.lt_of_le_of_lt (Nat.div_le_self _ _) (by rw [← e]; exact h _)
      · decide
theorem wr_mul (x s : Nat) : IntKind.u64.wrap ((x : Int) * 2 ^ s) = ((x * 2 ^ s % 18446744073709551616 : Nat) : Int) := by
  rw [wrapE]; simp
theorem sh_step {b n n1 mv s m : Nat} {c0 c : Nat → Nat} {w wr : World} (h0 : ∀ i, c0 i < 18446744073709551616) (hs : s < 64) (hm : m + 1 ≤ n1) (hlo : ∀ j, j < m + 1 → c j = c0 j) (hmid : ∀ j, m + 1 ≤ j → j < n1 → c j = shv c0 mv s j) (hhi : ∀ j, n1 ≤ j → c j = c0 j) (hX : BigX b n c wr) (hT : wr.tape = fun _ _ => 0) (hK : Keep b w wr) (v : Int) (hv : v = ((shv c0 mv s m : Nat) : Int)) :
    ShR b n n1 mv s c0 w (.int .i64 ((m : Int) - 1)) (wr.setCell ⟨b, 1 + m, none⟩ (.int .u64 v)) := by
  subst hv
  refine ⟨m, ins c m (shv c0 mv s m), by omega, rfl, fun j hj => ?_, fun j h1 h2 => ?_, fun j hj => ?_, hX.set m _ (shv_lt c0 h0 mv s m hs), hT, hK.set _ (.inl rfl)⟩
  · unfold ins; rw [if_neg (by omega)]; exact hlo j (by omega)
  · unfold ins
    split
    · rename_i e; rw [e]
    · exact hmid j (by omega) h2
  · unfold ins; rw [if_neg (by omega)]; exact hhi j hj
def ShP (b n1 mv s : Nat) (c0 : Nat → Nat) (w w' : World) : Prop := ∃ (n' : Nat) (c : Nat → Nat), BigX b n' c w' ∧ n' ≤ n1 ∧ (∀ j, j < n1 → c j = shv c0 mv s j) ∧ (∀ j, n1 ≤ j → c j = c0 j) ∧ (∀ j, n' ≤ j → j < n1 → c j = 0) ∧ (n' = 0 ∨ c (n' - 1) ≠ 0) ∧ w'.tape = (fun _ _ => 0) ∧ Keep b w w'

theorem sh_or (c0 c : Nat → Nat) (mv s m e : Nat) (hlt : ¬ m < mv) (hdn : m - mv = e + 1) (hs0 : 0 < s) (h : ∀ i, c0 i < 18446744073709551616) (ed : c (e + 1) = c0 (e + 1)) (ee : c e = c0 e) : bits .or .u64 (IntKind.u64.wrap ((c (e + 1) : Int) * 2 ^ s)) ((c e : Int) / 2 ^ (64 - s)) = ((shv c0 mv s m : Nat) : Int) := by
  have hd : ((c e : Int) / 2 ^ (64 - s)) = ((c e / 2 ^ (64 - s) : Nat) : Int) := by simp
  rw [wr_mul, hd, u64_or_nat _ _ (Nat.mod_lt _ (by decide)) (Nat.lt_of_le_of_lt (Nat.div_le_self _ _) (by rw [ee]; exact h e))]
  unfold shv
  rw [if_neg hlt, hdn, if_pos ⟨by omega, hs0⟩, ed, ee]
  rfl

set_option maxHeartbeats 8000000 in
theorem shl_run (w : World) (b n : Nat) (c0 : Nat → Nat) (k : Int) (mv s : Nat) (hk0 : 0 ≤ k) (hk1 : k ≤ 4000) (hq1 : k / 64 = (mv : Int)) (hq2 : k % 64 = (s : Int)) (hX : BigX b n c0 w) (ht : w.tape = fun _ _ => 0) :
    Calls Oaag.prog 356 #[.pointer (some ⟨b, 0, none⟩), .int .i64 k] w (fun z w' => z = .returned (.tuple #[]) ∧ ShP b (min (n + mv + 1) 52) mv s c0 w w') := by
  have kn := hX.cn
  have n52 := hX.n52
  have u0 := hX.u
  have hs : s < 64 := by omega
  have hmv : mv ≤ 63 := by omega
  have HX := hide hX
  have HT := hide ht
  have HU := hide u0
  clear hX ht u0
  rcases Nat.lt_or_ge 51 (n + mv) with hc | hc
  · obtain ⟨n1, hn1⟩ : ∃ n1 : Nat, n1 = 52 := ⟨_, rfl⟩
    have h52 : n1 ≤ 52 := by omega
    have HM := hide (show n1 = min (n + mv + 1) 52 by omega)
    go_enter Oaag.func356, Oaag.ntmps356
    go_wp2_with fail
    go_loopw [7, 8, 9] (fun t7 _ _ wr => ShR b n n1 mv s c0 w t7 wr) (fun t7 _ _ _ => (intOf t7 + 1).toNat)
    case atStart => exact ⟨n1, c0, Nat.le_refl _, by first | rfl | (congr 1; omega), fun _ _ => rfl, fun j h1 h2 => by omega, fun _ _ => rfl, unhide HX, unhide HT, Keep.refl _ _⟩
    case round =>
      obtain ⟨i, c, hi, rfl, hlo, hmid, hhi, hX, hT, hK⟩ := hrel
      rcases Nat.eq_zero_or_pos i with h0 | h0
      · subst h0
        go_wp2_with fail
        go_loop [6] (fun t6 => ∃ n' : Nat, t6 = .int .i64 n' ∧ n' ≤ n1 ∧ ∀ j, n' ≤ j → j < n1 → c j = 0) (fun t6 => (intOf t6).toNat)
        case atStart => exact ⟨n1, by first | rfl | (congr 1; omega), Nat.le_refl _, fun j h1 h2 => by omega⟩
        case round =>
          obtain ⟨n', rfl, hn', hzz⟩ := hrel
          have f0 := hX.mine.2 0
          have kn' := hX.cn
          rcases Nat.eq_zero_or_pos n' with h0 | h0
          · subst h0
            go_wp2_with fail
            all_goals
              refine bodyPost_nor (v := .tuple #[]) (by simp [results, Oaag.results356, go_sem]) rfl ⟨rfl, ?_⟩
              first | rw [← unhide HM] | rw [show n + mv + 1 = n1 by omega]
              exact ⟨0, c, hX.setn 0 (by omega), by omega, fun j hj => hmid j (by omega) hj, hhi, hzz, .inl rfl, hT, hK.set _ (.inl rfl)⟩
          · obtain ⟨m, rfl⟩ : ∃ m, n' = m + 1 := ⟨n' - 1, by omega⟩
            have km := hX.cw m (by omega)
            by_cases hcm : c m = 0
            · have hcm' : ((c m : Nat) : Int) = 0 := by omega
              go_wp2_with fail
              exact ⟨⟨m, by congr 1, by omega, fun j h1 h2 => by
                by_cases e : j = m
                · rw [e]; exact hcm
                · exact hzz j (by omega) h2⟩, by simp [intOf]⟩
            · have hcm' : ¬ (((c m : Nat) : Int) = 0) := by omega
              go_wp2_with fail
              all_goals
                refine bodyPost_nor (v := .tuple #[]) (by simp [results, Oaag.results356, go_sem]) rfl ⟨rfl, ?_⟩
                first | rw [← unhide HM] | rw [show n + mv + 1 = n1 by omega]
                exact ⟨m + 1, c, hX.setn (m + 1) (by omega), by omega, fun j hj => hmid j (by omega) hj, hhi, hzz, .inr (by simpa using hcm), hT, hK.set _ (.inl rfl)⟩
      · obtain ⟨m, rfl⟩ : ∃ m, i = m + 1 := ⟨i - 1, by omega⟩
        have em : (((m + 1 : Nat) : Int) - 1) = (m : Int) := by omega
        rw [em]
        have km := hX.cw m (by omega)
        have fm := hX.mine.2 (1 + m)
        by_cases hlt : m < mv
        · go_wp2_with fail
          exact ⟨sh_step (unhide HU) hs hi hlo hmid hhi hX hT hK 0 (by unfold shv; rw [if_pos hlt]; rfl), by simp only [intOf]; omega⟩
        · obtain ⟨d, hd⟩ : ∃ d : Nat, (m : Int) - (mv : Int) = (d : Int) := ⟨m - mv, by omega⟩
          have hdn : m - mv = d := by omega
          have kd := hX.cw d (by omega)
          have ed := hlo d (by omega)
          rcases Nat.eq_zero_or_pos d with hd0 | hd0
          · subst hd0
            go_wp2_with fail
            exact ⟨sh_step (unhide HU) hs hi hlo hmid hhi hX hT hK _ (by unfold shv; rw [if_neg hlt, hdn, wr_mul]; simp), by simp only [intOf]; omega⟩
          · obtain ⟨e, rfl⟩ : ∃ e, d = e + 1 := ⟨d - 1, by omega⟩
            have ke := hX.cw e (by omega)
            have ee := hlo e (by omega)
            have u1 := unhide HU e
            rcases Nat.eq_zero_or_pos s with hs0 | hs0
            · subst hs0
              go_wp2_with fail
              all_goals exact ⟨sh_step (unhide HU) hs hi hlo hmid hhi hX hT hK _ (by unfold shv; rw [if_neg hlt, hdn]; simp [wrapE, ed]; first | done | omega), by simp only [intOf]; omega⟩
            · go_wp2_with fail
              all_goals exact ⟨sh_step (unhide HU) hs hi hlo hmid hhi hX hT hK _ (sh_or c0 c0 mv s m e hlt hdn hs0 (unhide HU) rfl rfl), by simp only [intOf]; omega⟩
  · obtain ⟨n1, hn1⟩ : ∃ n1 : Nat, (n : Int) + (mv : Int) + 1 = (n1 : Int) := ⟨n + mv + 1, by omega⟩
    have h52 : n1 ≤ 52 := by omega
    have hle : (n1 : Int) ≤ 52 := by omega
    have HM := hide (show n1 = min (n + mv + 1) 52 by omega)
    go_enter Oaag.func356, Oaag.ntmps356
    go_wp2_with fail
    go_loopw [7, 8, 9] (fun t7 _ _ wr => ShR b n n1 mv s c0 w t7 wr) (fun t7 _ _ _ => (intOf t7 + 1).toNat)
    case atStart => exact ⟨n1, c0, Nat.le_refl _, by first | rfl | (congr 1; omega), fun _ _ => rfl, fun j h1 h2 => by omega, fun _ _ => rfl, unhide HX, unhide HT, Keep.refl _ _⟩
    case round =>
      obtain ⟨i, c, hi, rfl, hlo, hmid, hhi, hX, hT, hK⟩ := hrel
      rcases Nat.eq_zero_or_pos i with h0 | h0
      · subst h0
        go_wp2_with fail
        go_loop [6] (fun t6 => ∃ n' : Nat, t6 = .int .i64 n' ∧ n' ≤ n1 ∧ ∀ j, n' ≤ j → j < n1 → c j = 0) (fun t6 => (intOf t6).toNat)
        case atStart => exact ⟨n1, by first | rfl | (congr 1; omega), Nat.le_refl _, fun j h1 h2 => by omega⟩
        case round =>
          obtain ⟨n', rfl, hn', hzz⟩ := hrel
          have f0 := hX.mine.2 0
          have kn' := hX.cn
          rcases Nat.eq_zero_or_pos n' with h0 | h0
          · subst h0
            go_wp2_with fail
            all_goals
              refine bodyPost_nor (v := .tuple #[]) (by simp [results, Oaag.results356, go_sem]) rfl ⟨rfl, ?_⟩
              first | rw [← unhide HM] | rw [show n + mv + 1 = n1 by omega]
              exact ⟨0, c, hX.setn 0 (by omega), by omega, fun j hj => hmid j (by omega) hj, hhi, hzz, .inl rfl, hT, hK.set _ (.inl rfl)⟩
          · obtain ⟨m, rfl⟩ : ∃ m, n' = m + 1 := ⟨n' - 1, by omega⟩
            have km := hX.cw m (by omega)
            by_cases hcm : c m = 0
            · have hcm' : ((c m : Nat) : Int) = 0 := by omega
              go_wp2_with fail
              exact ⟨⟨m, by congr 1, by omega, fun j h1 h2 => by
                by_cases e : j = m
                · rw [e]; exact hcm
                · exact hzz j (by omega) h2⟩, by simp [intOf]⟩
            · have hcm' : ¬ (((c m : Nat) : Int) = 0) := by omega
              go_wp2_with fail
              all_goals
                refine bodyPost_nor (v := .tuple #[]) (by simp [results, Oaag.results356, go_sem]) rfl ⟨rfl, ?_⟩
                first | rw [← unhide HM] | rw [show n + mv + 1 = n1 by omega]
                exact ⟨m + 1, c, hX.setn (m + 1) (by omega), by omega, fun j hj => hmid j (by omega) hj, hhi, hzz, .inr (by simpa using hcm), hT, hK.set _ (.inl rfl)⟩
      · obtain ⟨m, rfl⟩ : ∃ m, i = m + 1 := ⟨i - 1, by omega⟩
        have em : (((m + 1 : Nat) : Int) - 1) = (m : Int) := by omega
        rw [em]
        have km := hX.cw m (by omega)
        have fm := hX.mine.2 (1 + m)
        by_cases hlt : m < mv
        · go_wp2_with fail
          exact ⟨sh_step (unhide HU) hs hi hlo hmid hhi hX hT hK 0 (by unfold shv; rw [if_pos hlt]; rfl), by simp only [intOf]; omega⟩
        · obtain ⟨d, hd⟩ : ∃ d : Nat, (m : Int) - (mv : Int) = (d : Int) := ⟨m - mv, by omega⟩
          have hdn : m - mv = d := by omega
          have kd := hX.cw d (by omega)
          have ed := hlo d (by omega)
          rcases Nat.eq_zero_or_pos d with hd0 | hd0
          · subst hd0
            go_wp2_with fail
            exact ⟨sh_step (unhide HU) hs hi hlo hmid hhi hX hT hK _ (by unfold shv; rw [if_neg hlt, hdn, wr_mul]; simp), by simp only [intOf]; omega⟩
          · obtain ⟨e, rfl⟩ : ∃ e, d = e + 1 := ⟨d - 1, by omega⟩
            have ke := hX.cw e (by omega)
            have ee := hlo e (by omega)
            have u1 := unhide HU e
            rcases Nat.eq_zero_or_pos s with hs0 | hs0
            · subst hs0
              go_wp2_with fail
              all_goals exact ⟨sh_step (unhide HU) hs hi hlo hmid hhi hX hT hK _ (by unfold shv; rw [if_neg hlt, hdn]; simp [wrapE, ed]; first | done | omega), by simp only [intOf]; omega⟩
            · go_wp2_with fail
              all_goals exact ⟨sh_step (unhide HU) hs hi hlo hmid hhi hX hT hK _ (sh_or c0 c0 mv s m e hlt hdn hs0 (unhide HU) rfl rfl), by simp only [intOf]; omega⟩
end Go.Proofs.YgcoaaGreat.NatW
