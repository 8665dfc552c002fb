/-
  Package hexa: digit, Make.
-/
import Derived.Test.YgcoaaGreatApp
import Derived.Test.YgcoaaGreatDecC
set_option linter.unusedVariables false
set_option linter.unusedSimpArgs false
set_option maxRecDepth 20000
namespace Go.Proofs.YgcoaaGreat.NatW
open Go.RowKit
attribute [local go_sem] Go.Instr.field Go.asAgg

/-- What digit answers. -/
def hexD (r : Int) : Int := if 48 ≤ r ∧ r ≤ 57 then r - 48 else if 97 ≤ r ∧ r ≤ 102 then r - 97 + 10 else if 65 ≤ r ∧ r ≤ 70 then r - 65 + 10 else -1
theorem hexD_rng (r : Int) : -1 ≤ hexD r ∧ hexD r ≤ 15 := by unfold hexD; split; omega; split; omega; split <;> omega

/-- It returns this very value and turns nothing. -/
def Says (g : FuncId) (args : Array Value) (v : Value) : Prop := ∀ (w : World) (K : Ending → World → Prop), K (.returned v) w → Calls Oaag.prog g args w K
theorem Says.run {g : FuncId} {args : Array Value} {v : Value} (h : Says g args v) {w : World} {K : Ending → World → Prop} (hK : K (.returned v) w) : Calls Oaag.prog g args w K := h w K hK

theorem digit_says (r : Int) (h0 : 0 ≤ r) (h1 : r ≤ 2147483647) : Says 378 #[.int .i32 r] (.int .i64 (hexD r)) := by
  intro w K hK
  have HK := hide hK
  clear hK
  unfold hexD at HK
  by_cases a1 : 48 ≤ r
  · by_cases a2 : r ≤ 57
    · rw [if_pos ⟨a1, a2⟩] at HK
      go_enter Oaag.func378, Oaag.ntmps378
      go_wp2_with fail
      exact unhide HK
    · rw [if_neg (by omega)] at HK
      by_cases b1 : 97 ≤ r
      · by_cases b2 : r ≤ 102
        · rw [if_pos ⟨b1, b2⟩] at HK
          go_enter Oaag.func378, Oaag.ntmps378
          go_wp2_with fail
          exact unhide HK
        · rw [if_neg (by omega), if_neg (by omega)] at HK
          go_enter Oaag.func378, Oaag.ntmps378
          go_wp2_with fail
          exact unhide HK
      · rw [if_neg (by omega)] at HK
        by_cases c1 : 65 ≤ r
        · by_cases c2 : r ≤ 70
          · rw [if_pos ⟨c1, c2⟩] at HK
            go_enter Oaag.func378, Oaag.ntmps378
            go_wp2_with fail
            exact unhide HK
          · rw [if_neg (by omega)] at HK
            go_enter Oaag.func378, Oaag.ntmps378
            go_wp2_with fail
            exact unhide HK
        · rw [if_neg (by omega)] at HK
          go_enter Oaag.func378, Oaag.ntmps378
          go_wp2_with fail
          exact unhide HK
  · rw [if_neg (by omega), if_neg (by omega), if_neg (by omega)] at HK
    go_enter Oaag.func378, Oaag.ntmps378
    go_wp2_with fail
    exact unhide HK

theorem u385 : Oaag.prog.underlying 385 = some (.array 2048 5) := by kernel_rfl
theorem z385 : ((Oaag.prog.info? 385).bind fun i => i.zero.map fun z => z.cells) = some (Array.replicate 2048 (.int .u8 0)) := by kernel_rfl

set_option maxHeartbeats 4000000 in
theorem hmake_ret (n : Bool) (d : ByteArray) (e : Int) (h1 : -1000000000 ≤ e) (h2 : e ≤ 1000000000) (hd : d.size ≤ 1000000) : Ret 371 #[.bool n, .string d, .int .i64 e] (fun v => ∃ n' d' e' ok, v = .tuple #[.agg #[.bool n', .string d', .int .i16 e'], .bool ok] ∧ d'.size ≤ 800 ∧ -16000 ≤ e' ∧ e' ≤ 16000) := by
  intro w K hK
  have HK := hide hK
  clear hK
  go_enter Oaag.func371, Oaag.ntmps371
  go_wp2_with (refine wpList_newc 385 _ z385 rfl rfl ?_)
  ((first | with_reducible refine gen_calls ?_ | with_reducible refine gen_wp ?_ | with_reducible refine gen_list ?_ | with_reducible refine gen_body ?_); intro W hW)
  have hb0 : Below w.heap.size w W := by rw [← hW]; exact ((Below.refl _ _).alloc (Nat.le_refl _) _).alloc (by simp) _
  have hm0 : Mine W (w.heap.size + 1) := by rw [← hW]; have := Mine.new (w.alloc (Obj.cells #[Value.bool false, Value.string ⟨#[]⟩, Value.int IntKind.i16 0] 198)) (Array.replicate 2048 (.int .u8 0)) 385; simpa using this
  have hk0 : Bank W (w.heap.size + 1) 0 2048 .u8 (fun _ => True) := by
    rw [← hW]
    have := Bank.new (w.alloc (Obj.cells #[Value.bool false, Value.string ⟨#[]⟩, Value.int IntKind.i16 0] 198)) (Array.replicate 2048 (.int .u8 0)) 385 0 2048 .u8 (fun _ => True) fun i hi => ⟨0, by rw [Nat.zero_add, Array.getElem?_replicate, if_pos hi], trivial⟩
    simpa using this
  have q0 : W.heap[w.heap.size]? = some (.cells #[Value.bool false, Value.string ⟨#[]⟩, Value.int IntKind.i16 0] 198 (0, 0)) := by
    rw [← hW, Below.heap_alloc _ _ _ (by simp)]
    exact heap_alloc_new w _
  clear hW
  go_loopw [8, 9, 11] (fun a b t wr => ∃ i first fin : Nat, a = .int .i64 first ∧ b = .int .i64 fin ∧ t = .int .i64 i ∧ i ≤ d.size ∧ fin ≤ i ∧ (fin = 0 ∨ first < fin) ∧ first ≤ d.size ∧ Below w.heap.size w wr ∧ Mine wr (w.heap.size + 1) ∧ Bank wr (w.heap.size + 1) 0 2048 .u8 (fun _ => True) ∧ wr.heap[w.heap.size]? = some (.cells #[Value.bool false, Value.string ⟨#[]⟩, Value.int IntKind.i16 0] 198 (0, 0))) (fun _ _ t _ => d.size - (intOf t).toNat)
  case atStart => exact ⟨0, d.size, 0, rfl, rfl, rfl, by omega, by omega, .inl rfl, by omega, hb0, hm0, hk0, q0⟩
  case round =>
    clear hb0 hm0 hk0 q0
    obtain ⟨i, first, fin, rfl, rfl, rfl, hi, hf, hff, hfd, hbw, hmn, hbk, q0⟩ := hrel
    have c0 := cell_of_row _ _ 0 _ _ _ q0
    have c1 := cell_of_row _ _ 1 _ _ _ q0
    have c2 := cell_of_row _ _ 2 _ _ _ q0
    have f0 := frozen_of_row _ _ 0 _ _ q0
    have f1 := frozen_of_row _ _ 1 _ _ q0
    have f2 := frozen_of_row _ _ 2 _ _ q0
    simp only [List.getElem?_toArray, List.getElem?_cons_succ, List.getElem?_cons_zero] at c0 c1 c2
    have hrn := byt_lt d i
    by_cases hl : i < d.size
    · have hix := index_str d i i rfl hl
      have hdg := digit_says (byt d i : Int) (by omega) (by omega)
      obtain ⟨k1, k2⟩ := hexD_rng (byt d i : Int)
      generalize hexD (byt d i : Int) = dv at *
      by_cases hneg : dv < 0
      · go_wp2_with (with_reducible refine Says.run hdg ?_)
        all_goals first
          | (refine bodyPost_box rfl ?_; intro r hr; simp [results, Oaag.results371, go_sem, c0, c1, c2] at hr; subst hr; refine ⟨_, rfl, ?_⟩; exact unhide HK _ _ ⟨_, _, _, _, rfl, by decide, by decide, by decide⟩ (by first | exact below_store (below_store (below_store (hbw) (Nat.le_refl _) _) (Nat.le_refl _) _) (Nat.le_refl _) _ | exact hbw))
          | fail
      · obtain ⟨D, rfl⟩ := Int.eq_ofNat_of_zero_le (show 0 ≤ dv by omega)
        have hix2 := index_str ⟨#[48, 49, 50, 51, 52, 53, 54, 55, 56, 57, 97, 98, 99, 100, 101, 102]⟩ D D rfl (by have : (ByteArray.mk #[48, 49, 50, 51, 52, 53, 54, 55, 56, 57, 97, 98, 99, 100, 101, 102]).size = 16 := rfl; omega)
        have HBK := hide hbk
        have HMN := hide hmn
        have HQ0 := hide q0
        have hmf := hmn.2
        clear hbk hmn q0
        by_cases hpos : 0 < D
        · by_cases hfi : first ≤ i
          · by_cases hr : i - first < 2048
            · obtain ⟨ov, oc, -⟩ := (unhide HBK).cell (i - first) hr
              have of_ := hmf (i - first)
              have ie : ((i : Int) - first) = ((i - first : Nat) : Int) := by omega
              have mn : min (first : Int) i = first := by omega
              go_wp2_with (with_reducible refine Says.run hdg ?_)
              all_goals first
                | exact ⟨⟨i + 1, first, i + 1, rfl, by simp, by simp, by omega, by omega, .inr (by omega), by omega, below_store hbw (by omega) _, (unhide HMN).set _ _, (unhide HBK).set _ trivial, by rw [heap_setCell_other _ _ _ _ (by simp)]; exact unhide HQ0⟩, by simp only [intOf]; omega⟩
                | fail
            · go_wp2_with (with_reducible refine Says.run hdg ?_)
              all_goals first
                | exact ⟨⟨i + 1, first, i + 1, rfl, by simp, by simp, by omega, by omega, .inr (by omega), by omega, hbw, unhide HMN, unhide HBK, unhide HQ0⟩, by simp only [intOf]; omega⟩
                | fail
          · obtain ⟨ov, oc, -⟩ := (unhide HBK).cell 0 (by omega)
            have of_ := hmf 0
            have ie : ((i : Int) - i) = ((0 : Nat) : Int) := by omega
            have mn : min (first : Int) i = i := by omega
            go_wp2_with (with_reducible refine Says.run hdg ?_)
            all_goals first
              | exact ⟨⟨i + 1, i, i + 1, rfl, by simp, by simp, by omega, by omega, .inr (by omega), by omega, below_store hbw (by omega) _, (unhide HMN).set _ _, (unhide HBK).set _ trivial, by rw [heap_setCell_other _ _ _ _ (by simp)]; exact unhide HQ0⟩, by simp only [intOf]; omega⟩
              | fail
        · by_cases hfi : first ≤ i
          · by_cases hr : i - first < 2048
            · obtain ⟨ov, oc, -⟩ := (unhide HBK).cell (i - first) hr
              have of_ := hmf (i - first)
              have ie : ((i : Int) - first) = ((i - first : Nat) : Int) := by omega
              have mn : min (first : Int) i = first := by omega
              go_wp2_with (with_reducible refine Says.run hdg ?_)
              all_goals first
                | exact ⟨⟨i + 1, first, fin, rfl, rfl, by simp, by omega, by omega, by omega, by omega, below_store hbw (by omega) _, (unhide HMN).set _ _, (unhide HBK).set _ trivial, by rw [heap_setCell_other _ _ _ _ (by simp)]; exact unhide HQ0⟩, by simp only [intOf]; omega⟩
                | fail
            · go_wp2_with (with_reducible refine Says.run hdg ?_)
              all_goals first
                | exact ⟨⟨i + 1, first, fin, rfl, rfl, by simp, by omega, by omega, by omega, by omega, hbw, unhide HMN, unhide HBK, unhide HQ0⟩, by simp only [intOf]; omega⟩
                | fail
          · obtain ⟨ov, oc, -⟩ := (unhide HBK).cell 0 (by omega)
            have of_ := hmf 0
            have ie : ((i : Int) - i) = ((0 : Nat) : Int) := by omega
            have mn : min (first : Int) i = i := by omega
            go_wp2_with (with_reducible refine Says.run hdg ?_)
            all_goals first
              | exact ⟨⟨i + 1, first, fin, rfl, rfl, by simp, by omega, by omega, by omega, by omega, hbw, unhide HMN, unhide HBK, unhide HQ0⟩, by simp only [intOf]; omega⟩
              | fail
    · have hi' : i = d.size := by omega
      have f0' : ((fin : Int) == 0) = decide (fin = 0) := by by_cases h : fin = 0 <;> simp [h]
      by_cases hz : fin = 0
      · simp only [hz, decide_true] at f0'
        subst hz
        go_wp2_with fail
        all_goals first
          | (refine bodyPost_box rfl ?_; intro r hr; simp [results, Oaag.results371, go_sem, c0, c1, c2] at hr; subst hr; refine ⟨_, rfl, ?_⟩; exact unhide HK _ _ ⟨_, _, _, _, rfl, by decide, by decide, by decide⟩ (by first | exact below_store (below_store (below_store (hbw) (Nat.le_refl _) _) (Nat.le_refl _) _) (Nat.le_refl _) _ | exact hbw))
          | fail
      · simp only [hz, decide_false] at f0'
        by_cases h800 : fin - first ≤ 800
        · have hsl := slice_arr_h 385 5 2048 NatW.u385 NatW.s5 (w.heap.size + 1) (fin - first) ((fin : Int) - first) (by omega) (by omega)
          obtain ⟨s, hs, hcv⟩ := bytes_string wr 119 9 5 NatW.u119 NatW.u5 NatW.u9 (w.heap.size + 1) 0 (fin - first) 2048 (fun _ => True) (fun j hj => hbk j (by omega))
          go_wp2_with fail
          all_goals first
            | (refine bodyPost_box rfl ?_; intro r hr; simp [results, Oaag.results371, go_sem, c0, c1, c2] at hr; subst hr; refine ⟨_, rfl, ?_⟩; exact unhide HK _ _ ⟨_, _, _, _, rfl, by decide, by decide, by decide⟩ (by first | exact below_store (below_store (below_store (hbw) (Nat.le_refl _) _) (Nat.le_refl _) _) (Nat.le_refl _) _ | exact hbw))
            | (refine bodyPost_box rfl ?_; intro r hr; simp [results, Oaag.results371, go_sem, c0, c1, c2] at hr; subst hr; refine ⟨_, rfl, ?_⟩; exact unhide HK _ _ ⟨_, _, _, _, rfl, by omega, by omega, by omega⟩ (by first | exact below_store (below_store (below_store (hbw) (Nat.le_refl _) _) (Nat.le_refl _) _) (Nat.le_refl _) _ | exact hbw))
            | fail
        · go_wp2_with fail
          all_goals first
            | (refine bodyPost_box rfl ?_; intro r hr; simp [results, Oaag.results371, go_sem, c0, c1, c2] at hr; subst hr; refine ⟨_, rfl, ?_⟩; exact unhide HK _ _ ⟨_, _, _, _, rfl, by decide, by decide, by decide⟩ (by first | exact below_store (below_store (below_store (hbw) (Nat.le_refl _) _) (Nat.le_refl _) _) (Nat.le_refl _) _ | exact hbw))
            | fail
end Go.Proofs.YgcoaaGreat.NatW
