/-
  append(a, 0) of a natural: what else lies in memory stands.
-/
import Derived.Test.YgcoaaGreatBiA
set_option linter.unusedVariables false
set_option linter.unusedSimpArgs false
namespace Go.Proofs.YgcoaaGreat.NatW
attribute [local go_sem] Go.Instr.field Go.asAgg
open Go.RowKit
open Go.Proofs.YgcoaaGreat.Limbs

theorem natApp_run2 (w : World) (ty : TypeId) {B : Nat} {a : Option Addr} {cap n : Nat} (hR : Res B w a cap n) (hlen : (lim n).length ≤ 1000000) (hB : B ≤ w.heap.size) :
    ∃ a' cap' w', (Builtin.append_ #[53, 53] ty #[.slice a (lim n).length cap, .slice (some ⟨w.heap.size, 0, none⟩) 1 1]).run Oaag.prog (w.alloc (.cells #[.int .u32 0] 65)) = .ok (.slice (some a') ((lim n).length + 1) cap') w' ∧
      Sl w' (some a') cap' (lim n ++ [0]) ∧ Below B w w' ∧ (∀ k, k < w.heap.size → (∀ g, a = some ⟨g, 0, none⟩ → k ≠ g) → w'.heap[k]? = w.heap[k]?) := by
  obtain ⟨i0, hi, hz0, hz1, hz2⟩ := info_parts info30
  have hb0 : Below B w (w.alloc (.cells #[.int .u32 0] 65)) := (Below.refl B w).alloc hB _
  have hR0 : Res B (w.alloc (.cells #[.int .u32 0] 65)) a cap n := hR.later ((Below.refl _ w).alloc (Nat.le_refl _) _)
  have hcell : (w.alloc (.cells #[.int .u32 0] 65)).cell? ⟨w.heap.size, 0, none⟩ = some (.int .u32 0) := by rw [World.cell?_alloc_new]; rfl
  have hsz0 : B ≤ (w.alloc (.cells #[.int .u32 0] 65)).heap.size := by simp; omega
  have hk0 : ∀ k, k < w.heap.size → (w.alloc (.cells #[.int .u32 0] 65)).heap[k]? = w.heap[k]? := fun k hk => Below.heap_alloc _ _ _ hk
  have hzz : w.heap.size ≤ (w.alloc (.cells #[.int .u32 0] 65)).heap.size := by simp
  generalize hw0 : w.alloc (.cells #[.int .u32 0] 65) = w0 at *
  have hlt : Lt (lim n ++ [0]) := by
    intro x hx
    rcases List.mem_append.1 hx with h | h
    · exact Lt_lim n x h
    · simp at h; omega
  have hnews : ∀ j y, [Value.int .u32 0][j]? = some y → w0.cell? ((⟨w.heap.size, 0, none⟩ : Addr).add j) = some y := by
    intro j y hj
    match j, hj with
    | 0, hj => simp at hj; subst hj; simpa [Addr.add] using hcell
    | k + 1, hj => simp at hj
  have h1c : ∀ y ∈ [Value.int .u32 0], y.oneCell' = true := by intro y hy; simp at hy; subst hy; rfl
  have hown : cap ≤ maxLen → w0.ownsRow B 65 1 (.slice a (lim n).length cap) (lim n).length ((lim n).map (fun x => Value.int .u32 (x : Nat))) := by
    intro hcm
    refine ⟨by simp, ?_⟩
    rcases hR0 with ⟨rfl, rfl, rfl⟩ | ⟨h0, g, l, rfl, hBg, hr, hl, rfl, rfl⟩
    · exact .inl ⟨rfl, rfl⟩
    · refine .inr ⟨g, _, _, rfl, hBg, hr, lim_length_le' l hl, hcm, by simp, ?_⟩
      conv => rhs; rw [lim_prefix l hl]
      simp [List.map_take]
  have hmain : cap ≤ maxLen → ∃ a' cap' w', (Builtin.append_ #[53, 53] ty #[.slice a (lim n).length cap, .slice (some ⟨w.heap.size, 0, none⟩) 1 1]).run Oaag.prog w0 = .ok (.slice (some a') ((lim n).length + 1) cap') w' ∧
      Sl w' (some a') cap' (lim n ++ [0]) ∧ Below B w w' ∧ (∀ k, k < w.heap.size → (∀ g, a = some ⟨g, 0, none⟩ → k ≠ g) → w'.heap[k]? = w.heap[k]?) := by
    intro hcm
    obtain ⟨v', w', hr, h3, h4, h5⟩ := run_append_own (P := Oaag.prog) w0 B 53 ty 65 i0 (.int .u32 0) 1 4 Oaag.underlying53 hi hz0 hz1 hz2 rfl (by decide) _ _ _ (hown hcm) ⟨w.heap.size, 0, none⟩ 1 1 [.int .u32 0] rfl hnews h1c (by unfold maxLen; omega) (by omega) hsz0
    obtain ⟨h6, h7⟩ := h3
    rcases h7 with ⟨rfl, h8⟩ | ⟨g, cap', cur, rfl, hbg, hg, hnc, hcm', hcs, htake⟩
    · omega
    · refine ⟨_, _, w', hr, sl_of_take hg hlt (by simpa using hnc) ?_, hb0.grown h4 hsz0 (fun k hk => ((hown hcm).lt k hk).1), fun k hk hne => (h4.block k (by omega) (fun e => by
        cases a with
        | none => cases e
        | some p =>
          have hp : ∃ g, p = ⟨g, 0, none⟩ := by
            rcases hR0 with ⟨_, h', _⟩ | ⟨_, g', l', h', _⟩
            · cases h'
            · exact ⟨g', by cases h'; rfl⟩
          obtain ⟨g', rfl⟩ := hp
          have : k = g' := by simpa [Value.ownBlock] using e
          exact hne g' rfl this)).trans (hk0 k hk)⟩
      simpa using htake
  by_cases hroom : (lim n).length + 1 ≤ cap
  · rcases hR0 with ⟨rfl, rfl, rfl⟩ | ⟨h0, g, l, rfl, hBg, hr, hl, rfl, rfl⟩
    · omega
    · have hr2 := run_append_room (P := Oaag.prog) w0 53 ty 65 i0 Oaag.underlying53 hi g (lim (val l)).length l.length _ hr ⟨w.heap.size, 0, none⟩ 1 1 [.int .u32 0] (by rw [hz1]; rfl) hnews h1c hroom (by rw [hz1]; simp; omega)
      refine ⟨_, _, _, hr2, sl_of_take (setRow_heap _ _ _ _ _ _ hr) hlt (by simpa using hroom) ?_, below_setRow hb0 hBg _, fun k hk hne => (setRow_other _ _ _ _ (hne g rfl)).trans (hk0 k hk)⟩
      simp only [hz1, Nat.mul_one]
      have e1 : (lim (val l)).map (fun x => Value.int .u32 (x : Nat)) = (l.map (fun x => Value.int .u32 (x : Nat))).take (lim (val l)).length := by
        conv => lhs; rw [lim_prefix l hl]
        simp [List.map_take]
      rw [List.map_append, e1]
      rw [List.take_append_of_le_length (by simp; omega)]
      rw [List.take_of_length_le (by simp; omega)]
      simp
  · exact hmain (by
      rcases hR0 with ⟨rfl, rfl, rfl⟩ | ⟨h0, g, l, rfl, hBg, hr, hl, rfl, rfl⟩
      · unfold maxLen; omega
      · have := lim_length_le' l hl; unfold maxLen; omega)

/-- append(a, 0). -/
theorem wpList_nat1 {w : World} {ops : Array Oper} {rest : List Oper} {o : Oper} {act : Act} {Q : Exit → Act → World → Prop} (hgd : Region.wanted o (yielded ops act.tmps) = true) (s x : Operand) (ho : o.op = .call { callee := .builtin .append, args := #[s, x], argTypes := #[53, 53] })
    {B : Nat} {a : Option Addr} {cap n : Nat} (hR : Res B w a cap n) (hlen : (lim n).length ≤ 1000000) (hB : B ≤ w.heap.size) (hs : act.eval s = .slice a (lim n).length cap) (hx : act.eval x = .slice (some ⟨w.heap.size, 0, none⟩) 1 1)
    (h : ∀ a' cap' w', Sl w' (some a') cap' (lim n ++ [0]) → Below B w w' → (∀ k, k < w.heap.size → (∀ g, a = some ⟨g, 0, none⟩ → k ≠ g) → w'.heap[k]? = w.heap[k]?) → wpList Oaag.prog ops Q rest (act.put o.dst (.slice (some a') ((lim n).length + 1) cap')) w') : wpList Oaag.prog ops Q (o :: rest) act (w.alloc (.cells #[.int .u32 0] 65)) := by
  obtain ⟨a', cap', w', h1, h2, h3, h4⟩ := natApp_run2 w o.type hR hlen hB
  simp only [wpList, hgd, if_true]
  refine .inl ?_
  unfold Oper.wp execOp
  simp only [ho, resolve, invoke, builtin, Sem.run_bind, Sem.run_pure, Result.andThen_ok, List.map_toArray, List.map_cons, List.map_nil, hs, hx, h1]
  exact h a' cap' w' h2 h3 h4


set_option maxRecDepth 20000 in
set_option maxHeartbeats 1000000 in
theorem ratOk_no (w : World) (neg : Bool) (a : Addr) (cap n : Nat) (h : Sl w (some a) cap (lim n ++ [0])) (a2 : Option Addr) (l2 cap2 : Nat) (hl : (lim n).length ≤ 1000000) :
    Calls Oaag.prog 38 #[.agg #[.bool neg, .slice (some a) ((lim n).length + 1) cap, .slice a2 l2 cap2]] w fun e w' => e = .returned (.bool false) ∧ Below w.heap.size w w' := by
  have hb0 : Below w.heap.size w (w.alloc (.cells #[.bool neg, .slice (some a) ((lim n).length + 1) cap, .slice a2 l2 cap2] 67)) := (Below.refl _ _).alloc (Nat.le_refl _) _
  have hn1 := hr3a _ a cap n (h.later hb0) hl
  have HN1 := hide hn1
  have HB0 := hide hb0
  clear hn1 hb0 h
  go_enter Oaag.func38, Oaag.ntmps38
  go_wp2_with fail
  refine (unhide HN1).mono ?_
  rintro e w1 ⟨rfl, rfl⟩
  go_wp2
  go_ret
  exact ⟨rfl, unhide HB0⟩
end Go.Proofs.YgcoaaGreat.NatW
