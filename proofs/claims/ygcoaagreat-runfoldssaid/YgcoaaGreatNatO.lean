/-
  append(a, 0) of a natural; the dice beside naturals.
-/
import Derived.Test.YgcoaaGreatLaxO
import Derived.Test.YgcoaaGreatDiceB
import Derived.Test.YgcoaaGreatBdA
set_option linter.unusedVariables false
set_option linter.unusedSimpArgs false
namespace Go.Proofs.YgcoaaGreat.NatW
attribute [local go_sem] Go.Instr.field Go.asAgg
open Go.RowKit
open Go.Proofs.YgcoaaGreat.Limbs

theorem sl_of_take {w : World} {g cap : Nat} {cur : Array Value} {t : TypeId} {l : List Nat} (hg : w.heap[g]? = some (.cells cur t (0, 0))) (hl : Lt l) (hle : l.length ≤ cap)
    (ht : cur.toList.take l.length = l.map (fun x => Value.int .u32 (x : Nat))) : Sl w (some ⟨g, 0, none⟩) cap l := by
  refine ⟨hle, fun h => (by cases h), hl, fun i hi => ⟨g, 0, rfl, ?_⟩⟩
  rw [Nat.zero_add, cell_of_row _ _ _ _ _ _ hg]
  have h4 : (cur.toList.take l.length)[i]? = some (Value.int .u32 (l.getD i 0 : Nat)) := by rw [ht]; simp [hi]
  rw [List.getElem?_take] at h4
  simpa [hi] using h4

theorem natApp_run (w : World) (ty : TypeId) {B : Nat} {a : Option Addr} {cap n : Nat} (hR : Res B w a cap n) (hlen : (lim n).length ≤ 1000000) (hB : B ≤ w.heap.size) :
    ∃ a' cap' w', (Builtin.append_ #[53, 53] ty #[.slice a (lim n).length cap, .slice (some ⟨w.heap.size, 0, none⟩) 1 1]).run Oaag.prog (w.alloc (.cells #[.int .u32 0] 65)) = .ok (.slice (some a') ((lim n).length + 1) cap') w' ∧
      Sl w' (some a') cap' (lim n ++ [0]) ∧ Below B w w' := by
  obtain ⟨i0, hi, hz0, hz1, hz2⟩ := info_parts info30
  have hb0 : Below B w (w.alloc (.cells #[.int .u32 0] 65)) := (Below.refl B w).alloc hB _
  have hR0 : Res B (w.alloc (.cells #[.int .u32 0] 65)) a cap n := hR.later ((Below.refl _ w).alloc (Nat.le_refl _) _)
  have hcell : (w.alloc (.cells #[.int .u32 0] 65)).cell? ⟨w.heap.size, 0, none⟩ = some (.int .u32 0) := by rw [World.cell?_alloc_new]; rfl
  have hsz0 : B ≤ (w.alloc (.cells #[.int .u32 0] 65)).heap.size := by simp; omega
  generalize hw0 : w.alloc (.cells #[.int .u32 0] 65) = w0 at *
  have hlt : Lt (lim n ++ [0]) := by
    intro x hx
    rcases List.mem_append.1 hx with h | h
    · exact Lt_lim n x h
    · simp at h; omega
  have hnews : ∀ j y, [Value.int .u32 0][j]? = some y → w0.cell? ((⟨w.heap.size, 0, none⟩ : Addr).add j) = some y := by
    intro j y hj
    match j, hj with
    | 0, hj => simp at hj; subst hj; simpa [Addr.add] using hcell
    | k + 1, hj => simp at hj
  have h1c : ∀ y ∈ [Value.int .u32 0], y.oneCell' = true := by intro y hy; simp at hy; subst hy; rfl
  have hown : cap ≤ maxLen → w0.ownsRow B 65 1 (.slice a (lim n).length cap) (lim n).length ((lim n).map (fun x => Value.int .u32 (x : Nat))) := by
    intro hcm
    refine ⟨by simp, ?_⟩
    rcases hR0 with ⟨rfl, rfl, rfl⟩ | ⟨h0, g, l, rfl, hBg, hr, hl, rfl, rfl⟩
    · exact .inl ⟨rfl, rfl⟩
    · refine .inr ⟨g, _, _, rfl, hBg, hr, lim_length_le' l hl, hcm, by simp, ?_⟩
      conv => rhs; rw [lim_prefix l hl]
      simp [List.map_take]
  have hmain : cap ≤ maxLen → ∃ a' cap' w', (Builtin.append_ #[53, 53] ty #[.slice a (lim n).length cap, .slice (some ⟨w.heap.size, 0, none⟩) 1 1]).run Oaag.prog w0 = .ok (.slice (some a') ((lim n).length + 1) cap') w' ∧
      Sl w' (some a') cap' (lim n ++ [0]) ∧ Below B w w' := by
    intro hcm
    obtain ⟨v', w', hr, h3, h4, h5⟩ := run_append_own (P := Oaag.prog) w0 B 53 ty 65 i0 (.int .u32 0) 1 4 Oaag.underlying53 hi hz0 hz1 hz2 rfl (by decide) _ _ _ (hown hcm) ⟨w.heap.size, 0, none⟩ 1 1 [.int .u32 0] rfl hnews h1c (by unfold maxLen; omega) (by omega) hsz0
    obtain ⟨h6, h7⟩ := h3
    rcases h7 with ⟨rfl, h8⟩ | ⟨g, cap', cur, rfl, hbg, hg, hnc, hcm', hcs, htake⟩
    · omega
    · refine ⟨_, _, w', hr, sl_of_take hg hlt (by simpa using hnc) ?_, hb0.grown h4 hsz0 (fun k hk => ((hown hcm).lt k hk).1)⟩
      simpa using htake
  by_cases hroom : (lim n).length + 1 ≤ cap
  · rcases hR0 with ⟨rfl, rfl, rfl⟩ | ⟨h0, g, l, rfl, hBg, hr, hl, rfl, rfl⟩
    · omega
    · have hr2 := run_append_room (P := Oaag.prog) w0 53 ty 65 i0 Oaag.underlying53 hi g (lim (val l)).length l.length _ hr ⟨w.heap.size, 0, none⟩ 1 1 [.int .u32 0] (by rw [hz1]; rfl) hnews h1c hroom (by rw [hz1]; simp; omega)
      refine ⟨_, _, _, hr2, sl_of_take (setRow_heap _ _ _ _ _ _ hr) hlt (by simpa using hroom) ?_, below_setRow hb0 hBg _⟩
      simp only [hz1, Nat.mul_one]
      have e1 : (lim (val l)).map (fun x => Value.int .u32 (x : Nat)) = (l.map (fun x => Value.int .u32 (x : Nat))).take (lim (val l)).length := by
        conv => lhs; rw [lim_prefix l hl]
        simp [List.map_take]
      rw [List.map_append, e1]
      rw [List.take_append_of_le_length (by simp; omega)]
      rw [List.take_of_length_le (by simp; omega)]
      simp
  · exact hmain (by
      rcases hR0 with ⟨rfl, rfl, rfl⟩ | ⟨h0, g, l, rfl, hBg, hr, hl, rfl, rfl⟩
      · unfold maxLen; omega
      · have := lim_length_le' l hl; unfold maxLen; omega)

/-- append(a, 0). -/
theorem wpList_nat0 {w : World} {ops : Array Oper} {rest : List Oper} {o : Oper} {act : Act} {Q : Exit → Act → World → Prop} (hgd : Region.wanted o (yielded ops act.tmps) = true) (s x : Operand) (ho : o.op = .call { callee := .builtin .append, args := #[s, x], argTypes := #[53, 53] })
    {B : Nat} {a : Option Addr} {cap n : Nat} (hR : Res B w a cap n) (hlen : (lim n).length ≤ 1000000) (hB : B ≤ w.heap.size) (hs : act.eval s = .slice a (lim n).length cap) (hx : act.eval x = .slice (some ⟨w.heap.size, 0, none⟩) 1 1)
    (h : ∀ a' cap' w', Sl w' (some a') cap' (lim n ++ [0]) → Below B w w' → wpList Oaag.prog ops Q rest (act.put o.dst (.slice (some a') ((lim n).length + 1) cap')) w') : wpList Oaag.prog ops Q (o :: rest) act (w.alloc (.cells #[.int .u32 0] 65)) := by
  obtain ⟨a', cap', w', h1, h2, h3⟩ := natApp_run w o.type hR hlen hB
  simp only [wpList, hgd, if_true]
  refine .inl ?_
  unfold Oper.wp execOp
  simp only [ho, resolve, invoke, builtin, Sem.run_bind, Sem.run_pure, Result.andThen_ok, List.map_toArray, List.map_cons, List.map_nil, hs, hx, h1]
  exact h a' cap' w' h2 h3

/-- The dice lie in block b. -/
def Dice (b : Nat) (w : World) : Prop := ∃ x t, w.heap[b]? = some (.cells #[.int .u64 x] t (0, 0))
theorem Dice.lt {b : Nat} {w : World} (h : Dice b w) : b < w.heap.size := by
  obtain ⟨x, t, h⟩ := h
  exact (Array.getElem?_eq_some_iff.1 h).1
theorem Dice.kept {b B : Nat} {w w' : World} (h : Dice b w) (hb : Below B w w') (hB : b < B) : Dice b w' := by
  obtain ⟨x, t, h⟩ := h
  exact ⟨x, t, (hb.block b hB).trans h⟩
theorem Dice.set {b : Nat} {w : World} (h : Dice b w) (x : Int) : Dice b (w.setCell ⟨b, 0, none⟩ (.int .u64 x)) := by
  obtain ⟨y, t, h⟩ := h
  exact ⟨x, t, by rw [heap_set, if_pos rfl, h]; rfl⟩
theorem Dice.other {b : Nat} {w : World} (h : Dice b w) {c i : Nat} (hc : c ≠ b) (u : Value) : Dice b (w.setCell ⟨c, i, none⟩ u) := by
  obtain ⟨y, t, h⟩ := h
  exact ⟨y, t, by rw [heap_set, if_neg hc]; exact h⟩
theorem Dice.alloc {b : Nat} {w : World} (h : Dice b w) (o : Obj) : Dice b (w.alloc o) := h.kept ((Below.refl _ _).alloc (Nat.le_refl _) o) h.lt

/-- Only block b may have changed. -/
def Rolled (b : Nat) (w w' : World) : Prop := ∃ x, w' = w.setCell ⟨b, 0, none⟩ (.int .u64 x)
theorem Rolled.below {b : Nat} {w w' : World} (h : Rolled b w w') : Below b w w' := by
  obtain ⟨x, rfl⟩ := h
  exact below_store (Below.refl _ _) (Nat.le_refl _) _
theorem Rolled.size {b : Nat} {w w' : World} (h : Rolled b w w') : w'.heap.size = w.heap.size := by
  obtain ⟨x, rfl⟩ := h
  exact World.size_setCell ..
theorem Rolled.res {b B : Nat} {w w' : World} (h : Rolled b w w') {a : Option Addr} {cap n : Nat} (hR : Res B w a cap n) (hb : b < B) : Res B w' a cap n := by
  obtain ⟨x, rfl⟩ := h
  exact hR.away _ (fun g hg => by have := hR.block g hg; omega)
theorem Rolled.dice {b : Nat} {w w' : World} (h : Rolled b w w') (hd : Dice b w) : Dice b w' := by
  obtain ⟨x, rfl⟩ := h
  exact hd.set x
theorem roll_d (w : World) (b : Nat) (h : Dice b w) : Calls Oaag.prog 28 #[.pointer (some ⟨b, 0, none⟩)] w fun e w' => ∃ r, e = .returned (.int .u64 r) ∧ U64 r ∧ Dice b w' ∧ Rolled b w w' := by
  obtain ⟨x, t, hx⟩ := h
  refine (roll_any w b x t hx).mono ?_
  rintro e w' ⟨r, x', rfl, u1, u2, rfl⟩
  exact ⟨r, rfl, u1, Dice.set ⟨x, t, hx⟩ x', x', rfl⟩
theorem below_d (w : World) (b : Nat) (n : Int) (h : Dice b w) (hn0 : 1 ≤ n) (hn1 : n ≤ 1000000) : Calls Oaag.prog 29 #[.pointer (some ⟨b, 0, none⟩), .int .u64 n] w fun e w' => ∃ r : Nat, e = .returned (.int .i64 r) ∧ (r : Int) < n ∧ Dice b w' ∧ Rolled b w w' := by
  obtain ⟨x, t, hx⟩ := h
  refine (below_any w b x n t hx hn0 hn1).mono ?_
  rintro e w' ⟨r, x', rfl, u0, u1, u2, rfl⟩
  obtain ⟨R, rfl⟩ := Int.eq_ofNat_of_zero_le u0
  exact ⟨R, rfl, u1, Dice.set ⟨x, t, hx⟩ x', x', rfl⟩
end Go.Proofs.YgcoaaGreat.NatW
