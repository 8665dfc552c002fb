/-
  append(a, 0) of a natural: the naturals that were there can be read as before.
-/
import Derived.Test.YgcoaaGreatNatP
set_option linter.unusedVariables false
set_option linter.unusedSimpArgs false
namespace Go.Proofs.YgcoaaGreat.NatW
attribute [local go_sem] Go.Instr.field Go.asAgg
open Go.RowKit
open Go.Proofs.YgcoaaGreat.Limbs

theorem map_u32_inj' : ∀ {l l2 : List Nat}, l.map (fun x => Value.int .u32 (x : Nat)) = l2.map (fun x => Value.int .u32 (x : Nat)) → l = l2
  | [], [], _ => rfl
  | [], _ :: _, h => by simp at h
  | _ :: _, [], h => by simp at h
  | x :: xs, y :: ys, h => by
    simp only [List.map_cons, List.cons.injEq, Value.int.injEq, true_and] at h
    have e : x = y := by omega
    rw [e, map_u32_inj' h.2]
theorem map_u32_inj {l l2 : List Nat} (h : (l.map (fun x => Value.int .u32 (x : Nat))).toArray = (l2.map (fun x => Value.int .u32 (x : Nat))).toArray) : l = l2 := map_u32_inj' (by simpa using h)

theorem natApp_old (w : World) (ty : TypeId) {B : Nat} {a : Option Addr} {cap n : Nat} (hR : Res B w a cap n) (hlen : (lim n).length ≤ 1000000) (hB : B ≤ w.heap.size) {v' : Value} {w' : World}
    (hrun : (Builtin.append_ #[53, 53] ty #[.slice a (lim n).length cap, .slice (some ⟨w.heap.size, 0, none⟩) 1 1]).run Oaag.prog (w.alloc (.cells #[.int .u32 0] 65)) = .ok v' w') {B2 : Nat} {a2 : Option Addr} {c2 x2 : Nat} (h2 : Res B2 w a2 c2 x2) : Sl w' a2 c2 (lim x2) := by
  obtain ⟨i0, hi, hz0, hz1, hz2⟩ := info_parts info30
  obtain ⟨a', cap', w'', hr1, hs1, hb1, hk1⟩ := natApp_run2 w ty hR hlen hB
  rw [hrun] at hr1
  injection hr1 with e1 e2
  subst e2
  rcases h2 with ⟨rfl, rfl, rfl⟩ | ⟨h20, g2, l2, rfl, hB2, hr2, hl2, rfl, rfl⟩
  · exact Sl.empty _
  by_cases hg : a = some ⟨g2, 0, none⟩
  · rcases hR with ⟨_, h1, _⟩ | ⟨h0, g, l, h1, hBg, hr, hl, rfl, rfl⟩
    · rw [h1] at hg; cases hg
    rw [h1] at hg
    cases hg
    subst h1
    have ell : l = l2 := by
      unfold Row at hr hr2
      rw [hr] at hr2
      simp only [Option.some.injEq, Obj.cells.injEq, and_true] at hr2
      exact map_u32_inj hr2
    subst ell
    have hcell : (w.alloc (.cells #[.int .u32 0] 65)).cell? ⟨w.heap.size, 0, none⟩ = some (.int .u32 0) := by rw [World.cell?_alloc_new]; rfl
    have hr0 : Row (w.alloc (.cells #[.int .u32 0] 65)) g2 l := hr.later ((Below.refl _ w).alloc (Nat.le_refl _) _)
    generalize hw0 : w.alloc (.cells #[.int .u32 0] 65) = w0 at *
    have hnews : ∀ j y, [Value.int .u32 0][j]? = some y → w0.cell? ((⟨w.heap.size, 0, none⟩ : Addr).add j) = some y := by
      intro j y hj
      match j, hj with
      | 0, hj => simp at hj; subst hj; simpa [Addr.add] using hcell
      | k + 1, hj => simp at hj
    have h1c : ∀ y ∈ [Value.int .u32 0], y.oneCell' = true := by intro y hy; simp at hy; subst hy; rfl
    have hle := lim_length_le' l hl
    have e1 : (lim (val l)).map (fun x => Value.int .u32 (x : Nat)) = (l.map (fun x => Value.int .u32 (x : Nat))).take (lim (val l)).length := by
      conv => lhs; rw [lim_prefix l hl]
      simp [List.map_take]
    by_cases hroom : (lim (val l)).length + 1 ≤ l.length
    · have hrm := run_append_room (P := Oaag.prog) w0 53 ty 65 i0 Oaag.underlying53 hi g2 (lim (val l)).length l.length _ hr0 ⟨w.heap.size, 0, none⟩ 1 1 [.int .u32 0] (by rw [hz1]; rfl) hnews h1c hroom (by rw [hz1]; simp; omega)
      rw [hrun] at hrm
      injection hrm with e3 e4
      subst e4
      refine sl_of_take (setRow_heap _ _ _ _ _ _ hr0) (Lt_lim _) hle ?_
      simp only [hz1, Nat.mul_one]
      rw [e1, List.append_assoc, List.take_append_of_le_length (by simp; omega), List.take_take, Nat.min_self]
    · have hown : w0.ownsRow B 65 1 (.slice (some ⟨g2, 0, none⟩) (lim (val l)).length l.length) (lim (val l)).length ((lim (val l)).map (fun x => Value.int .u32 (x : Nat))) := by
        refine ⟨by simp, .inr ⟨g2, _, _, rfl, hBg, hr0, hle, by unfold maxLen; omega, by simp, ?_⟩⟩
        rw [e1, Nat.mul_one]
      have holds := hown.cells (g := g2) rfl
      have hbb : ((lim (val l)).length + 1) * 4 ≤ 140737488355328 := by omega
      have hgr := run_append_grow (P := Oaag.prog) w0 53 ty 65 i0 (.int .u32 0) Oaag.underlying53 hi hz0 ⟨g2, 0, none⟩ (lim (val l)).length l.length _ (by rw [hz1]; exact hown.1) holds ⟨w.heap.size, 0, none⟩ 1 1 [.int .u32 0] (by rw [hz1]; rfl) hnews (by omega) (by omega) (growslice_fits (by omega) (by rw [hz2]; exact hbb))
      rw [hrun] at hgr
      injection hgr with e3 e4
      subst e4
      have hgl : g2 < w0.heap.size := hr0.size
      have hkeep : ∀ o : Obj, Row (w0.drew.alloc o) g2 l := fun o => (Below.heap_alloc w0.drew o g2 hgl).trans hr0
      exact Res.sl (B := 0) (.inr ⟨h0, g2, l, rfl, Nat.zero_le _, hkeep _, hl, rfl, rfl⟩)
  · have hrow : Row w' g2 l2 := (hk1 g2 hr2.size (fun g hg' e => by subst e; exact hg hg')).trans hr2
    exact Res.sl (B := 0) (.inr ⟨h20, g2, l2, rfl, Nat.zero_le _, hrow, hl2, rfl, rfl⟩)

theorem wpList_nat2 {w : World} {ops : Array Oper} {rest : List Oper} {o : Oper} {act : Act} {Q : Exit → Act → World → Prop} (hgd : Region.wanted o (yielded ops act.tmps) = true) (s x : Operand) (ho : o.op = .call { callee := .builtin .append, args := #[s, x], argTypes := #[53, 53] })
    {B : Nat} {a : Option Addr} {cap n : Nat} (hR : Res B w a cap n) (hlen : (lim n).length ≤ 1000000) (hB : B ≤ w.heap.size) (hs : act.eval s = .slice a (lim n).length cap) (hx : act.eval x = .slice (some ⟨w.heap.size, 0, none⟩) 1 1)
    (h : ∀ a' cap' w', Sl w' (some a') cap' (lim n ++ [0]) → Below B w w' → (∀ k, k < w.heap.size → (∀ g, a = some ⟨g, 0, none⟩ → k ≠ g) → w'.heap[k]? = w.heap[k]?) → (∀ (B2 : Nat) (a2 : Option Addr) (c2 x2 : Nat), Res B2 w a2 c2 x2 → Sl w' a2 c2 (lim x2)) → wpList Oaag.prog ops Q rest (act.put o.dst (.slice (some a') ((lim n).length + 1) cap')) w') : wpList Oaag.prog ops Q (o :: rest) act (w.alloc (.cells #[.int .u32 0] 65)) := by
  obtain ⟨a', cap', w', h1, h2, h3, h4⟩ := natApp_run2 w o.type hR hlen hB
  have h5 : ∀ (B2 : Nat) (a2 : Option Addr) (c2 x2 : Nat), Res B2 w a2 c2 x2 → Sl w' a2 c2 (lim x2) := fun B2 a2 c2 x2 hr => natApp_old w o.type hR hlen hB h1 hr
  simp only [wpList, hgd, if_true]
  refine .inl ?_
  unfold Oper.wp execOp
  simp only [ho, resolve, invoke, builtin, Sem.run_bind, Sem.run_pure, Result.andThen_ok, List.map_toArray, List.map_cons, List.map_nil, hs, hx, h1]
  exact h a' cap' w' h2 h3 h4 h5
end Go.Proofs.YgcoaaGreat.NatW
