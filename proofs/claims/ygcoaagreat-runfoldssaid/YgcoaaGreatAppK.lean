/-
  append of one element: the old slice still owns what it held.
-/
import Derived.Test.YgcoaaGreatSoH
set_option linter.unusedVariables false
set_option linter.unusedSimpArgs false
namespace Go.Proofs.YgcoaaGreat.NatW
attribute [local go_sem] Go.Instr.field Go.asAgg
open Go.RowKit

theorem append_keep (w : World) (t ty e : TypeId) (z : Value) (bytes : Nat)
    (hinfo : (Oaag.prog.info? e).map (fun i => (i.zero, i.size, i.bytes)) = some (some z, 1, bytes)) (hzc : z.cells.size = 1) (ht : Oaag.prog.underlying t = some (.slice e)) (hby : bytes ≤ 64)
    {base n : Nat} {p : Value → Prop} {v u : Value} (hown : Own w base e v n p) (b : Nat) (hb : w.cell? ⟨b, 0, none⟩ = some u) (hu1 : u.oneCell' = true) (hpu : p u)
    (hn : n ≤ 1000000000) (hbase : base ≤ w.heap.size) :
    ∃ v' w', (Builtin.append_ #[t, t] ty #[v, .slice (some ⟨b, 0, none⟩) 1 1]).run Oaag.prog w = .ok v' w' ∧ Own w' base e v' (n + 1) p ∧ Own w' base e v n p ∧ w.grownBy w' v.ownBlock := by
  obtain ⟨i0, hi, hz0, hz1, hz2⟩ := info_parts hinfo
  obtain ⟨xs, h1, h2⟩ := hown
  have hnews : ∀ j y, [u][j]? = some y → w.cell? ((⟨b, 0, none⟩ : Addr).add j) = some y := by
    intro j y hj
    match j, hj with
    | 0, hj => simp at hj; subst hj; simpa [Addr.add] using hb
    | k + 1, hj => simp at hj
  have h1c : ∀ y ∈ [u], y.oneCell' = true := by intro y hy; simp at hy; subst hy; exact hu1
  have hbb : (n + 1) * bytes ≤ 140737488355328 := by
    calc (n + 1) * bytes ≤ 1000000001 * 64 := Nat.mul_le_mul (by omega) hby
      _ ≤ 140737488355328 := by decide
  obtain ⟨v', w', hr, h3, h4, _⟩ := run_append_own (P := Oaag.prog) w base t ty e i0 z 1 bytes ht hi hz0 hz1 hz2 hzc (by decide) v n xs h1 ⟨b, 0, none⟩ 1 1 [u] rfl hnews h1c (by unfold maxLen; omega) hbb hbase
  refine ⟨v', w', hr, ⟨_, h3, ?_⟩, ⟨xs, ⟨h1.1, ?_⟩, h2⟩, h4⟩
  · intro y hy
    rcases List.mem_append.1 hy with hy | hy
    · exact h2 y hy
    · simp at hy; subst hy; exact hpu
  · rcases h1.2 with hnil | ⟨g, cap, cur, rfl, hbg, hg, hnc, hcm, hcs, htake⟩
    · exact .inl hnil
    · by_cases hroom : n + 1 ≤ cap
      · have hr2 := run_append_room (P := Oaag.prog) w t ty e i0 ht hi g n cap cur hg ⟨b, 0, none⟩ 1 1 [u] (by rw [hz1]; rfl) hnews h1c hroom (by rw [hz1, hcs]; simp; omega)
        rw [hr] at hr2
        injection hr2 with e1 e2
        subst e2
        refine .inr ⟨g, cap, _, rfl, hbg, setRow_heap w g cur _ e _ hg, hnc, hcm, ?_, ?_⟩
        · simp only [List.size_toArray, List.length_append, List.length_take, List.length_drop, Array.length_toList, hz1, Nat.mul_one, List.length_singleton]
          omega
        · rw [← htake]
          simp only [hz1, Nat.mul_one]
          rw [List.append_assoc, List.take_append_of_le_length (by simp; omega), List.take_take, Nat.min_self]
      · have holds : ∀ j y, xs[j]? = some y → w.cell? ((⟨g, 0, none⟩ : Addr).add j) = some y := h1.cells (g := g) rfl
        have hr2 := run_append_grow (P := Oaag.prog) w t ty e i0 z ht hi hz0 ⟨g, 0, none⟩ n cap xs (by rw [hz1]; exact h1.1) holds ⟨b, 0, none⟩ 1 1 [u] (by rw [hz1]; rfl) hnews (by omega) (by omega) (growslice_fits (by omega) (by rw [hz2]; exact hbb))
        rw [hr] at hr2
        injection hr2 with e1 e2
        subst e2
        refine .inr ⟨g, cap, cur, rfl, hbg, ?_, hnc, hcm, hcs, htake⟩
        have hgl : g < w.heap.size := (Array.getElem?_eq_some_iff.1 hg).1
        exact (Below.heap_alloc w.drew _ g hgl).trans hg

end Go.Proofs.YgcoaaGreat.NatW
