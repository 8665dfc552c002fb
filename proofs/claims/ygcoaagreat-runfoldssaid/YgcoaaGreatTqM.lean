/-
  The claim: the script opened.
-/
import Derived.Test.YgcoaaGreatTqL
import Derived.Deep.Slices
import Derived.OpenShut
import Derived.ShutString
set_option linter.unusedVariables false
set_option maxRecDepth 20000
namespace Go.Proofs.YgcoaaGreat.NatW
open Go.RowKit Go.Deep Go.ChangeShapes Go.WideShapes

theorem cells91 : Oaag.prog.cellsOf 91 = 6 := by kernel_rfl
theorem cells5 : Oaag.prog.cellsOf 5 = 1 := by kernel_rfl
theorem cells30 : Oaag.prog.cellsOf 30 = 1 := by kernel_rfl
theorem cells9 : Oaag.prog.cellsOf 9 = 1 := by kernel_rfl

theorem op_of {H : Type} {enc : TypeId × Value → H} {w : World} {base : Nat} {spare : Nat → Bool} {held : Bool} {n : Nat} {cs : List Value} {x : DataW H × List MemPlace} (h : DataW.trod enc Oaag.prog w base spare held n 91 cs = some x) : ∃ o : OpT, o.Ok ∧ cs = o.cs.toList := by
  obtain ⟨xs, m, rfl, rfl, hl, hx, hf⟩ := DataW.trod_struct Oaag.underlying91 h
  rw [cells91] at hl
  obtain ⟨c0, c1, c2, c3, c4, c5, rfl⟩ : ∃ c0 c1 c2 c3 c4 c5, cs = [c0, c1, c2, c3, c4, c5] := by
    rcases cs with _ | ⟨c0, _ | ⟨c1, _ | ⟨c2, _ | ⟨c3, _ | ⟨c4, _ | ⟨c5, _ | ⟨c6, cs⟩⟩⟩⟩⟩⟩⟩ <;> simp at hl
    exact ⟨_, _, _, _, _, _, rfl⟩
  have hx6 : xs.length = 6 := hx
  have g : ∀ k, k < 6 → ∃ y, xs[k]? = some y := fun k hk => ⟨xs[k], List.getElem?_eq_getElem (by omega)⟩
  have f0 : DataW.trod enc Oaag.prog w base spare held m 5 (([c0, c1, c2, c3, c4, c5].drop 0).take (Oaag.prog.cellsOf 5)) = xs[0]? := hf 0 _ rfl
  rw [cells5] at f0
  replace f0 : DataW.trod enc Oaag.prog w base spare held m 5 [c0] = xs[0]? := f0
  have f1 : DataW.trod enc Oaag.prog w base spare held m 5 (([c0, c1, c2, c3, c4, c5].drop 1).take (Oaag.prog.cellsOf 5)) = xs[1]? := hf 1 _ rfl
  rw [cells5] at f1
  replace f1 : DataW.trod enc Oaag.prog w base spare held m 5 [c1] = xs[1]? := f1
  have f2 : DataW.trod enc Oaag.prog w base spare held m 5 (([c0, c1, c2, c3, c4, c5].drop 2).take (Oaag.prog.cellsOf 5)) = xs[2]? := hf 2 _ rfl
  rw [cells5] at f2
  replace f2 : DataW.trod enc Oaag.prog w base spare held m 5 [c2] = xs[2]? := f2
  have f3 : DataW.trod enc Oaag.prog w base spare held m 5 (([c0, c1, c2, c3, c4, c5].drop 3).take (Oaag.prog.cellsOf 5)) = xs[3]? := hf 3 _ rfl
  rw [cells5] at f3
  replace f3 : DataW.trod enc Oaag.prog w base spare held m 5 [c3] = xs[3]? := f3
  have f4 : DataW.trod enc Oaag.prog w base spare held m 30 (([c0, c1, c2, c3, c4, c5].drop 4).take (Oaag.prog.cellsOf 30)) = xs[4]? := hf 4 _ rfl
  rw [cells30] at f4
  replace f4 : DataW.trod enc Oaag.prog w base spare held m 30 [c4] = xs[4]? := f4
  have f5 : DataW.trod enc Oaag.prog w base spare held m 9 (([c0, c1, c2, c3, c4, c5].drop 5).take (Oaag.prog.cellsOf 9)) = xs[5]? := hf 5 _ rfl
  rw [cells9] at f5
  replace f5 : DataW.trod enc Oaag.prog w base spare held m 9 [c5] = xs[5]? := f5
  obtain ⟨y0, e0⟩ := g 0 (by omega)
  obtain ⟨y1, e1⟩ := g 1 (by omega)
  obtain ⟨y2, e2⟩ := g 2 (by omega)
  obtain ⟨y3, e3⟩ := g 3 (by omega)
  obtain ⟨y4, e4⟩ := g 4 (by omega)
  obtain ⟨y5, e5⟩ := g 5 (by omega)
  obtain ⟨a0, q0, _, w0⟩ := DataW.trod_int Oaag.underlying5 (f0.trans e0)
  obtain ⟨a1, q1, _, w1⟩ := DataW.trod_int Oaag.underlying5 (f1.trans e1)
  obtain ⟨a2, q2, _, w2⟩ := DataW.trod_int Oaag.underlying5 (f2.trans e2)
  obtain ⟨a3, q3, _, w3⟩ := DataW.trod_int Oaag.underlying5 (f3.trans e3)
  obtain ⟨a4, q4, _, w4⟩ := DataW.trod_int Oaag.underlying30 (f4.trans e4)
  obtain ⟨s, q5, _, _⟩ := DataW.trod_string Oaag.underlying9 (f5.trans e5)
  cases q0; cases q1; cases q2; cases q3; cases q4; cases q5
  have b0 : 0 ≤ a0 ∧ a0 ≤ 255 := by simpa [Lit.wf, IntKind.min, IntKind.max, IntKind.signed, IntKind.bits] using w0
  have b1 : 0 ≤ a1 ∧ a1 ≤ 255 := by simpa [Lit.wf, IntKind.min, IntKind.max, IntKind.signed, IntKind.bits] using w1
  have b2 : 0 ≤ a2 ∧ a2 ≤ 255 := by simpa [Lit.wf, IntKind.min, IntKind.max, IntKind.signed, IntKind.bits] using w2
  have b3 : 0 ≤ a3 ∧ a3 ≤ 255 := by simpa [Lit.wf, IntKind.min, IntKind.max, IntKind.signed, IntKind.bits] using w3
  have b4 : 0 ≤ a4 ∧ a4 ≤ 18446744073709551615 := by simpa [Lit.wf, IntKind.min, IntKind.max, IntKind.signed, IntKind.bits] using w4
  exact ⟨⟨a0, a1, a2, a3, a4, s⟩, ⟨b0.1, ⟨b1, b2, b3, ⟨b4.1, by show a4 < _; omega⟩⟩⟩, rfl⟩

theorem add_none' (b off k : Nat) : (⟨b, off, none⟩ : Addr).add k = ⟨b, off + k, none⟩ := by
  unfold Addr.add
  split
  · rename_i h; simp
  · rfl

theorem scr_of {H : Type} {enc : TypeId × Value → H} {W : World} {spare : Nat → Bool} {held : Bool} {a0 : Option Addr} {len0 cap0 : Nat} {d : DataW H} {ps : List MemPlace} (h : DataW.Trod enc Oaag.prog W 0 spare held 36 (.slice a0 len0 cap0) d ps) : ∃ ops : List OpT, (∀ o ∈ ops, o.Ok) ∧ Scr W.heap.size W (.slice a0 len0 cap0) ops := by
  obtain ⟨fuel, hf⟩ := h
  rcases open_slice Oaag.underlying36 hf with ⟨hcs, hx⟩ | ⟨a, len, cap, m, n, D, Pl, hcs, _, hl, hm, hmm, hx, hel⟩
  · simp [Value.cells] at hcs
    obtain ⟨rfl, rfl, rfl⟩ := hcs
    exact ⟨[], by simp, none, 0, rfl, by simp⟩
  · simp [Value.cells] at hcs
    obtain ⟨rfl, rfl, rfl⟩ := hcs
    have hle : len0 ≤ m := by rw [hmm]; split <;> omega
    have hop : ∀ i, ∃ o : OpT, i < len0 → o.Ok ∧ Oaag.prog.cellsOf 91 = 6 ∧ W.cells? 0 (a.add (i * 6)) 6 = some o.cs.toList := fun i => by
      by_cases hi : i < len0
      · obtain ⟨cs', h1, h2⟩ := hel i (by omega)
        obtain ⟨o, ho, rfl⟩ := op_of h2
        rw [cells91] at h1
        exact ⟨o, fun _ => ⟨ho, cells91, h1⟩⟩
      · exact ⟨⟨0, 0, 0, 0, 0, ⟨#[]⟩⟩, fun h => absurd h hi⟩
    obtain ⟨f, hop⟩ := Classical.axiomOfChoice hop
    refine ⟨(List.range len0).map f, ?_, some a, cap0, by simp, ?_⟩
    · intro o ho
      obtain ⟨i, hi, rfl⟩ := List.mem_map.1 ho
      exact (hop i (List.mem_range.1 hi)).1
    · intro i o ho
      have hi : i < len0 := by
        have := (List.getElem?_eq_some_iff.1 ho).1
        simpa using this
      have : o = f i := by
        rw [List.getElem?_map, List.getElem?_range hi] at ho
        exact (Option.some.inj ho).symm
      subst this
      obtain ⟨_, _, hc⟩ := hop i hi
      obtain ⟨_, hlen, hcell⟩ := World.cells?_some hc
      obtain ⟨_, _, hc0⟩ := hop 0 (by omega)
      have hsp := World.cell?_spot (((World.cells?_some hc0).2.2 0 (by omega)).trans (by rfl))
      have hbl := World.block_lt_of_cell? _ _ (((World.cells?_some hc0).2.2 0 (by omega)).trans (by rfl))
      obtain ⟨b, off, spot⟩ := a
      have : spot = none := by simpa [Addr.add] using hsp
      subst this
      refine ⟨b, off, rfl, by simpa [Addr.add] using hbl, fun j x hj => ?_⟩
      have hj6 : j < 6 := (Array.getElem?_eq_some_iff.1 hj).1
      have := hcell j hj6
      rw [add_none', add_none'] at this
      rw [this]
      rw [← hj]; simp
end Go.Proofs.YgcoaaGreat.NatW
