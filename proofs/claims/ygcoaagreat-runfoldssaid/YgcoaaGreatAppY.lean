/-
  append of one element, exactly, in this program.
-/
import Derived.Test.YgcoaaGreatAppX
import Derived.Test.YgcoaaGreatApp
set_option linter.unusedVariables false
set_option linter.unusedSimpArgs false
set_option maxRecDepth 20000
namespace Go.Proofs.YgcoaaGreat.NatW
open Go.RowKit

theorem rowX_of {w : World} {base n : Nat} {av : Nat → Prop} {e : TypeId} {v : Value} {xs : List Value} (h : w.ownsRow base e 1 v n xs) (hav : ∀ k, base ≤ k → ¬ av k) : w.rowX base av v xs := by
  obtain ⟨h1, h2⟩ := h
  rcases h2 with ⟨h, hn⟩ | ⟨g, cap, cur, h, hb, hg, hnc, hcm, hcs, htk⟩
  · exact .inl ⟨h, List.eq_nil_of_length_eq_zero (by omega)⟩
  · have hl : xs.length = n := by omega
    subst hl
    exact .inr ⟨g, cap, cur, e, h, ⟨hb, hav _ hb⟩, hg, hnc, hcm, by omega, by simpa using htk⟩
theorem rowX_later {w w' : World} {base : Nat} {av : Nat → Prop} {v : Value} {xs : List Value} (h : w.rowX base av v xs) (hb : Below w.heap.size w w') : w'.rowX base av v xs := by
  rcases h with hn | ⟨g, cap, cur, tt, e1, e2, e3, e4⟩
  · exact .inl hn
  · exact .inr ⟨g, cap, cur, tt, e1, e2, by rw [hb.block g (Array.getElem?_eq_some_iff.1 e3).1]; exact e3, e4⟩
theorem rowX_other {w : World} {base : Nat} {av : Nat → Prop} {v : Value} {xs : List Value} (h : w.rowX base av v xs) {b i : Nat} (x : Value) (hb : b < base ∨ av b) : (w.setCell ⟨b, i, none⟩ x).rowX base av v xs := by
  rcases h with hn | ⟨g, cap, cur, tt, e1, e2, e3, e4⟩
  · exact .inl hn
  · exact .inr ⟨g, cap, cur, tt, e1, e2, by rw [Below.heap_setCell _ _ _ _ (by rcases hb with hb | hb <;> simp <;> (intro h; subst h) <;> first | omega | exact e2.2 hb)]; exact e3, e4⟩
theorem rowX_slice {w : World} {base : Nat} {av : Nat → Prop} {v : Value} {xs : List Value} (h : w.rowX base av v xs) : ∃ a c, v = .slice a xs.length c := by
  rcases h with ⟨rfl, rfl⟩ | ⟨g, cap, cur, tt, rfl, _⟩
  · exact ⟨_, _, rfl⟩
  · exact ⟨_, _, rfl⟩

/-- All below base, and block av, as it was. -/
structure Apart (base : Nat) (av : Nat → Prop) (w w' : World) : Prop where
  below : Below base w w'
  keep : ∀ k, av k → k < w.heap.size → w'.heap[k]? = w.heap[k]?
theorem Apart.cell {base : Nat} {av : Nat → Prop} {w w' : World} (h : Apart base av w w') {k : Nat} (hk : av k) (hav : k < w.heap.size) (i : Nat) : w'.cell? ⟨k, i, none⟩ = w.cell? ⟨k, i, none⟩ := by
  unfold World.cell?
  rw [h.keep k hk hav]
theorem Apart.frozen {base : Nat} {av : Nat → Prop} {w w' : World} (h : Apart base av w w') {k : Nat} (hk : av k) (hav : k < w.heap.size) (i : Nat) : w'.frozen? ⟨k, i, none⟩ = w.frozen? ⟨k, i, none⟩ := by
  unfold World.frozen?
  rw [h.keep k hk hav]

theorem wpList_appX {w : World} {ops : Array Oper} {rest : List Oper} {o : Oper} {a : Act} {Q : Exit → Act → World → Prop} (t e : TypeId) (z : Value) (bytes : Nat)
    (hinfo : (Oaag.prog.info? e).map (fun i => (i.zero, i.size, i.bytes)) = some (some z, 1, bytes)) (hzc : z.cells.size = 1) (ht : Oaag.prog.underlying t = some (.slice e)) (hby : bytes ≤ 64)
    (hgd : o.guard = none) (s x : Operand) (ho : o.op = .call { callee := .builtin .append, args := #[s, x], argTypes := #[t, t] })
    {base : Nat} {av : Nat → Prop} {v u : Value} {xs : List Value} (hown : w.rowX base av v xs) (hs : a.eval s = v) (hx : a.eval x = .slice (some ⟨w.heap.size, 0, none⟩) 1 1) (hu1 : u.oneCell' = true)
    (hn : xs.length ≤ 1000000000) (hbase : base ≤ w.heap.size) (hav : ∀ k, w.heap.size ≤ k → ¬ av k)
    (h : ∀ v' w', w'.rowX base av v' (xs ++ [u]) → Apart base av w w' → wpList Oaag.prog ops Q rest (a.put o.dst v') w') : wpList Oaag.prog ops Q (o :: rest) a (w.alloc (.cells #[u] e)) := by
  obtain ⟨i0, hi, hz0, hz1, hz2⟩ := info_parts hinfo
  refine wpList_append_x _ hgd s x t ho base av e i0 z bytes ht hi hz0 hz1 hz2 hzc v xs hs (hown.alloc _) ⟨w.heap.size, 0, none⟩ 1 u hx ?_ hu1 ?_ ?_ ?_ ?_ ?_
  · intro j y hj
    match j, hj with
    | 0, hj => simp at hj; subst hj; simp [Addr.add]
    | k + 1, hj => simp at hj
  · unfold maxLen; omega
  · calc (xs.length + 1) * bytes ≤ 1000000001 * 64 := Nat.mul_le_mul (by omega) hby
      _ ≤ 140737488355328 := by decide
  · simp; omega
  · intro k hk; exact hav k (by simp at hk; omega)
  · intro v' w' hown' hgr
    have hlt := fun k hk => ((hown.alloc (.cells #[u] e)).lt k hk).1
    refine h v' w' hown' ⟨((Below.refl base w).alloc hbase (.cells #[u] e)).grown hgr (by simp; omega) (fun k hk => (hlt k hk).1), fun k hk hkw => ?_⟩
    rw [hgr.block k (by simp; omega) ?_]
    · exact Below.heap_alloc _ _ _ hkw
    · intro he
      exact (hlt k he.symm).2 hk

theorem strOfNums_nil : strOfNums [] = ByteArray.empty := rfl
theorem rowX_string {w : World} {base : Nat} {av : Nat → Prop} {v : Value} (xs : List Int) (h : w.rowX base av v (xs.map (.int .u8))) : (convert 119 9 v).run Oaag.prog w = .ok (.string (strOfNums xs)) w := by
  rcases h with ⟨rfl, h⟩ | ⟨g, cap, cur, tt, rfl, e2, e3, e4, e5, e6, e7⟩
  · have : xs = [] := List.map_eq_nil_iff.1 h
    subst this
    rw [strOfNums_nil]
    exact run_convert_bytes_nil w 119 5 NatW.u119 NatW.u5 0 0 9 NatW.u9
  · refine run_convert_bytes_arg w 119 5 NatW.u119 NatW.u5 g 0 _ cap xs (by simp) ?_ 9 NatW.u9
    intro i hi
    rw [Nat.zero_add, cell_of_row _ _ _ _ _ _ e3]
    have hl : i < xs.length := by simpa using hi
    have h4 : (cur.toList.take (xs.map (Value.int .u8)).length)[i]? = some (.int .u8 (xs.getD i 0)) := by
      rw [e7, List.getElem?_map, List.getElem?_eq_getElem hl]
      simp [List.getD, List.getElem?_eq_getElem hl]
    rw [List.getElem?_take_of_lt (by simpa using hl)] at h4
    simpa using h4

/-- make([]byte, 0, n). -/
theorem wpList_mkX {w : World} {ops : Array Oper} {rest : List Oper} {o : Oper} {a : Act} {Q : Exit → Act → World → Prop}
    (hg : o.guard = none) (x y : Operand) (hop : o.op = Op.makeSlice 119 x y) (n : Nat) (C : Int) (hx : a.eval x = .int .i64 0) (hy : a.eval y = .int .i64 C) (hC : C = (n : Int)) (hn : n ≤ 1000000000) (base : Nat) (av : Nat → Prop) (hbase : base ≤ w.heap.size) (hav : ∀ k, base ≤ k → ¬ av k)
    (hK : ∀ v' w', w'.rowX base av v' [] → Below base w w' → wpList Oaag.prog ops Q rest (a.put o.dst v') w') :
    wpList Oaag.prog ops Q (o :: rest) a w := by
  obtain ⟨i, hi, hz, hs, hbt⟩ := info_parts info5
  refine wpList_make_own w hg x y 119 hop base 5 i (.int .u8 0) 1 u119 hi hz hs .i64 .i64 C n hx hy hC (by rw [hbt]; omega) (by unfold maxLen; omega) hbase fun w' h1 h2 => hK _ w' (rowX_of h1 hav) ?_
  exact (Below.refl base w).grown h2 hbase (fun k hk => by cases hk)
end Go.Proofs.YgcoaaGreat.NatW
