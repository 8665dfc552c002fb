/-
  append of one element to a slice of the function's own; zeros.
-/
import Derived.Test.YgcoaaGreatDecD
set_option linter.unusedVariables false
set_option linter.unusedSimpArgs false
namespace Go.Proofs.YgcoaaGreat.NatW
attribute [local go_sem] Go.Instr.field Go.asAgg
open Go.RowKit

/-- The slice v owns its n elements, each with p, in a block from base on. -/
def Own (w : World) (base : Nat) (e : TypeId) (v : Value) (n : Nat) (p : Value → Prop) : Prop := ∃ xs, w.ownsRow base e 1 v n xs ∧ ∀ x ∈ xs, p x

theorem Own.nil (w : World) (base : Nat) (e : TypeId) (p : Value → Prop) : Own w base e (.slice none 0 0) 0 p := ⟨[], World.ownsRow_nil w base e 1, fun x hx => by cases hx⟩

theorem Own.alloc {w : World} {base n : Nat} {e : TypeId} {v : Value} {p : Value → Prop} (h : Own w base e v n p) (o : Obj) : Own (w.alloc o) base e v n p := by
  obtain ⟨xs, h1, h2⟩ := h
  exact ⟨xs, h1.alloc o, h2⟩

theorem Own.kept {w w' : World} {base n : Nat} {e : TypeId} {v : Value} {p : Value → Prop} (h : Own w base e v n p) (hb : Below w.heap.size w w') : Own w' base e v n p := by
  obtain ⟨xs, ⟨h1, h2⟩, h3⟩ := h
  refine ⟨xs, ⟨h1, ?_⟩, h3⟩
  rcases h2 with h2 | ⟨g, cap, cur, e1, e2, e3, e4⟩
  · exact .inl h2
  · exact .inr ⟨g, cap, cur, e1, e2, by rw [hb.block g (Array.getElem?_eq_some_iff.1 e3).1]; exact e3, e4⟩

theorem Own.other {w : World} {base n : Nat} {e : TypeId} {v : Value} {p : Value → Prop} (h : Own w base e v n p) {b i : Nat} (x : Value) (hb : b < base) : Own (w.setCell ⟨b, i, none⟩ x) base e v n p := by
  obtain ⟨xs, ⟨h1, h2⟩, h3⟩ := h
  refine ⟨xs, ⟨h1, ?_⟩, h3⟩
  rcases h2 with h2 | ⟨g, cap, cur, e1, e2, e3, e4⟩
  · exact .inl h2
  · exact .inr ⟨g, cap, cur, e1, e2, by rw [Below.heap_setCell _ _ _ _ (by simp; omega)]; exact e3, e4⟩

theorem wpList_app1 {w : World} {ops : Array Oper} {rest : List Oper} {o : Oper} {a : Act} {Q : Exit → Act → World → Prop} (t e : TypeId) (z : Value) (bytes : Nat)
    (hinfo : (Oaag.prog.info? e).map (fun i => (i.zero, i.size, i.bytes)) = some (some z, 1, bytes)) (hzc : z.cells.size = 1) (ht : Oaag.prog.underlying t = some (.slice e)) (hby : bytes ≤ 64)
    (hgd : o.guard = none) (s x : Operand) (ho : o.op = .call { callee := .builtin .append, args := #[s, x], argTypes := #[t, t] })
    {base n : Nat} {p : Value → Prop} {v u : Value} (hown : Own w base e v n p) (hs : a.eval s = v) (hx : a.eval x = .slice (some ⟨w.heap.size, 0, none⟩) 1 1) (hu1 : u.oneCell' = true) (hpu : p u)
    (hn : n ≤ 1000000000) (hbase : base ≤ w.heap.size)
    (h : ∀ v' w', Own w' base e v' (n + 1) p → Below base w w' → wpList Oaag.prog ops Q rest (a.put o.dst v') w') : wpList Oaag.prog ops Q (o :: rest) a (w.alloc (.cells #[u] e)) := by
  obtain ⟨i0, hi, hz0, hz1, hz2⟩ := info_parts hinfo
  obtain ⟨xs, h1, h2⟩ := hown
  refine wpList_append_own _ hgd s x t ho base e i0 z 1 bytes ht hi hz0 hz1 hz2 hzc (by decide) v n xs hs (h1.alloc _) ⟨w.heap.size, 0, none⟩ 1 1 [u] hx rfl ?_ ?_ ?_ ?_ ?_ ?_
  · intro j y hj
    match j, hj with
    | 0, hj => simp at hj; subst hj; simp [Addr.add]
    | k + 1, hj => simp at hj
  · intro y hy; simp at hy; subst hy; exact hu1
  · unfold maxLen; omega
  · calc (n + 1) * bytes ≤ 1000000001 * 64 := Nat.mul_le_mul (by omega) hby
      _ ≤ 140737488355328 := by decide
  · simp; omega
  · intro v' w' hown' hgr _
    refine h v' w' ⟨_, hown', ?_⟩ ?_
    · intro y hy
      rcases List.mem_append.1 hy with hy | hy
      · exact h2 y hy
      · simp at hy; subst hy; exact hpu
    · refine ((Below.refl base w).alloc hbase (.cells #[u] e)).grown hgr (by simp; omega) ?_
      intro k hk
      exact ((h1.alloc (.cells #[u] e)).lt k hk).1

theorem info5 : (Oaag.prog.info? 5).map (fun i => (i.zero, i.size, i.bytes)) = some (some (.int .u8 0), 1, 1) := by kernel_rfl
theorem info9 : (Oaag.prog.info? 9).map (fun i => (i.zero, i.size, i.bytes)) = some (some (.string ⟨#[]⟩), 1, 16) := by kernel_rfl

/-- A value is a byte. -/
def isB (v : Value) : Prop := ∃ x, v = .int .u8 x

theorem Own.string {w : World} {base n : Nat} {v : Value} (h : Own w base 5 v n isB) : ∃ s : ByteArray, s.size = n ∧ (convert 119 9 v).run Oaag.prog w = .ok (.string s) w := by
  obtain ⟨xs, ⟨h1, h2⟩, h3⟩ := h
  rcases h2 with ⟨rfl, rfl⟩ | ⟨g, cap, cur, rfl, e2, e3, e4, e5, e6, e7⟩
  · exact ⟨ByteArray.empty, rfl, run_convert_bytes_nil w 119 5 u119 u5 0 0 9 u9⟩
  · refine bytes_string w 119 9 5 u119 u5 u9 g 0 n cap (fun _ => True) ?_
    intro i hi
    simp only [Nat.mul_one] at *
    have hl : i < xs.length := by omega
    obtain ⟨y, hy⟩ := h3 xs[i] (List.getElem_mem hl)
    refine ⟨y, ?_, trivial⟩
    rw [Nat.zero_add, cell_of_row _ _ _ _ _ _ e3, ← hy]
    have : cur.toList[i]? = some xs[i] := by
      have h4 : (cur.toList.take n)[i]? = some xs[i] := by rw [e7]; exact List.getElem?_eq_getElem hl
      rw [List.getElem?_take] at h4
      simpa [hi] using h4
    simpa using this

/-- make([]byte, 0, n). -/
theorem wpList_mk0 {w : World} {ops : Array Oper} {rest : List Oper} {o : Oper} {a : Act} {Q : Exit → Act → World → Prop}
    (hg : o.guard = none) (x y : Operand) (hop : o.op = Op.makeSlice 119 x y) (n : Nat) (C : Int) (hx : a.eval x = .int .i64 0) (hy : a.eval y = .int .i64 C) (hC : C = (n : Int)) (hn : n ≤ 1000000000) (base : Nat) (hbase : base ≤ w.heap.size)
    (hK : ∀ v' w', Own w' base 5 v' 0 isB → Below base w w' → wpList Oaag.prog ops Q rest (a.put o.dst v') w') :
    wpList Oaag.prog ops Q (o :: rest) a w := by
  obtain ⟨i, hi, hz, hs, hbt⟩ := info_parts info5
  refine wpList_make_own w hg x y 119 hop base 5 i (.int .u8 0) 1 u119 hi hz hs .i64 .i64 C n hx hy hC (by rw [hbt]; omega) (by unfold maxLen; omega) hbase fun w' h1 h2 => hK _ w' ⟨[], h1, fun x hx => by cases hx⟩ ?_
  exact (Below.refl base w).grown h2 hbase (fun k hk => by cases hk)

theorem slice_arr_h (t e n : Nat) (hu : Oaag.prog.underlying t = some (.array n e)) (hs : (Oaag.prog.info? e).map (·.size) = some 1) (b H : Nat) (h : Int) (hh : h = (H : Int)) (hH : H ≤ n) (w : World) :
    (Instr.sliceAt t (.pointer (some ⟨b, 0, none⟩)) none (some (.int .i64 h)) none).run Oaag.prog w = .ok (.slice (some ⟨b, 0, none⟩) H n) w := by
  have e1 : Oaag.prog.arrayLen t = n := by simp [Program.arrayLen, hu]
  have e2 : Oaag.prog.elem t = e := by simp [Program.elem, hu]
  have ht : Oaag.prog.underlying t = some (.array (Oaag.prog.arrayLen t) (Oaag.prog.elem t)) := by rw [e1, e2]; exact hu
  rw [run_sliceAt_array_h w t _ ht .i64 h (by omega) (by rw [e1]; omega), e1, e2]
  have hsz : (sizeOf e).run Oaag.prog w = .ok 1 w := by
    cases hi : Oaag.prog.info? e with
    | none => rw [hi] at hs; cases hs
    | some i => rw [hi] at hs; simp at hs; simp [sizeOf, typeInfo, hi, hs]
  subst hh
  rw [hsz]
  simp [Result.andThen, slicedAt, ptr_add]

theorem u371 : Oaag.prog.underlying 371 = some (.array 4096 5) := by kernel_rfl
theorem z371 : ((Oaag.prog.info? 371).bind fun i => i.zero.map fun z => z.cells) = some (Array.replicate 4096 (.int .u8 0)) := by kernel_rfl

set_option maxRecDepth 20000 in
set_option maxHeartbeats 1000000 in
theorem zeros_ret (n : Int) (h1 : -9223372036854775808 ≤ n) (h2 : n ≤ 9223372036854775807) : Ret 329 #[.int .i64 n] (fun v => ∃ s : ByteArray, v = .string s ∧ s.size ≤ 4096) := by
  intro w K hK
  have HK := hide hK
  clear hK
  go_enter Oaag.func329, Oaag.ntmps329
  by_cases h0 : n ≤ 0
  · go_wp2_with fail
    exact unhide HK _ _ ⟨_, rfl, by decide⟩ (Below.refl _ _)
  go_wp2_with (refine wpList_newc 371 _ z371 rfl rfl ?_)
  obtain ⟨w0, hw0⟩ : ∃ w0, w0 = w.alloc (.cells (Array.replicate 4096 (.int .u8 0)) 371) := ⟨_, rfl⟩
  have hb0 : Below w.heap.size w w0 := by rw [hw0]; exact (Below.refl _ _).alloc (Nat.le_refl _) _
  have hm0 : Mine w0 w.heap.size := by rw [hw0]; exact Mine.new w _ _
  have hk0 : Bank w0 w.heap.size 0 4096 .u8 (fun _ => True) := by
    rw [hw0]
    refine Bank.new w _ _ _ _ _ _ fun i hi => ⟨0, ?_, trivial⟩
    rw [Nat.zero_add, Array.getElem?_replicate, if_pos hi]
  rw [← hw0]
  clear hw0
  go_loopw [7] (fun t wr => ∃ i : Nat, i ≤ 4096 ∧ t = .int .i64 i ∧ Below w.heap.size w wr ∧ Mine wr w.heap.size ∧ Bank wr w.heap.size 0 4096 .u8 (fun _ => True)) (fun t _ => 4096 - (intOf t).toNat)
  case atStart => exact ⟨0, by omega, rfl, hb0, hm0, hk0⟩
  case round =>
    clear hb0 hm0 hk0
    obtain ⟨i, hi, rfl, hbw, hmn, hbk⟩ := hrel
    by_cases hl : i < 4096
    · obtain ⟨v, c, -⟩ := hbk.cell i hl
      have f := hmn.2 i
      have HB := hide hbk
      have HM := hide hmn
      clear hbk hmn
      go_wp2_with fail
      exact ⟨⟨i + 1, by omega, by simp, below_store hbw (Nat.le_refl _) _, (unhide HM).set _ _, (unhide HB).set _ trivial⟩, by simp [intOf]; omega⟩
    · have : i = 4096 := by omega
      subst this
      by_cases hn : n ≤ 4096
      · obtain ⟨N, rfl⟩ : ∃ N : Nat, n = N := ⟨n.toNat, by omega⟩
        have hsl := slice_arr_h 371 5 4096 NatW.u371 NatW.s5 w.heap.size N N rfl (by omega)
        obtain ⟨s, hs, hcv⟩ := bytes_string wr 119 9 5 NatW.u119 NatW.u5 NatW.u9 w.heap.size 0 N 4096 (fun _ => True) (fun j hj => hbk j (by omega))
        go_wp2_with fail
        exact unhide HK _ _ ⟨_, rfl, by omega⟩ hbw
      · have hsl := slice_arr_h 371 5 4096 NatW.u371 NatW.s5 w.heap.size 4096 4096 rfl (by omega)
        obtain ⟨s, hs, hcv⟩ := bytes_string wr 119 9 5 NatW.u119 NatW.u5 NatW.u9 w.heap.size 0 4096 4096 (fun _ => True) (fun j hj => hbk j (by omega))
        go_wp2_with fail
        exact unhide HK _ _ ⟨_, rfl, by omega⟩ hbw

end Go.Proofs.YgcoaaGreat.NatW
