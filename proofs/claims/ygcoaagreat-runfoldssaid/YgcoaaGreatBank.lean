/-
  Arrays in a block of the function's own, by their cells: what they hold is known only by a fact.
-/
import Derived.Test.YgcoaaGreatTacB
import Derived.Laws.BytesArg
set_option linter.unusedVariables false
set_option linter.unusedSimpArgs false
namespace Go.Proofs.YgcoaaGreat.NatW
attribute [local go_sem] Go.Instr.field Go.asAgg
open Go.RowKit

/-- The cells off, off + 1, .. of block b: n numbers of kind k, each with p. -/
def Bank (w : World) (b off n : Nat) (k : IntKind) (p : Int → Prop) : Prop := ∀ i, i < n → ∃ v, w.cell? ⟨b, off + i, none⟩ = some (.int k v) ∧ p v
/-- Block b is there and may be written. -/
def Mine (w : World) (b : Nat) : Prop := b < w.heap.size ∧ ∀ i, w.frozen? ⟨b, i, none⟩ = false

theorem Bank.cell {w : World} {b n : Nat} {k : IntKind} {p : Int → Prop} (h : Bank w b 0 n k p) (i : Nat) (hi : i < n) : ∃ v, w.cell? ⟨b, i, none⟩ = some (.int k v) ∧ p v := by
  have := h i hi
  rwa [Nat.zero_add] at this

theorem cell_set (w : World) (b i c j : Nat) (x u : Value) (h : w.cell? ⟨c, j, none⟩ = some u) : (w.setCell ⟨b, i, none⟩ x).cell? ⟨c, j, none⟩ = some (if b = c ∧ i = j then x else u) := by
  by_cases e : b = c ∧ i = j
  · obtain ⟨rfl, rfl⟩ := e
    rw [World.cell?_setCell_same (h := h)]; simp
  · rw [World.cell?_setCell_other (h := by intro e'; apply e; injection e' with e1 e2 e3; exact ⟨e1, e2⟩), h]; simp [e]

theorem Bank.set {w : World} {b off n : Nat} {k : IntKind} {p : Int → Prop} (h : Bank w b off n k p) (j : Nat) {v : Int} (hv : p v) : Bank (w.setCell ⟨b, j, none⟩ (.int k v)) b off n k p := by
  intro i hi
  obtain ⟨u, hu, hp⟩ := h i hi
  rw [cell_set w b j b (off + i) _ _ hu]
  split
  · exact ⟨v, rfl, hv⟩
  · exact ⟨u, rfl, hp⟩

theorem Bank.other {w : World} {b off n : Nat} {k : IntKind} {p : Int → Prop} (h : Bank w b off n k p) {c j : Nat} {x : Value} (hc : c ≠ b ∨ j < off ∨ off + n ≤ j) : Bank (w.setCell ⟨c, j, none⟩ x) b off n k p := by
  intro i hi
  obtain ⟨u, hu, hp⟩ := h i hi
  rw [cell_set w c j b (off + i) _ _ hu, if_neg (by omega)]
  exact ⟨u, rfl, hp⟩

theorem Bank.kept {w w' : World} {b off n B : Nat} {k : IntKind} {p : Int → Prop} (h : Bank w b off n k p) (hb : Below B w w') (hB : b < B) : Bank w' b off n k p := by
  intro i hi
  rw [hb.cell hB]
  exact h i hi

theorem Bank.mono {w : World} {b off n : Nat} {k : IntKind} {p q : Int → Prop} (h : Bank w b off n k p) (hi : ∀ v, p v → q v) : Bank w b off n k q := by
  intro i hh
  obtain ⟨u, hu, hp⟩ := h i hh
  exact ⟨u, hu, hi u hp⟩

theorem Mine.set {w : World} {b : Nat} (h : Mine w b) (p : Addr) (x : Value) : Mine (w.setCell p x) b := ⟨by rw [World.size_setCell]; exact h.1, fun i => by rw [World.frozen?_setCell]; exact h.2 i⟩
theorem Mine.kept {w w' : World} {b B : Nat} (h : Mine w b) (hb : Below B w w') (hB : b < B) : Mine w' b := ⟨Nat.lt_of_lt_of_le h.1 hb.size, fun i => by rw [hb.frozen hB]; exact h.2 i⟩
theorem Mine.new (w : World) (cs : Array Value) (t : TypeId) : Mine (w.alloc (.cells cs t)) w.heap.size := ⟨by simp, fun i => by simp⟩
theorem Mine.alloc {w : World} {b : Nat} (h : Mine w b) (o : Obj) : Mine (w.alloc o) b := ⟨by have := h.1; simp; omega, fun i => by rw [World.frozen?_alloc_old (h := by have := h.1; simp; omega)]; exact h.2 i⟩
theorem Bank.alloc {w : World} {b off n : Nat} {k : IntKind} {p : Int → Prop} (h : Bank w b off n k p) (o : Obj) (hb : b < w.heap.size) : Bank (w.alloc o) b off n k p := h.kept ((Below.refl w.heap.size w).alloc (Nat.le_refl _) o) hb

theorem Bank.new (w : World) (cs : Array Value) (t : TypeId) (off n : Nat) (k : IntKind) (p : Int → Prop) (h : ∀ i, i < n → ∃ v, cs[off + i]? = some (.int k v) ∧ p v) : Bank (w.alloc (.cells cs t)) w.heap.size off n k p := by
  intro i hi
  rw [World.cell?_alloc_new]
  exact h i hi

/-- An allocation whose cells are known. -/
theorem wpList_newc {w : World} {ops : Array Oper} {rest : List Oper} {o : Oper} {a : Act} {Q : Exit → Act → World → Prop} (t : TypeId) (cs : Array Value)
    (hi : ((Oaag.prog.info? t).bind fun i => i.zero.map fun z => z.cells) = some cs) (hg : o.guard = none) (hop : o.op = .alloc t)
    (hK : wpList Oaag.prog ops Q rest (a.put o.dst (.pointer (some ⟨w.heap.size, 0, none⟩))) (w.alloc (.cells cs t))) :
    wpList Oaag.prog ops Q (o :: rest) a w := by
  cases he : Oaag.prog.info? t with
  | none => rw [he] at hi; cases hi
  | some i =>
    rw [he] at hi
    cases hz : i.zero with
    | none => simp [hz] at hi
    | some z =>
      simp [hz] at hi
      subst hi
      refine wpList_plain hg fun K hK' => ?_
      unfold Oper.wp
      have hrun : (Instr.alloc t true (.tuple #[])).run Oaag.prog w = .ok (.pointer (some ⟨w.heap.size, 0, none⟩)) (w.alloc (.cells z.cells t)) := by
        simp [Instr.alloc, zeroValue, typeInfo, he, hz, newVar, newRow]
      simp [execOp, hop, hrun, Result.andThen]
      exact hK' _ _ hK

/-- A contract from its form with a world. -/
theorem Ret.mk {n : Nat} {args : Array Value} {Ψ : Value → Prop} (h : ∀ w, Calls Oaag.prog n args w fun e w' => (∃ v, e = .returned v ∧ Ψ v) ∧ Below w.heap.size w w') : Ret n args Ψ :=
  fun w K hK => (h w).mono fun e w' ⟨⟨v, he, hv⟩, hb⟩ => by subst he; exact hK _ _ hv hb

/-- A slice of bytes as a string. -/
theorem bytes_string (w : World) (src dst e : TypeId) (hs : Oaag.prog.underlying src = some (.slice e)) (he : Oaag.prog.underlying e = some (.int .u8)) (hd : Oaag.prog.underlying dst = some .string)
    (b off len cap : Nat) (p : Int → Prop) (h : Bank w b off len .u8 p) :
    ∃ s : ByteArray, s.size = len ∧ (convert src dst (.slice (some ⟨b, off, none⟩) len cap)).run Oaag.prog w = .ok (.string s) w := by
  have hx : ∃ xs : List Int, xs.length = len ∧ ∀ i, i < len → w.cell? ⟨b, off + i, none⟩ = some (.int .u8 (xs.getD i 0)) := by
    clear hs he hd
    induction len with
    | zero => exact ⟨[], rfl, fun i hi => absurd hi (Nat.not_lt_zero i)⟩
    | succ n ih =>
      obtain ⟨xs, hl, hc⟩ := ih (fun i hi => h i (by omega))
      obtain ⟨v, hv, _⟩ := h n (by omega)
      refine ⟨xs ++ [v], by simp [hl], fun i hi => ?_⟩
      by_cases e : i < n
      · rw [hc i e]
        simp [List.getD, List.getElem?_append_left (show i < xs.length by omega)]
      · have : i = n := by omega
        subst this
        rw [hv]
        simp [List.getD, List.getElem?_append_right (show xs.length ≤ i by omega), hl]
  obtain ⟨xs, hl, hc⟩ := hx
  exact ⟨strOfNums xs, by rw [strOfNums_size, hl], run_convert_bytes_arg w src e hs he b off len cap xs hl hc dst hd⟩

end Go.Proofs.YgcoaaGreat.NatW
