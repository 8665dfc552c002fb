/-
  MEMORY: how a slice of limbs lies in the model's memory, and the laws on make, copy and stores that the walks use.
-/
import Derived.Test.YgcoaaGreatChecked
import Derived.Test.YgcoaaGreatLimbs
import Derived.WalkKit
import Derived.WalkSpells
import Derived.WalkLawsBesides
import Derived.Laws.CopyOwn
namespace Go.Proofs.YgcoaaGreat.NatW
open Go.RowKit
open Go.Proofs.YgcoaaGreat.Limbs

theorem hide {p : Prop} (h : p) : Hid p := h
theorem unhide {p : Prop} (h : Hid p) : p := h

theorem info30 : (Oaag.prog.info? 65).map (fun i => (i.zero, i.size, i.bytes)) = some (some (.int .u32 0), 1, 4) := by kernel_rfl
theorem size30 : (Oaag.prog.info? 65).map (·.size) = some 1 := by kernel_rfl

/-- THE SLICE (a, l.length, cap) READS AS THE LIMBS l. -/
structure Sl (w : World) (a : Option Addr) (cap : Nat) (l : List Nat) : Prop where
  le : l.length ≤ cap
  nil : a = none → cap = 0
  lt : Lt l
  cell : ∀ i, i < l.length → ∃ b off, a = some ⟨b, off, none⟩ ∧ w.cell? ⟨b, off + i, none⟩ = some (.int .u32 (l.getD i 0 : Nat))

theorem Sl.row {w : World} {a : Option Addr} {cap : Nat} {l : List Nat} (h : Sl w a cap l) (hn : 0 < l.length) :
    ∃ b off, a = some ⟨b, off, none⟩ ∧ ∀ i, i < l.length → w.cell? ⟨b, off + i, none⟩ = some (.int .u32 (l.getD i 0 : Nat)) := by
  obtain ⟨b, off, e, _⟩ := h.cell 0 hn
  refine ⟨b, off, e, fun i hi => ?_⟩
  obtain ⟨b', off', e', hc⟩ := h.cell i hi
  rw [e] at e'; cases e'; exact hc

/-- What was readable stays so, while old memory stands. -/
theorem Sl.later {w w' : World} {a : Option Addr} {cap : Nat} {l : List Nat} (h : Sl w a cap l) (hb : Below w.heap.size w w') : Sl w' a cap l :=
  ⟨h.le, h.nil, h.lt, fun i hi => by
    obtain ⟨b, off, e, hc⟩ := h.cell i hi
    exact ⟨b, off, e, (hb.cell (World.block_lt_of_cell? _ _ hc)).trans hc⟩⟩

theorem Sl.take {w : World} {a : Option Addr} {cap : Nat} {l : List Nat} (h : Sl w a cap l) (k : Nat) : Sl w a cap (l.take k) :=
  ⟨by have := h.le; simp; omega, h.nil, Lt_take h.lt k, fun i hi => by
    simp at hi
    obtain ⟨b, off, e, hc⟩ := h.cell i (by omega)
    refine ⟨b, off, e, hc.trans ?_⟩
    have hik : i < k := by omega
    simp [hik]⟩

theorem Sl.empty (w : World) : Sl w none 0 [] := ⟨Nat.le_refl _, fun _ => rfl, Lt_nil, fun i hi => by simp at hi⟩

/-- WHAT trim GIVES OF IT. -/
def Trimmed (a : Option Addr) (cap : Nat) (n : Nat) (a' : Option Addr) (cap' : Nat) : Prop :=
  (n = 0 ∧ a' = none ∧ cap' = 0) ∨ (n ≠ 0 ∧ a' = a ∧ cap' = cap)

theorem Sl.trim {w : World} {a : Option Addr} {cap : Nat} {l : List Nat} (h : Sl w a cap l) {a' : Option Addr} {cap' : Nat} (t : Trimmed a cap (val l) a' cap') : Sl w a' cap' (lim (val l)) := by
  rcases t with ⟨h0, rfl, rfl⟩ | ⟨_, rfl, rfl⟩
  · rw [h0]; exact Sl.empty w
  · rw [lim_prefix l h.lt]; exact h.take _

/-- A ROW OF LIMBS: block g, whole. -/
def Row (w : World) (g : Nat) (l : List Nat) : Prop := w.heap[g]? = some (.cells (l.map (fun x => Value.int .u32 (x : Nat))).toArray 65 (0, 0))

theorem Row.size {w : World} {g : Nat} {l : List Nat} (h : Row w g l) : g < w.heap.size := by
  rcases Nat.lt_or_ge g w.heap.size with h' | h'
  · exact h'
  · unfold Row at h; rw [Array.getElem?_eq_none h'] at h; cases h
theorem Row.cell {w : World} {g : Nat} {l : List Nat} (h : Row w g l) (i : Nat) (hi : i < l.length) : w.cell? ⟨g, i, none⟩ = some (.int .u32 (l.getD i 0 : Nat)) := by
  rw [cell_of_row w g i _ _ _ h]
  simp [hi]
theorem Row.free {w : World} {g : Nat} {l : List Nat} (h : Row w g l) (i : Nat) : w.frozen? ⟨g, i, none⟩ = false := frozen_of_row w g i _ _ h
theorem Row.set {w : World} {g : Nat} {l : List Nat} (h : Row w g l) (i x : Nat) : Row (w.setCell ⟨g, i, none⟩ (.int .u32 (x : Nat))) g (l.set i x) := by
  unfold Row
  rw [heap_setCell_same w g i _ _ _ h]
  simp
theorem Row.kept {B : Nat} {w w' : World} {g : Nat} {l : List Nat} (h : Row w g l) (hb : Below B w w') (hg : g < B) : Row w' g l := (hb.block g hg).trans h
theorem Row.later {w w' : World} {g : Nat} {l : List Nat} (h : Row w g l) (hb : Below w.heap.size w w') : Row w' g l := h.kept hb h.size
theorem Row.other {w : World} {g : Nat} {l : List Nat} (h : Row w g l) {p : Addr} (hp : g ≠ p.block) (u : Value) : Row (w.setCell p u) g l := by
  unfold Row; rw [heap_setCell_other w p g u hp]; exact h
theorem Row.sl {w : World} {g : Nat} {l : List Nat} (h : Row w g l) (hl : Lt l) : Sl w (some ⟨g, 0, none⟩) l.length l :=
  ⟨Nat.le_refl _, fun e => (by cases e), hl, fun i hi => ⟨g, 0, rfl, by rw [Nat.zero_add]; exact h.cell i hi⟩⟩

/-- THE NUMBER n, IN MEMORY OF ITS OWN: nil for zero; else limbs at the head of a block from B on. -/
def Res (B : Nat) (w : World) (a : Option Addr) (cap n : Nat) : Prop :=
  (n = 0 ∧ a = none ∧ cap = 0) ∨ (n ≠ 0 ∧ ∃ g l, a = some ⟨g, 0, none⟩ ∧ B ≤ g ∧ Row w g l ∧ Lt l ∧ l.length = cap ∧ val l = n)

theorem Res.sl {B : Nat} {w : World} {a : Option Addr} {cap n : Nat} (h : Res B w a cap n) : Sl w a cap (lim n) := by
  rcases h with ⟨rfl, rfl, rfl⟩ | ⟨_, g, l, rfl, _, hr, hl, rfl, rfl⟩
  · exact Sl.empty w
  · rw [lim_prefix l hl]; exact (hr.sl hl).take _
theorem Res.later {B : Nat} {w w' : World} {a : Option Addr} {cap n : Nat} (h : Res B w a cap n) (hb : Below w.heap.size w w') : Res B w' a cap n := by
  rcases h with h | ⟨h0, g, l, e, hB, hr, r⟩
  · exact .inl h
  · exact .inr ⟨h0, g, l, e, hB, hr.later hb, r⟩
theorem Res.lower {B B' : Nat} {w : World} {a : Option Addr} {cap n : Nat} (h : Res B w a cap n) (hB : B' ≤ B) : Res B' w a cap n := by
  rcases h with h | ⟨h0, g, l, e, hB', r⟩
  · exact .inl h
  · exact .inr ⟨h0, g, l, e, by omega, r⟩
theorem Res.nil {B : Nat} {w : World} : Res B w none 0 0 := .inl ⟨rfl, rfl, rfl⟩
theorem Res.nil_iff {B : Nat} {w : World} {a : Option Addr} {cap n : Nat} (h : Res B w a cap n) : a = none ↔ n = 0 := by
  rcases h with ⟨rfl, rfl, rfl⟩ | ⟨h0, g, l, rfl, _⟩
  · simp
  · simp [h0]

/-- Behind trim on a row of one's own. -/
theorem Res.of_trim {B : Nat} {w : World} {g : Nat} {l : List Nat} (h : Row w g l) (hl : Lt l) (hB : B ≤ g) {a' : Option Addr} {cap' : Nat} (t : Trimmed (some ⟨g, 0, none⟩) l.length (val l) a' cap') : Res B w a' cap' (val l) := by
  rcases t with h0 | ⟨h0, rfl, rfl⟩
  · exact .inl h0
  · exact .inr ⟨h0, g, l, rfl, hB, h, hl, rfl, rfl⟩

theorem below_after {B : Nat} {w w' w'' : World} (h : Below B w w') (k : Below w'.heap.size w' w'') (hB : B ≤ w'.heap.size) : Below B w w'' := h.trans (k.mono hB)
theorem below_store {B : Nat} {w w' : World} (h : Below B w w') {g i : Nat} (hg : B ≤ g) (u : Value) : Below B w (w'.setCell ⟨g, i, none⟩ u) := h.setCell (p := ⟨g, i, none⟩) hg u

/-- make(Nat, n): a row of zeros. -/
theorem wpList_mk (w : World) {ops : Array Oper} {rest : List Oper} {o : Oper} {a : Act} {Q : Exit → Act → World → Prop}
    (hg : o.guard = none) (x : Operand) (hop : o.op = Op.makeSlice 53 x x) (n : Nat) (C : Int) (hx : a.eval x = .int .i64 C) (hC : C = (n : Int)) (hn : n ≤ 70368744177664)
    (hK : ∀ w', Row w' w.heap.size (List.replicate n 0) → Below w.heap.size w w' → wpList Oaag.prog ops Q rest (a.put o.dst (.slice (some ⟨w.heap.size, 0, none⟩) n n)) w') :
    wpList Oaag.prog ops Q (o :: rest) a w := by
  obtain ⟨i, hi, hz, hs, hbt⟩ := info_parts info30
  refine wpList_make_full w hg x x 53 hop w.heap.size 65 i (.int .u32 0) 1 Oaag.underlying53 hi hz hs .i64 .i64 C C n hx hx hC hC (by rw [hbt]; omega) (by unfold maxLen; omega) (Nat.le_refl _) fun w' h1 h2 => hK w' ?_ ?_
  · rcases h1.2 with ⟨h', _⟩ | ⟨g', cap', cur, h', _, hg', _, _, hcs, htake⟩
    · simp at h'
    · simp only [Value.slice.injEq, Option.some.injEq, Addr.mk.injEq, and_true, true_and] at h'
      obtain ⟨rfl, rfl⟩ := h'
      unfold Row
      rw [hg']
      rw [List.take_of_length_le (by simp [hcs])] at htake
      have e : (Value.int .u32 0).cells = #[Value.int .u32 0] := rfl
      rw [e, toList_madeCells_one, Nat.mul_one] at htake
      have e2 : cur = ((List.replicate n 0).map (fun x : Nat => Value.int .u32 (x : Nat))).toArray := by
        apply Array.ext'
        simp [htake]
      rw [e2]
  · exact (Below.refl _ _).grown h2 (Nat.le_refl _) (fun k hk => by cases hk)

/-- copy(c, a): into a row of zeros of one's own. -/
theorem wpList_cp {w : World} {ops : Array Oper} {rest : List Oper} {o : Oper} {a : Act} {Q : Exit → Act → World → Prop}
    (hg : o.guard = none) (d s : Operand) (dT sT : TypeId) (hop : o.op = .call { callee := .builtin .copy, args := #[d, s], argTypes := #[dT, sT] }) (hu : Oaag.prog.underlying dT = some (.slice 65))
    (g n cn : Nat) (hd : a.eval d = .slice (some ⟨g, 0, none⟩) n cn) (hr : Row w g (List.replicate n 0)) (ad : Option Addr) (cap : Nat) (l : List Nat) (sl : Nat) (hs : a.eval s = .slice ad sl cap) (hsl : sl = l.length) (hl : Sl w ad cap l) (hn : l.length ≤ n)
    (B : Nat) (w0 : World) (hb : Below B w0 w) (hBg : B ≤ g)
    (h : ∀ w', Row w' g (l ++ List.replicate (n - l.length) 0) → Below B w0 w' → wpList Oaag.prog ops Q rest (a.put o.dst (goInt l.length)) w') :
    wpList Oaag.prog ops Q (o :: rest) a w := by
  subst hsl
  have h2 : ∀ w', Hid (w'.heap[g]? = some (.cells (splice ((List.replicate n 0).map (fun x : Nat => Value.int .u32 (x : Nat))) 0 (l.map (fun x : Nat => Value.int .u32 (x : Nat)))).toArray 65 (0, 0))) → Below B w0 w' → wpList Oaag.prog ops Q rest (a.put o.dst (goInt (l.map (fun x : Nat => Value.int .u32 (x : Nat))).length)) w' := by
    intro w' h1 h2
    rw [List.length_map]
    refine h w' ?_ h2
    have := h1.out
    unfold Row
    rw [this]
    have e2 : splice ((List.replicate n 0).map (fun x : Nat => Value.int .u32 (x : Nat))) 0 (l.map (fun x : Nat => Value.int .u32 (x : Nat))) = (l ++ List.replicate (n - l.length) 0).map (fun x : Nat => Value.int .u32 (x : Nat)) := by
      simp [splice]
    rw [e2]
  refine wpList_copy_splice hg d s dT sT hop 65 hu size30 _ _ _ _ _ _ hd hs g 0 _ 65 hr (l.map (fun x : Nat => Value.int .u32 (x : Nat))) ?_ ?_ ?_ ?_ B w0 hb hBg h2
  · rw [List.length_map]; exact (Nat.min_eq_left hn).symm
  · intro hp
    refine ⟨rfl, ?_⟩
    rw [List.length_map] at hp
    obtain ⟨b, off, rfl, hc⟩ := hl.row hp
    refine ⟨_, rfl, fun j v hj => ?_⟩
    have hjl : j < l.length := by
      rcases Nat.lt_or_ge j l.length with h' | h'
      · exact h'
      · rw [List.getElem?_eq_none (by simpa using h')] at hj; cases hj
    have e : v = .int .u32 (l.getD j 0 : Nat) := by
      simp [hjl] at hj; rw [← hj]; simp [hjl]
    rw [e, ← hc j hjl]
    unfold Addr.add
    split
    · rename_i h0; subst h0; rfl
    · rfl
  · simp; omega
  · intro v hv
    obtain ⟨x, _, rfl⟩ := List.mem_map.1 hv
    rfl

/-- 'a == nil' at the two slice types. -/
theorem eqnil24 (w : World) (a : Option Addr) (n c n' c' : Nat) : (binOp .eql 53 (.slice a n c) (.slice none n' c')).run Oaag.prog w = .ok (.bool a.isNone) w := by
  simp only [binOp]
  simp [Op.equal, Op.maxDepth, Lib.run_equalIn_slice_nil w 9999 53 65 a n c n' c' Oaag.underlying53]
theorem eqnil22 (w : World) (a : Option Addr) (n c n' c' : Nat) : (binOp .eql 52 (.slice a n c) (.slice none n' c')).run Oaag.prog w = .ok (.bool a.isNone) w := by
  simp only [binOp]
  simp [Op.equal, Op.maxDepth, Lib.run_equalIn_slice_nil w 9999 52 65 a n c n' c' Oaag.underlying52]
theorem nenil24 (w : World) (a : Option Addr) (n c n' c' : Nat) : (binOp .neq 53 (.slice a n c) (.slice none n' c')).run Oaag.prog w = .ok (.bool (!a.isNone)) w := run_neq_slice_nil_any w _ _ a n c n' c' Oaag.underlying53

theorem Sl.some_of {w : World} {a : Option Addr} {cap : Nat} {l : List Nat} (h : Sl w a cap l) (hn : 0 < l.length) : a.isNone = false := by
  obtain ⟨b, off, rfl, _⟩ := h.row hn; rfl
theorem Trimmed.none_iff {w : World} {a : Option Addr} {cap : Nat} {l : List Nat} (h : Sl w a cap l) {a' : Option Addr} {cap' : Nat} (t : Trimmed a cap (val l) a' cap') : a'.isNone = true ↔ val l = 0 := by
  rcases t with ⟨h0, rfl, rfl⟩ | ⟨h0, rfl, rfl⟩
  · simp [h0]
  · have : 0 < l.length := by
      rcases Nat.eq_zero_or_pos l.length with e | e
      · rw [List.eq_nil_of_length_eq_zero e] at h0; exact absurd rfl h0
      · exact e
    simp [h.some_of this, h0]

end Go.Proofs.YgcoaaGreat.NatW
