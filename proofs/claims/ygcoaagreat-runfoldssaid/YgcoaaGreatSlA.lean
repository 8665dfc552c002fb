/-
  Package slow: a natural number in limbs; add exactly.
-/
import Derived.Test.YgcoaaGreatWxA
set_option linter.unusedVariables false
set_option linter.unusedSimpArgs false
set_option maxRecDepth 20000
namespace Go.Proofs.YgcoaaGreat.NatW
open Go.RowKit
open Go.Proofs.YgcoaaGreat.Det
attribute [local go_sem] Go.Instr.field Go.asAgg

/-- Block b is a number: n limbs in use, the limbs c. -/
structure BigX (b n : Nat) (c : Nat → Nat) (W : World) : Prop where
  mine : Mine W b
  cn : W.cell? ⟨b, 0, none⟩ = some (.int .i64 n)
  cw : ∀ i, i < 52 → W.cell? ⟨b, 1 + i, none⟩ = some (.int .u64 (c i))
  u : ∀ i, c i < 18446744073709551616
  n52 : n ≤ 52
def ins (c : Nat → Nat) (k v : Nat) : Nat → Nat := fun i => if i = k then v else c i
theorem BigX.later {b n : Nat} {c : Nat → Nat} {W W' : World} (h : BigX b n c W) (hb : Below W.heap.size W W') : BigX b n c W' :=
  ⟨h.mine.kept hb h.mine.1, (hb.cell (p := ⟨b, 0, none⟩) h.mine.1).trans h.cn, fun i hi => (hb.cell (p := ⟨b, 1 + i, none⟩) h.mine.1).trans (h.cw i hi), h.u, h.n52⟩
theorem BigX.drew {b n : Nat} {c : Nat → Nat} {W : World} (h : BigX b n c W) : BigX b n c W.drew := h.later ⟨rfl, rfl, rfl, Nat.le_refl _, fun _ _ => rfl⟩
theorem BigX.other {b n : Nat} {c : Nat → Nat} {W : World} (h : BigX b n c W) {g j : Nat} (v : Value) (hg : g ≠ b) : BigX b n c (W.setCell ⟨g, j, none⟩ v) :=
  ⟨h.mine.set _ _, by rw [cell_set _ _ _ _ _ _ _ h.cn, if_neg (by omega)], fun i hi => by rw [cell_set _ _ _ _ _ _ _ (h.cw i hi), if_neg (by omega)], h.u, h.n52⟩
theorem BigX.set {b n : Nat} {c : Nat → Nat} {W : World} (h : BigX b n c W) (k v : Nat) (hv : v < 18446744073709551616) : BigX b n (ins c k v) (W.setCell ⟨b, 1 + k, none⟩ (.int .u64 v)) :=
  ⟨h.mine.set _ _, by rw [cell_set _ _ _ _ _ _ _ h.cn, if_neg (by omega)], fun i hi => by
    rw [cell_set _ _ _ _ _ _ _ (h.cw i hi)]
    unfold ins
    by_cases e : i = k
    · subst e; simp
    · rw [if_neg (by omega), if_neg e], fun i => by
    unfold ins
    split
    · exact hv
    · exact h.u i, h.n52⟩
theorem BigX.setn {b n : Nat} {c : Nat → Nat} {W : World} (h : BigX b n c W) (m : Nat) (hm : m ≤ 52) : BigX b m c (W.setCell ⟨b, 0, none⟩ (.int .i64 m)) :=
  ⟨h.mine.set _ _, by rw [cell_set _ _ _ _ _ _ _ h.cn, if_pos ⟨rfl, rfl⟩], fun i hi => by rw [cell_set _ _ _ _ _ _ _ (h.cw i hi), if_neg (by omega)], h.u, hm⟩

/-- All memory of old but block b is as it was. -/
structure Keep (b : Nat) (w W : World) : Prop where
  size : w.heap.size ≤ W.heap.size
  block : ∀ g, g < w.heap.size → g ≠ b → W.heap[g]? = w.heap[g]?
theorem Keep.refl (b : Nat) (w : World) : Keep b w w := ⟨Nat.le_refl _, fun _ _ _ => rfl⟩
theorem Keep.later {b : Nat} {w W W' : World} (h : Keep b w W) (hb : Below W.heap.size W W') : Keep b w W' :=
  ⟨Nat.le_trans h.size hb.size, fun g hg hn => (hb.block g (Nat.lt_of_lt_of_le hg h.size)).trans (h.block g hg hn)⟩
theorem Keep.drew {b : Nat} {w W : World} (h : Keep b w W) : Keep b w W.drew := ⟨h.size, h.block⟩
theorem Keep.set {b : Nat} {w W : World} (h : Keep b w W) {g j : Nat} (v : Value) (hg : g = b ∨ w.heap.size ≤ g) : Keep b w (W.setCell ⟨g, j, none⟩ v) :=
  ⟨by rw [World.size_setCell]; exact h.size, fun k hk hn => by rw [heap_set, if_neg (by omega)]; exact h.block k hk hn⟩
theorem Keep.trans {b : Nat} {w W W' : World} (h : Keep b w W) (h' : Keep b W W') : Keep b w W' :=
  ⟨Nat.le_trans h.size h'.size, fun g hg hn => (h'.block g (Nat.lt_of_lt_of_le hg h.size) hn).trans (h.block g hg hn)⟩

/-- The number that the first k limbs make. -/
def nval (c : Nat → Nat) : Nat → Nat
  | 0 => 0
  | k + 1 => nval c k + c k * 18446744073709551616 ^ k
theorem nval_ins (c : Nat → Nat) (k v : Nat) : ∀ i, i ≤ k → nval (ins c k v) i = nval c i
  | 0, _ => rfl
  | i + 1, h => by
    unfold nval
    rw [nval_ins c k v i (by omega)]
    have : ins c k v i = c i := by unfold ins; rw [if_neg (by omega)]
    rw [this]
theorem nval_lt (c : Nat → Nat) (h : ∀ i, c i < 18446744073709551616) : ∀ k, nval c k < 18446744073709551616 ^ k
  | 0 => by unfold nval; simp
  | k + 1 => by
    unfold nval
    have h1 := nval_lt c h k
    have h2 := h k
    have h3 : c k * 18446744073709551616 ^ k ≤ 18446744073709551615 * 18446744073709551616 ^ k := Nat.mul_le_mul_right _ (by omega)
    rw [Nat.pow_succ]
    omega
def b2n (b : Bool) : Nat := if b then 1 else 0

/-- What stands in add's loop. -/
def AdR (bx nx bY ny : Nat) (cx cy : Nat → Nat) (w : World) (t5 t6 : Value) (wr : World) : Prop :=
  ∃ (i : Nat) (cr : Bool) (c : Nat → Nat), i ≤ 52 ∧ t6 = .int .i64 i ∧ t5 = .bool cr ∧ (∀ j, i ≤ j → c j = cx j) ∧ nval c i + b2n cr * 18446744073709551616 ^ i = nval cx i + nval cy i ∧
    BigX bx nx c wr ∧ BigX bY ny cy wr ∧ wr.tape = (fun _ _ => 0) ∧ Keep bx w wr

theorem ad_step (c cx cy : Nat → Nat) (i : Nat) (cr : Bool) (h l : Nat) (hc : ∀ j, i ≤ j → c j = cx j) (he : nval c i + b2n cr * 18446744073709551616 ^ i = nval cx i + nval cy i) (hs : h * 18446744073709551616 + l = cx i + cy i + b2n cr) (hl : l < 18446744073709551616) (h1 : h ≤ 1) :
    nval (ins c i l) (i + 1) + b2n (decide (h ≠ 0)) * 18446744073709551616 ^ (i + 1) = nval cx (i + 1) + nval cy (i + 1) := by
  have e1 : nval (ins c i l) (i + 1) = nval c i + l * 18446744073709551616 ^ i := by
    show nval (ins c i l) i + ins c i l i * _ = _
    rw [nval_ins c i l i (Nat.le_refl _)]
    have : ins c i l i = l := by unfold ins; rw [if_pos rfl]
    rw [this]
  have e2 : b2n (decide (h ≠ 0)) = h := by
    unfold b2n
    by_cases h0 : h = 0
    · simp [h0]
    · simp [h0]; omega
  rw [e1, e2, Nat.pow_succ]
  show _ = nval cx i + cx i * _ + (nval cy i + cy i * _)
  generalize 18446744073709551616 ^ i = Z at *
  have e3 : (h * 18446744073709551616 + l) * Z = (cx i + cy i + b2n cr) * Z := by rw [hs]
  rw [Nat.add_mul, Nat.add_mul, Nat.add_mul, Nat.mul_assoc, Nat.mul_comm 18446744073709551616 Z, ] at e3
  omega
end Go.Proofs.YgcoaaGreat.NatW
