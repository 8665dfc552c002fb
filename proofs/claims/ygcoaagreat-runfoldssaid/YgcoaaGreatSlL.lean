/-
  Package slow: two numbers side by side.
-/
import Derived.Test.YgcoaaGreatSlK
import Derived.Test.YgcoaaGreatSlG
import Derived.Test.YgcoaaGreatSlH
set_option linter.unusedVariables false
set_option linter.unusedSimpArgs false
namespace Go.Proofs.YgcoaaGreat.NatW
open Go.RowKit

theorem cell_same {w w' : World} {b : Nat} (h : w'.heap[b]? = w.heap[b]?) (i : Nat) : w'.cell? ⟨b, i, none⟩ = w.cell? ⟨b, i, none⟩ := by
  simp [World.cell?, h]
theorem frozen_same {w w' : World} {b : Nat} (h : w'.heap[b]? = w.heap[b]?) (i : Nat) : w'.frozen? ⟨b, i, none⟩ = w.frozen? ⟨b, i, none⟩ := by
  simp [World.frozen?, h]
/-- A number beside a block that is changed. -/
theorem BigX.keep {b n g : Nat} {c : Nat → Nat} {w w' : World} (h : BigX b n c w) (hk : Keep g w w') (hne : b ≠ g) : BigX b n c w' := by
  have hb := hk.block b h.mine.1 hne
  exact ⟨⟨Nat.lt_of_lt_of_le h.mine.1 hk.size, fun i => (frozen_same hb i).trans (h.mine.2 i)⟩, (cell_same hb 0).trans h.cn, fun i hi => (cell_same hb _).trans (h.cw i hi), h.u, h.n52⟩
/-- All memory of old but two blocks is as it was. -/
structure Keep2 (a b : Nat) (w W : World) : Prop where
  size : w.heap.size ≤ W.heap.size
  block : ∀ g, g < w.heap.size → g ≠ a → g ≠ b → W.heap[g]? = w.heap[g]?
theorem Keep2.refl (a b : Nat) (w : World) : Keep2 a b w w := ⟨Nat.le_refl _, fun _ _ _ _ => rfl⟩
theorem Keep2.later {a b : Nat} {w W W' : World} (h : Keep2 a b w W) (hb : Below W.heap.size W W') : Keep2 a b w W' :=
  ⟨Nat.le_trans h.size hb.size, fun g hg h1 h2 => (hb.block g (Nat.lt_of_lt_of_le hg h.size)).trans (h.block g hg h1 h2)⟩
theorem Keep2.left {a b : Nat} {w W W' : World} (h : Keep2 a b w W) (hk : Keep a W W') : Keep2 a b w W' :=
  ⟨Nat.le_trans h.size hk.size, fun g hg h1 h2 => (hk.block g (Nat.lt_of_lt_of_le hg h.size) h1).trans (h.block g hg h1 h2)⟩
theorem Keep2.right {a b : Nat} {w W W' : World} (h : Keep2 a b w W) (hk : Keep b W W') : Keep2 a b w W' :=
  ⟨Nat.le_trans h.size hk.size, fun g hg h1 h2 => (hk.block g (Nat.lt_of_lt_of_le hg h.size) h2).trans (h.block g hg h1 h2)⟩

/-- The two numbers of a division; bit p is the top one of the second. -/
structure QS (w : World) (bx nx : Nat) (cx : Nat → Nat) (bY ny : Nat) (cy : Nat → Nat) (p : Nat) (W : World) : Prop where
  x : BigX bx nx cx W
  y : BigX bY ny cy W
  top : Top ny cy p
  tape : W.tape = fun _ _ => 0
  keep : Keep2 bx bY w W
theorem QS.later {w : World} {bx nx bY ny p : Nat} {cx cy : Nat → Nat} {W W' : World} (h : QS w bx nx cx bY ny cy p W) (hb : Below W.heap.size W W') : QS w bx nx cx bY ny cy p W' :=
  ⟨h.x.later hb, h.y.later hb, h.top, hb.tape.trans h.tape, h.keep.later hb⟩
theorem QS.shlx {w : World} {bx nx bY ny p n1 mv s : Nat} {cx cy : Nat → Nat} {W W' : World} (h : QS w bx nx cx bY ny cy p W) (hxy : bx ≠ bY) (hs : ShP bx n1 mv s cx W W') : ∃ nx' cx', QS w bx nx' cx' bY ny cy p W' := by
  obtain ⟨n', c, hX, _, _, _, _, _, hT, hK⟩ := hs
  exact ⟨n', c, hX, h.y.keep hK (Ne.symm hxy), h.top, hT, h.keep.left hK⟩
theorem QS.shly {w : World} {bx nx bY ny p mv s : Nat} {cx cy : Nat → Nat} {W W' : World} (h : QS w bx nx cx bY ny cy p W) (hxy : bx ≠ bY) (hs : s < 64) (hp : p + (64 * mv + s) < 3328) (hP : ShP bY (min (ny + mv + 1) 52) mv s cy W W') : ∃ ny' cy', QS w bx nx cx bY ny' cy' (p + (64 * mv + s)) W' := by
  obtain ⟨n', c, hY, hT, ht, hK⟩ := top_shl h.y.u hs h.top hp hP
  exact ⟨n', c, h.x.keep hK hxy, hY, hT, ht, h.keep.right hK⟩
end Go.Proofs.YgcoaaGreat.NatW
