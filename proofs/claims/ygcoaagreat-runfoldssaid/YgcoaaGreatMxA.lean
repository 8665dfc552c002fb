/-
  The machine, exactly.
-/
import Derived.Test.YgcoaaGreatStA
import Derived.Test.YgcoaaGreatLaxO
import Derived.Test.YgcoaaGreatAppY
import Derived.Test.YgcoaaGreatDmB
set_option linter.unusedVariables false
set_option linter.unusedSimpArgs false
set_option maxRecDepth 20000
namespace Go.Proofs.YgcoaaGreat.NatW
open Go.RowKit
open Go.Proofs.YgcoaaGreat.Det
open Go.Proofs.YgcoaaGreat.Limbs Go.Proofs.YgcoaaGreat.Bits
attribute [local go_sem] Go.Instr.field Go.asAgg

/-- The slice v owns the texts L. -/
def OwnL (w : World) (base : Nat) (v : Value) (L : List Value) : Prop := w.ownsRow base 9 1 v L.length L
theorem OwnL.nil (w : World) (base : Nat) : OwnL w base (.slice none 0 0) [] := World.ownsRow_nil w base 9 1
theorem OwnL.kept {w w' : World} {base : Nat} {v : Value} {L : List Value} (h : OwnL w base v L) (hb : Below w.heap.size w w') : OwnL w' base v L := by
  obtain ⟨h1, h2⟩ := h
  refine ⟨h1, ?_⟩
  rcases h2 with h2 | ⟨g, cap, cur, e1, e2, e3, e4⟩
  · exact .inl h2
  · exact .inr ⟨g, cap, cur, e1, e2, by rw [hb.block g (Array.getElem?_eq_some_iff.1 e3).1]; exact e3, e4⟩
theorem OwnL.other {w : World} {base : Nat} {v : Value} {L : List Value} (h : OwnL w base v L) {b i : Nat} (x : Value) (hb : b < base) : OwnL (w.setCell ⟨b, i, none⟩ x) base v L := by
  obtain ⟨h1, h2⟩ := h
  refine ⟨h1, ?_⟩
  rcases h2 with h2 | ⟨g, cap, cur, e1, e2, e3, e4⟩
  · exact .inl h2
  · exact .inr ⟨g, cap, cur, e1, e2, by rw [Below.heap_setCell _ _ _ _ (by simp; omega)]; exact e3, e4⟩
theorem OwnL.slice {w : World} {base : Nat} {v : Value} {L : List Value} (h : OwnL w base v L) : ∃ a b c, v = .slice a b c := by
  obtain ⟨_, h2⟩ := h
  rcases h2 with ⟨h, _⟩ | ⟨g, cap, cur, h, _⟩
  · exact ⟨_, _, _, h⟩
  · exact ⟨_, _, _, h⟩
theorem OwnL.block {w : World} {base : Nat} {v : Value} {L : List Value} (h : OwnL w base v L) (k : Nat) (hk : v.ownBlock = some k) : k < w.heap.size ∧ base ≤ k := by
  have := World.ownsRow.lt h k hk
  exact ⟨this.2, this.1⟩

/-- append of one text: the old slice still owns what it held. -/
theorem append_keepX (w : World) (t ty e : TypeId) (z : Value) (bytes : Nat)
    (hinfo : (Oaag.prog.info? e).map (fun i => (i.zero, i.size, i.bytes)) = some (some z, 1, bytes)) (hzc : z.cells.size = 1) (ht : Oaag.prog.underlying t = some (.slice e)) (hby : bytes ≤ 64)
    {base n : Nat} {v u : Value} {xs : List Value} (h1 : w.ownsRow base e 1 v n xs) (b : Nat) (hb : w.cell? ⟨b, 0, none⟩ = some u) (hu1 : u.oneCell' = true)
    (hn : n ≤ 1000000000) (hbase : base ≤ w.heap.size) :
    ∃ v' w', (Builtin.append_ #[t, t] ty #[v, .slice (some ⟨b, 0, none⟩) 1 1]).run Oaag.prog w = .ok v' w' ∧ w'.ownsRow base e 1 v' (n + 1) (xs ++ [u]) ∧ w'.ownsRow base e 1 v n xs ∧ w.grownBy w' v.ownBlock := by
  obtain ⟨i0, hi, hz0, hz1, hz2⟩ := info_parts hinfo
  have hnews : ∀ j y, [u][j]? = some y → w.cell? ((⟨b, 0, none⟩ : Addr).add j) = some y := by
    intro j y hj
    match j, hj with
    | 0, hj => simp at hj; subst hj; simpa [Addr.add] using hb
    | k + 1, hj => simp at hj
  have h1c : ∀ y ∈ [u], y.oneCell' = true := by intro y hy; simp at hy; subst hy; exact hu1
  have hbb : (n + 1) * bytes ≤ 140737488355328 := by
    calc (n + 1) * bytes ≤ 1000000001 * 64 := Nat.mul_le_mul (by omega) hby
      _ ≤ 140737488355328 := by decide
  obtain ⟨v', w', hr, h3, h4, _⟩ := run_append_own (P := Oaag.prog) w base t ty e i0 z 1 bytes ht hi hz0 hz1 hz2 hzc (by decide) v n xs h1 ⟨b, 0, none⟩ 1 1 [u] rfl hnews h1c (by unfold maxLen; omega) hbb hbase
  refine ⟨v', w', hr, h3, ⟨h1.1, ?_⟩, h4⟩
  rcases h1.2 with hnil | ⟨g, cap, cur, rfl, hbg, hg, hnc, hcm, hcs, htake⟩
  · exact .inl hnil
  · by_cases hroom : n + 1 ≤ cap
    · have hr2 := run_append_room (P := Oaag.prog) w t ty e i0 ht hi g n cap cur hg ⟨b, 0, none⟩ 1 1 [u] (by rw [hz1]; rfl) hnews h1c hroom (by rw [hz1, hcs]; simp; omega)
      rw [hr] at hr2
      injection hr2 with e1 e2
      subst e2
      refine .inr ⟨g, cap, _, rfl, hbg, setRow_heap w g cur _ e _ hg, hnc, hcm, ?_, ?_⟩
      · simp only [List.size_toArray, List.length_append, List.length_take, List.length_drop, Array.length_toList, hz1, Nat.mul_one, List.length_singleton]
        omega
      · rw [← htake]
        simp only [hz1, Nat.mul_one]
        rw [List.append_assoc, List.take_append_of_le_length (by simp; omega), List.take_take, Nat.min_self]
    · have holds : ∀ j y, xs[j]? = some y → w.cell? ((⟨g, 0, none⟩ : Addr).add j) = some y := h1.cells (g := g) rfl
      have hr2 := run_append_grow (P := Oaag.prog) w t ty e i0 z ht hi hz0 ⟨g, 0, none⟩ n cap xs (by rw [hz1]; exact h1.1) holds ⟨b, 0, none⟩ 1 1 [u] (by rw [hz1]; rfl) hnews (by omega) (by omega) (growslice_fits (by omega) (by rw [hz2]; exact hbb))
      rw [hr] at hr2
      injection hr2 with e1 e2
      subst e2
      refine .inr ⟨g, cap, cur, rfl, hbg, ?_, hnc, hcm, hcs, htake⟩
      have hgl : g < w.heap.size := (Array.getElem?_eq_some_iff.1 hg).1
      exact (Below.heap_alloc w.drew _ g hgl).trans hg

/-- Block mb is a machine: these registers, these texts put out. -/
structure MX (mb : Nat) (R : Nat → Int) (L : List Value) (w : World) : Prop where
  own : Mine w mb
  reg : ∀ i, i < 8 → w.cell? ⟨mb, i, none⟩ = some (.int .u64 (R i))
  out : ∃ v, w.cell? ⟨mb, 8, none⟩ = some v ∧ OwnL w (mb + 1) v L
def up (R : Nat → Int) (i : Nat) (r : Int) : Nat → Int := fun j => if j = i then r else R j
theorem MX.later {mb : Nat} {R : Nat → Int} {L : List Value} {w w' : World} (h : MX mb R L w) (hb : Below w.heap.size w w') : MX mb R L w' :=
  ⟨h.own.kept hb h.own.1, fun i hi => (hb.cell (p := ⟨mb, i, none⟩) h.own.1).trans (h.reg i hi), by
    obtain ⟨v, h1, h2⟩ := h.out
    exact ⟨v, (hb.cell (p := ⟨mb, 8, none⟩) h.own.1).trans h1, h2.kept hb⟩⟩
theorem MX.set {mb : Nat} {R : Nat → Int} {L : List Value} {w : World} (h : MX mb R L w) (i : Nat) (hi : i < 8) (r : Int) : MX mb (up R i r) L (w.setCell ⟨mb, i, none⟩ (.int .u64 r)) :=
  ⟨h.own.set _ _, fun j hj => by
    rw [cell_set _ _ _ _ _ _ _ (h.reg j hj)]
    unfold up
    by_cases e : j = i
    · subst e; simp
    · rw [if_neg (by simp; exact fun h => e h.symm), if_neg e], by
    obtain ⟨v, h1, h2⟩ := h.out
    exact ⟨v, by rw [cell_set _ _ _ _ _ _ _ h1, if_neg (by simp; omega)], h2.other _ (by omega)⟩⟩

/-- Behind append and the store of its answer. -/
theorem MX.app {mb : Nat} {R : Nat → Int} {L L' : List Value} {w w' : World} (h : MX mb R L w) (hb : Below (mb + 1) w w') {v : Value} (ho : OwnL w' (mb + 1) v L') : MX mb R L' (w'.setCell ⟨mb, 8, none⟩ v) := by
  have hm : Mine w' mb := h.own.kept hb (by omega)
  obtain ⟨u, hu, _⟩ := h.out
  have hu' : w'.cell? ⟨mb, 8, none⟩ = some u := (hb.cell (p := ⟨mb, 8, none⟩) (by simp)).trans hu
  refine ⟨hm.set _ _, fun j hj => ?_, v, by rw [cell_set _ _ _ _ _ _ _ hu', if_pos ⟨rfl, rfl⟩], ho.other _ (by omega)⟩
  have h1' : w'.cell? ⟨mb, j, none⟩ = some (.int .u64 (R j)) := (hb.cell (p := ⟨mb, j, none⟩) (by simp)).trans (h.reg j hj)
  rw [cell_set _ _ _ _ _ _ _ h1', if_neg (by omega)]

def OxI (W : World) (S0 S1 mb : Nat) (L : List Value) (vo : Value) (w : World) : Prop := OwnL w (mb + 1) vo L ∧ S1 ≤ w.heap.size ∧ ∀ k, S0 ≤ k → k < S1 → w.heap[k]? = W.heap[k]?
def OxB (S0 : Nat) (s : ByteArray) (v : Value) (w : World) : Prop := ∃ b, v = .slice (some ⟨b, 0, none⟩) 1 1 ∧ S0 ≤ b ∧ w.cell? ⟨b, 0, none⟩ = some (.string s)
def OxA (mb : Nat) (L : List Value) (s : ByteArray) (v : Value) (w : World) : Prop := OwnL w (mb + 1) v (L ++ [.string s])
theorem OxI.later {W : World} {S0 S1 mb : Nat} {L : List Value} {vo : Value} (w w' : World) (h : OxI W S0 S1 mb L vo w) (hb : Below w.heap.size w w') : OxI W S0 S1 mb L vo w' :=
  ⟨h.1.kept hb, Nat.le_trans h.2.1 hb.size, fun k h0 h1 => (hb.block k (Nat.lt_of_lt_of_le h1 h.2.1)).trans (h.2.2 k h0 h1)⟩
theorem OxB.later {S0 : Nat} {s : ByteArray} (v : Value) (w w' : World) (h : OxB S0 s v w) (hb : Below w.heap.size w w') : OxB S0 s v w' := by
  obtain ⟨b, h1, h2, h3⟩ := h
  exact ⟨b, h1, h2, (hb.cell (p := ⟨b, 0, none⟩) (World.block_lt_of_cell? _ _ h3)).trans h3⟩
theorem OxA.later {mb : Nat} {L : List Value} {s : ByteArray} (v : Value) (w w' : World) (h : OxA mb L s v w) (hb : Below w.heap.size w w') : OxA mb L s v w' := OwnL.kept h hb
theorem OxI.cell {W : World} {S0 S1 mb : Nat} {L : List Value} {vo : Value} {w : World} (h : OxI W S0 S1 mb L vo w) {k i : Nat} (h0 : S0 ≤ k) (h1 : k < S1) : w.cell? ⟨k, i, none⟩ = W.cell? ⟨k, i, none⟩ := World.cell?_of_block (a := ⟨k, i, none⟩) (h.2.2 k h0 h1)
theorem ox_app {W : World} {S0 S1 mb : Nat} {L : List Value} {s : ByteArray} {vo : Value} (hg0 : ∀ k, vo.ownBlock = some k → k < S0 ∧ mb + 1 ≤ k) (hn : L.length ≤ 1000) (hS : mb + 1 ≤ S1) (ty : TypeId) {w : World} (h : OxI W S0 S1 mb L vo w) {vb : Value} (hb : OxB S0 s vb w) :
    ∃ v' w', (Builtin.append_ #[87, 87] ty #[vo, vb]).run Oaag.prog w = .ok v' w' ∧ OxA mb L s v' w' ∧ OxI W S0 S1 mb L vo w' ∧ (∀ u, OxB S0 s u w → OxB S0 s u w') ∧ Below (mb + 1) w w' := by
  obtain ⟨b, rfl, hS0, hc⟩ := hb
  obtain ⟨v', w', h1, h2, h3, h4⟩ := append_keepX w 87 ty 9 (.string ⟨#[]⟩) 16 info9 rfl NatW.u87 (by decide) h.1 b hc rfl (by omega) (Nat.le_trans hS h.2.1)
  refine ⟨v', w', h1, ?_, ⟨h3, ?_, ?_⟩, ?_, ?_⟩
  · unfold OxA OwnL
    rw [List.length_append]
    exact h2
  · exact Nat.le_trans h.2.1 h4.size
  · intro k h5 h6
    refine (h4.block k (Nat.lt_of_lt_of_le h6 h.2.1) fun e => ?_).trans (h.2.2 k h5 h6)
    have := (hg0 k e.symm).1
    omega
  · rintro u ⟨c, rfl, e1, e2⟩
    have hlt := World.block_lt_of_cell? _ _ e2
    refine ⟨c, rfl, e1, ?_⟩
    rw [← e2]
    refine World.cell?_of_block (a := ⟨c, 0, none⟩) (h4.block c hlt fun e => ?_)
    have := (hg0 c e.symm).1
    omega
  · exact (Below.refl _ _).grown h4 (Nat.le_trans hS h.2.1) (fun k hk => (hg0 k hk).2)

/-- This value in every memory with the table at tb. -/
def DFT (tb : Nat) (g : FuncId) (args : Array Value) (v : Value) : Prop := ∀ (w : World) (K : Ending → World → Prop), On tb w → (∀ w', Below w.heap.size w w' → K (.returned v) w') → Calls Oaag.prog g args w K
theorem DFT.run {tb : Nat} {g : FuncId} {args : Array Value} {v : Value} (h : DFT tb g args v) {wb : World} (hon : ∀ x : Later wb, On tb x.at_) (x : Later wb) {K : Ending → World → Prop} (hK : ∀ y : Later wb, K (.returned v) y.at_) : Calls Oaag.prog g args x.at_ K :=
  h x.at_ K (hon x) fun w' hb => hK ⟨w', x.ok.trans (hb.mono x.ok.size)⟩

/-- One step of function g takes the machine from R, L to R', L'. -/
def SX (g : FuncId) (E M : Nat) (md kd kD kA kB imm : Int) (text : ByteArray) (R : Nat → Int) (L : List Value) (R' : Nat → Int) (L' : List Value) : Prop :=
  ∀ (tb mb : Nat) (w : World) (K : Ending → World → Prop), tb < mb → On tb w → MX mb R L w → (∀ w', MX mb R' L' w' → Below mb w w' → K (.returned (.tuple #[])) w') →
    Calls Oaag.prog g #[.pointer (some ⟨tb, 0, none⟩), fmt E M, .int .u8 md, .pointer (some ⟨mb, 0, none⟩), .agg #[.int .u8 kd, .int .u8 kD, .int .u8 kA, .int .u8 kB, .int .u64 imm, .string text] ] w K
end Go.Proofs.YgcoaaGreat.NatW
