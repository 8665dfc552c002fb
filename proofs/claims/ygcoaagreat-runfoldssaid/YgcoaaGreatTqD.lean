/-
  The top: the trace of a script.
-/
import Derived.Test.YgcoaaGreatTqC
import Derived.Test.YgcoaaGreatTpA
import Derived.Test.YgcoaaGreatAlS
import Derived.Test.YgcoaaGreatNaJ
import Derived.Test.YgcoaaGreatTqA
set_option linter.unusedVariables false
set_option linter.unusedSimpArgs false
set_option maxRecDepth 20000
namespace Go.Proofs.YgcoaaGreat.NatW
open Go.RowKit
open Go.Proofs.YgcoaaGreat.Det
open Go.Proofs.YgcoaaGreat.Limbs Go.Proofs.YgcoaaGreat.Bits
attribute [local go_sem] Go.Instr.field Go.asAgg

structure OpT where
  kd : Int
  kD : Int
  kA : Int
  kB : Int
  imm : Int
  text : ByteArray
structure OpT.Ok (o : OpT) : Prop where
  k : 0 ≤ o.kd
  ok : OpOk o.kD o.kA o.kB o.imm
def OpT.cs (o : OpT) : Array Value := #[.int .u8 o.kd, .int .u8 o.kD, .int .u8 o.kA, .int .u8 o.kB, .int .u64 o.imm, .string o.text]
structure St where
  R : Nat → Int
  L : List Value
structure StOk (n : Nat) (s : St) : Prop where
  u : ∀ i, i < 8 → U64 (s.R i)
  str : ∀ x ∈ s.L, ∃ t, x = .string t
  n : s.L.length ≤ n
def St.zero : St := ⟨fun _ => 0, []⟩
theorem St.zero_ok (n : Nat) : StOk n .zero := ⟨fun _ _ => ⟨by simp [St.zero], by simp [St.zero]⟩, by simp [St.zero], by simp [St.zero]⟩
def Goto (g : FuncId) (eng : Int) (E M : Nat) (md : Int) (o : OpT) (s t : St) : Prop := SXc g eng E M md o.kd o.kD o.kA o.kB o.imm o.text s.R s.L t.R t.L

theorem grow {n : Nat} {s t : St} (h : StOk n s) (hu : ∀ i, i < 8 → U64 (t.R i)) (hg : Gr s.L t.L) : StOk (n + 1) t := by
  have hn := h.n
  rcases hg with hg | ⟨x, hg⟩
  · exact ⟨hu, by rw [hg]; exact h.str, by rw [hg]; omega⟩
  · refine ⟨hu, ?_, by rw [hg]; simp; omega⟩
    rw [hg]
    intro y hy
    rcases List.mem_append.1 hy with hy | hy
    · exact h.str y hy
    · exact ⟨x, List.mem_singleton.1 hy⟩

theorem one_step (eng : Int) (E M : Nat) (md : Int) (h0 : 0 ≤ eng) (hm0 : 0 ≤ md) (hm1 : md ≤ 255) (ha : alwB eng E M md = true) (o : OpT) (ok : o.Ok) (n : Nat) (hn : n ≤ 1000) (s : St) (h : StOk n s) :
    ∃ t, StOk (n + 1) t ∧ Goto 86 eng E M md o s t ∧ Goto 43 eng E M md o s t := by
  have hA : ∀ tb, DFT tb 159 #[.pointer (some ⟨tb, 0, none⟩), .int .u8 eng, fmt E M, .int .u8 md] (.bool true) := fun tb => by
    have := al_dft eng E M md h0 tb
    rwa [ha] at this
  have hL : s.L.length ≤ 1000 := Nat.le_trans h.n hn
  unfold alwB at ha
  split at ha
  · rcases (by omega : eng = 0 ∨ eng = 1) with he | he
    · obtain ⟨R', L', hu, hg, hs⟩ := ex_all E M ha md o.kd o.kD o.kA o.kB o.imm hm0 hm1 ok.k ok.ok o.text s.R h.u s.L hL
      exact ⟨⟨R', L'⟩, grow h hu hg, cs_86_0 eng E M md _ _ _ _ _ _ _ _ _ _ he hA hs, cs_43_0 eng E M md _ _ _ _ _ _ _ _ _ _ he hs⟩
    · obtain ⟨R', L', hu, hg, hs⟩ := so_all E M ha md o.kd o.kD o.kA o.kB o.imm hm0 hm1 ok.k ok.ok o.text s.R h.u s.L hL
      exact ⟨⟨R', L'⟩, grow h hu hg, cs_86_1 eng E M md _ _ _ _ _ _ _ _ _ _ he hA hs, cs_43_1 eng E M md _ _ _ _ _ _ _ _ _ _ he hs⟩
  · split at ha
    · rename_i he
      split at ha
      · rename_i hf
        obtain ⟨q, hq⟩ : ∃ q, NaF E M q := by
          rcases hf with ⟨h1, h2⟩ | ⟨h1, h2⟩
          · exact ⟨true, .inl ⟨h1, h2, rfl⟩⟩
          · exact ⟨false, .inr ⟨h1, h2, rfl⟩⟩
        obtain ⟨R', L', hu, hg, hs⟩ := na_all E M q hq md o.kd o.kD o.kA o.kB o.imm ok.k hm0 (of_decide_eq_true ha) ok.ok o.text s.R h.u s.L hL
        exact ⟨⟨R', L'⟩, grow h hu hg, cs_86_2 eng E M md _ _ _ _ _ _ _ _ _ _ he hA hs, cs_43_2 eng E M md _ _ _ _ _ _ _ _ _ _ he hs⟩
      · exact absurd ha (by decide)
    · exact absurd ha (by decide)

/-- The states that a script runs through, at most 256 steps. -/
structure Tr (g : FuncId) (eng : Int) (E M : Nat) (md : Int) (ops : List OpT) (n : Nat) (S : Nat → St) : Prop where
  zero : S 0 = .zero
  ok : ∀ i, i ≤ n → StOk i (S i)
  step : ∀ i, i < n → ∀ o, ops[i]? = some o → Goto g eng E M md o (S i) (S (i + 1))

theorem trace_n (eng : Int) (E M : Nat) (md : Int) (h0 : 0 ≤ eng) (hm0 : 0 ≤ md) (hm1 : md ≤ 255) (ha : alwB eng E M md = true) (ops : List OpT) (hok : ∀ o ∈ ops, o.Ok) :
    ∀ n, n ≤ 256 → ∃ S, Tr 86 eng E M md ops n S ∧ Tr 43 eng E M md ops n S
  | 0, _ => ⟨fun _ => .zero, ⟨rfl, fun i _ => St.zero_ok i, fun i hi => absurd hi (by omega)⟩, ⟨rfl, fun i _ => St.zero_ok i, fun i hi => absurd hi (by omega)⟩⟩
  | n + 1, hn => by
    obtain ⟨S, h1, h2⟩ := trace_n eng E M md h0 hm0 hm1 ha ops hok n (by omega)
    cases ho : ops[n]? with
    | none =>
      have hS : ∀ i, i < n + 1 → ∀ o, ops[i]? = some o → i < n := fun i hi o h => by
        rcases Nat.lt_or_ge i n with h' | h'
        · exact h'
        · rw [show i = n by omega, ho] at h; cases h
      let S' : Nat → St := fun i => if i ≤ n then S i else S n
      have e1 : ∀ i, i ≤ n → S' i = S i := fun i hi => if_pos hi
      have e2 : S' (n + 1) = S n := if_neg (by omega)
      have okS : ∀ i, i ≤ n + 1 → StOk i (S' i) := fun i hi => by
        rcases Nat.lt_or_ge n i with h' | h'
        · rw [show i = n + 1 by omega, e2]
          have := h1.ok n (Nat.le_refl _)
          exact ⟨this.u, this.str, by have := this.n; omega⟩
        · rw [e1 i h']; exact h1.ok i h'
      exact ⟨S', ⟨(e1 0 (by omega)).trans h1.zero, okS, fun i hi o h => by
          have := hS i hi o h
          rw [e1 i (by omega), e1 (i + 1) (by omega)]; exact h1.step i this o h⟩,
        ⟨(e1 0 (by omega)).trans h1.zero, okS, fun i hi o h => by
          have := hS i hi o h
          rw [e1 i (by omega), e1 (i + 1) (by omega)]; exact h2.step i this o h⟩⟩
    | some o =>
      obtain ⟨t, ht, hg1, hg2⟩ := one_step eng E M md h0 hm0 hm1 ha o (hok o (List.mem_of_getElem? ho)) n (by omega) (S n) (h1.ok n (Nat.le_refl _))
      let S' : Nat → St := fun i => if i ≤ n then S i else t
      have e1 : ∀ i, i ≤ n → S' i = S i := fun i hi => if_pos hi
      have e2 : S' (n + 1) = t := if_neg (by omega)
      have okS : ∀ i, i ≤ n + 1 → StOk i (S' i) := fun i hi => by
        rcases Nat.lt_or_ge n i with h' | h'
        · rw [show i = n + 1 by omega, e2]; exact ht
        · rw [e1 i h']; exact h1.ok i h'
      refine ⟨S', ⟨(e1 0 (by omega)).trans h1.zero, okS, fun i hi o' h => ?_⟩, ⟨(e1 0 (by omega)).trans h1.zero, okS, fun i hi o' h => ?_⟩⟩
      · rcases Nat.lt_or_ge i n with h' | h'
        · rw [e1 i (by omega), e1 (i + 1) (by omega)]; exact h1.step i h' o' h
        · obtain rfl : i = n := by omega
          rw [ho] at h
          cases h
          rw [e1 i (by omega), e2]; exact hg1
      · rcases Nat.lt_or_ge i n with h' | h'
        · rw [e1 i (by omega), e1 (i + 1) (by omega)]; exact h2.step i h' o' h
        · obtain rfl : i = n := by omega
          rw [ho] at h
          cases h
          rw [e1 i (by omega), e2]; exact hg2

theorem trace_t (eng : Int) (E M : Nat) (md : Int) (h0 : 0 ≤ eng) (hm0 : 0 ≤ md) (hm1 : md ≤ 255) (ha : alwB eng E M md = true) (ops : List OpT) (hok : ∀ o ∈ ops, o.Ok) : ∃ S, Tr 86 eng E M md ops 256 S ∧ Tr 43 eng E M md ops 256 S :=
  trace_n eng E M md h0 hm0 hm1 ha ops hok 256 (Nat.le_refl _)
theorem trace_f (eng : Int) (E M : Nat) (md : Int) (h0 : 0 ≤ eng) (ha : alwB eng E M md = false) (ops : List OpT) : Tr 86 eng E M md ops 256 (fun _ => .zero) :=
  ⟨rfl, fun i _ => St.zero_ok i, fun i _ o _ => cs_86_f eng E M md _ _ _ _ _ _ _ _ (fun tb => by
    have := al_dft eng E M md h0 tb
    rwa [ha] at this)⟩

/-- The script in memory: the slice v of operations, its block below B. -/
def Scr (B : Nat) (w : World) (v : Value) (ops : List OpT) : Prop := ∃ a cap, v = .slice a ops.length cap ∧ ∀ i o, ops[i]? = some o → ∃ b off, a = some ⟨b, off, none⟩ ∧ b < B ∧ ∀ j x, o.cs[j]? = some x → w.cell? ⟨b, off + i * 6 + j, none⟩ = some x
theorem Scr.kept {B N : Nat} {w w' : World} {v : Value} {ops : List OpT} (h : Scr B w v ops) (hb : Below N w w') (hB : B ≤ N) : Scr B w' v ops := by
  obtain ⟨a, cap, rfl, h⟩ := h
  refine ⟨a, cap, rfl, fun i o hi => ?_⟩
  obtain ⟨b, off, rfl, hl, hc⟩ := h i o hi
  exact ⟨b, off, rfl, hl, fun j x hj => (hb.cell (p := ⟨b, off + i * 6 + j, none⟩) (by show b < N; omega)).trans (hc j x hj)⟩
theorem MX.new (w : World) : MX w.heap.size St.zero.R St.zero.L (w.alloc (.cells #[.int .u64 0, .int .u64 0, .int .u64 0, .int .u64 0, .int .u64 0, .int .u64 0, .int .u64 0, .int .u64 0, .slice none 0 0] 89)) := by
  have hr : (w.alloc (.cells #[.int .u64 0, .int .u64 0, .int .u64 0, .int .u64 0, .int .u64 0, .int .u64 0, .int .u64 0, .int .u64 0, .slice none 0 0] 89)).heap[w.heap.size]? = some (.cells #[.int .u64 0, .int .u64 0, .int .u64 0, .int .u64 0, .int .u64 0, .int .u64 0, .int .u64 0, .int .u64 0, .slice none 0 0] 89 (0, 0)) := row_new _ _ _ rfl
  refine ⟨Mine.new _ _ _, fun i hi => ?_, ⟨_, cellr hr 8 _ rfl, OwnL.nil _ _⟩⟩
  refine cellr hr i _ ?_
  rcases (by omega : i = 0 ∨ i = 1 ∨ i = 2 ∨ i = 3 ∨ i = 4 ∨ i = 5 ∨ i = 6 ∨ i = 7) with rfl | rfl | rfl | rfl | rfl | rfl | rfl | rfl <;> rfl
end Go.Proofs.YgcoaaGreat.NatW
