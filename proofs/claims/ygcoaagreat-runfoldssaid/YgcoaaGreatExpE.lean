/-
  Package expand: round.
-/
import Derived.Test.YgcoaaGreatExpD
set_option linter.unusedVariables false
set_option linter.unusedSimpArgs false
namespace Go.Proofs.YgcoaaGreat.NatW
attribute [local go_sem] Go.Instr.field Go.asAgg
open Go.RowKit

theorem u379 : Oaag.prog.underlying 379 = some (.array 1442 5) := by kernel_rfl
theorem u298 : Oaag.prog.underlying 298 = some (.array 1441 5) := by kernel_rfl
theorem z379 : ((Oaag.prog.info? 379).bind fun i => i.zero.map fun z => z.cells) = some (Array.replicate 1442 (.int .u8 0)) := by kernel_rfl

/-- round's memory. -/
structure RR (w : World) (d n : Nat) (top sig prec : Int) (wr : World) : Prop where
  dlt : d < w.heap.size
  ex : Exps wr d n top sig prec
  own : Mine wr w.heap.size
  bk : Bank wr w.heap.size 0 1442 .u8 (fun _ => True)
  bl : Below w.heap.size w wr
theorem RR.later {w wr wr' : World} {d n : Nat} {top sig prec : Int} (h : RR w d n top sig prec wr) (hb : Below wr.heap.size wr wr') : RR w d n top sig prec wr' :=
  ⟨h.dlt, h.ex.kept hb, h.own.kept hb h.own.1, h.bk.kept hb h.own.1, h.bl.trans (hb.mono h.bl.size)⟩
theorem RR.set {w wr : World} {d n : Nat} {top sig prec : Int} (h : RR w d n top sig prec wr) (i : Nat) (v : Int) : RR w d n top sig prec (wr.setCell ⟨w.heap.size, i, none⟩ (.int .u8 v)) :=
  ⟨h.dlt, h.ex.other (by have := h.dlt; omega), h.own.set _ _, h.bk.set i trivial, below_store h.bl (Nat.le_refl _) _⟩

/-- A row of bytes as a list. -/
theorem bank_list {w : World} {b off n : Nat} {p : Int → Prop} (h : Bank w b off n .u8 p) : ∃ xs : List Int, xs.length = n ∧ (∀ i, i < n → w.cell? ⟨b, off + i, none⟩ = some (.int .u8 (xs.getD i 0))) ∧ ∀ i, i < n → p (xs.getD i 0) := by
  induction n with
  | zero => exact ⟨[], rfl, fun i hi => absurd hi (Nat.not_lt_zero i), fun i hi => absurd hi (Nat.not_lt_zero i)⟩
  | succ n ih =>
    obtain ⟨xs, hl, hc, hp⟩ := ih (fun i hi => h i (by omega))
    obtain ⟨v, hv, hpv⟩ := h n (by omega)
    have e1 : ∀ i, i < n → (xs ++ [v]).getD i 0 = xs.getD i 0 := fun i hi => by simp [List.getD, List.getElem?_append_left (show i < xs.length by omega)]
    have e2 : (xs ++ [v]).getD n 0 = v := by simp [List.getD, ← hl]
    refine ⟨xs ++ [v], by simp [hl], fun i hi => ?_, fun i hi => ?_⟩
    · by_cases e : i < n
      · rw [e1 i e]; exact hc i e
      · have : i = n := by omega
        subst this; rw [e2]; exact hv
    · by_cases e : i < n
      · rw [e1 i e]; exact hp i e
      · have : i = n := by omega
        subst this; rw [e2]; exact hpv

theorem bytes_string_later (wb : World) (b off len cap : Nat) (p : Int → Prop) (h : Bank wb b off len .u8 p) (hb : b < wb.heap.size) :
    ∃ s : ByteArray, s.size = len ∧ ∀ x : Later wb, (convert 119 9 (.slice (some ⟨b, off, none⟩) len cap)).run Oaag.prog x.at_ = .ok (.string s) x.at_ := by
  obtain ⟨xs, hl, hc, _⟩ := bank_list h
  exact ⟨strOfNums xs, by rw [strOfNums_size, hl], fun x => run_convert_bytes_arg x.at_ 119 5 u119 u5 b off len cap xs hl (fun i hi => (x.ok.cell (p := ⟨b, off + i, none⟩) hb).trans (hc i hi)) 9 u9⟩

theorem slice_arr_lh (t e n : Nat) (hu : Oaag.prog.underlying t = some (.array n e)) (hs : (Oaag.prog.info? e).map (·.size) = some 1) (b L H : Nat) (l h : Int) (hl : l = (L : Int)) (hh : h = (H : Int)) (hL : L ≤ H) (hH : H ≤ n) (hLn : L < n) (w : World) :
    (Instr.sliceAt t (.pointer (some ⟨b, 0, none⟩)) (some (.int .i64 l)) (some (.int .i64 h)) none).run Oaag.prog w = .ok (.slice (some ⟨b, L, none⟩) (H - L) (n - L)) w := by
  have e1 : Oaag.prog.arrayLen t = n := by simp [Program.arrayLen, hu]
  have e2 : Oaag.prog.elem t = e := by simp [Program.elem, hu]
  have ht : Oaag.prog.underlying t = some (.array (Oaag.prog.arrayLen t) (Oaag.prog.elem t)) := by rw [e1, e2]; exact hu
  rw [run_sliceAt_array_lh w t _ ht .i64 .i64 l h (by omega) (by omega) (by rw [e1]; omega), e1, e2]
  have hsz : (sizeOf e).run Oaag.prog w = .ok 1 w := by
    cases hi : Oaag.prog.info? e with
    | none => rw [hi] at hs; cases hs
    | some i => rw [hi] at hs; simp at hs; simp [sizeOf, typeInfo, hi, hs]
  subst hl hh
  rw [hsz]
  simp only [Result.andThen, slicedAt, Int.toNat_natCast, Nat.mul_one, ptr_add, Nat.zero_add]
  rw [if_neg (by omega)]

theorem Bank.setCells {w : World} {b n : Nat} {p : Int → Prop} (hk : Bank w b 0 n .u8 p) (o : Nat) (xs : List Int) (hx : ∀ i, i < xs.length → p (xs.getD i 0)) : Bank (w.setCells b o (xs.map (Value.int .u8))) b 0 n .u8 p := by
  induction xs generalizing w o with
  | nil => exact hk
  | cons x xs ih =>
    exact ih (hk.set o (by simpa using hx 0 (by simp))) (o + 1) (fun i hi => by have := hx (i + 1) (by simp; omega); simpa using this)

/-- copy(out[1:], d.dig[:N]). -/
theorem wpList_cpB {w0 w : World} {d n : Nat} {top sig prec : Int} (h : RR w0 d n top sig prec w) {ops : Array Oper} {rest : List Oper} {o : Oper} {a : Act} {Q : Exit → Act → World → Prop} (hg : o.guard = none) (x y : Operand) (hop : o.op = .call { callee := .builtin .copy, args := #[x, y], argTypes := #[119, 119] }) (N : Nat) (hN : N ≤ 1441)
    (hx : a.eval x = .slice (some ⟨w0.heap.size, 1, none⟩) 1441 1441) (hy : a.eval y = .slice (some ⟨d, 0, none⟩) N 1441)
    (hK : ∀ w', RR w0 d n top sig prec w' → wpList Oaag.prog ops Q rest (a.put o.dst (goInt N)) w') : wpList Oaag.prog ops Q (o :: rest) a w := by
  obtain ⟨xs, hl, hc, hp⟩ := bank_list (fun i hi => h.ex.dig i (show i < 1441 by omega) : Bank w d 0 N .u8 (fun _ => True))
  have hrun := run_copy_cells (P := Oaag.prog) w 119 119 o.type 5 w0.heap.size 1 1441 1441 ⟨d, 0, none⟩ N 1441 (xs.map (Value.int .u8)) u119 s5 (by simp [hl]; exact (Nat.min_eq_left hN).symm) (fun j v hj => by
      rw [ptr_add]
      simp only [List.getElem?_map, Option.map_eq_some_iff] at hj
      obtain ⟨z, hz, rfl⟩ := hj
      have hlt := (List.getElem?_eq_some_iff.1 hz).1
      have := hc j (by omega)
      rw [this]; simp [List.getD, hz]) (fun j hj => by
      simp at hj
      obtain ⟨v, hv, _⟩ := h.bk.cell (1 + j) (by omega)
      rw [hv]; rfl) (fun j hj => h.own.2 _) (fun v hv => by obtain ⟨z, _, rfl⟩ := List.mem_map.1 hv; rfl)
  have hgr := setCells_grow w0.heap.size (xs.map (Value.int .u8)) 1 w
  have hblk : ∀ k, k < w.heap.size → k ≠ w0.heap.size → (w.setCells w0.heap.size 1 (xs.map (Value.int .u8))).heap[k]? = w.heap[k]? := fun k hk hne => hgr.block k hk (by simpa using hne)
  have hdl := h.dlt
  have hrr : RR w0 d n top sig prec (w.setCells w0.heap.size 1 (xs.map (Value.int .u8))) :=
    ⟨hdl, h.ex.same (hblk d h.ex.own.1 (by omega)), ⟨Nat.lt_of_lt_of_le h.own.1 hgr.size, fun i => by rw [World.frozen?_setCells]; exact h.own.2 i⟩, h.bk.setCells 1 xs (fun i hi => hp i (by omega)),
     ⟨hgr.os.trans h.bl.os, hgr.tape.trans h.bl.tape, hgr.output.trans h.bl.output, Nat.le_trans h.bl.size hgr.size, fun k hk => (hblk k (Nat.lt_of_lt_of_le hk h.bl.size) (by omega)).trans (h.bl.block k hk)⟩⟩
  refine wpList_plain hg fun K hK' => ?_
  unfold Oper.wp
  have hlm : (xs.map (Value.int .u8)).length = N := by simp [hl]
  rw [hlm] at hrun
  simp [execOp, hop, resolve, invoke, builtin, hx, hy, hrun, Result.andThen]
  exact hK' _ _ (hK _ hrr)

end Go.Proofs.YgcoaaGreat.NatW
