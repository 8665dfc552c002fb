/-
  The top: Outcome.Equal.
-/
import Derived.Test.YgcoaaGreatMxA
import Derived.Test.YgcoaaGreatRsG
set_option linter.unusedVariables false
set_option linter.unusedSimpArgs false
set_option maxRecDepth 20000
namespace Go.Proofs.YgcoaaGreat.NatW
open Go.RowKit
open Go.Proofs.YgcoaaGreat.Det
open Go.Proofs.YgcoaaGreat.Limbs Go.Proofs.YgcoaaGreat.Bits
attribute [local go_sem] Go.Instr.field Go.asAgg

/-- The slice v reads as L. -/
def Rd (w : World) (v : Value) (L : List Value) : Prop := ∃ a cap, v = .slice a L.length cap ∧ ∀ i x, L[i]? = some x → ∃ b off, a = some ⟨b, off, none⟩ ∧ w.cell? ⟨b, off + i, none⟩ = some x
theorem Rd.later {w w' : World} {v : Value} {L : List Value} (h : Rd w v L) (hb : Below w.heap.size w w') : Rd w' v L := by
  obtain ⟨a, cap, rfl, h⟩ := h
  refine ⟨a, cap, rfl, fun i x hi => ?_⟩
  obtain ⟨b, off, rfl, hc⟩ := h i x hi
  exact ⟨b, off, rfl, (hb.cell (p := ⟨b, off + i, none⟩) (World.block_lt_of_cell? _ _ hc)).trans hc⟩
theorem OwnL.rd {w : World} {base : Nat} {v : Value} {L : List Value} (h : OwnL w base v L) : Rd w v L := by
  have hcs := fun (g : Nat) (hg : v.ownBlock = some g) => World.ownsRow.cells h (g := g) hg
  obtain ⟨h1, h2⟩ := h
  rcases h2 with ⟨rfl, h3⟩ | ⟨g, cap, cur, rfl, _⟩
  · refine ⟨none, 0, by rw [h3], fun i x hi => ?_⟩
    have : L = [] := List.length_eq_zero_iff.1 h3
    subst this
    simp at hi
  · refine ⟨_, cap, rfl, fun i x hi => ⟨g, 0, rfl, ?_⟩⟩
    have := hcs g rfl i x hi
    rw [ptr_add] at this
    exact this
def outV (b : Bool) (R : Nat → Int) (v : Value) : Value := .agg #[.bool b, .int .u64 (R 0), .int .u64 (R 1), .int .u64 (R 2), .int .u64 (R 3), .int .u64 (R 4), .int .u64 (R 5), .int .u64 (R 6), .int .u64 (R 7), v]
theorem u86 : Oaag.prog.underlying 86 = some (.array 8 30) := by kernel_rfl
theorem u30i : Oaag.prog.underlying 30 = some (.int .u64) := by kernel_rfl
theorem s30i : (Oaag.prog.info? 30).map (·.size) = some 1 := by kernel_rfl
theorem sz30 (w : World) : (sizeOf 30).run Oaag.prog w = .ok 1 w := by
  have hs := s30i
  cases hi : Oaag.prog.info? 30 with
  | none => rw [hi] at hs; cases hs
  | some i => rw [hi] at hs; simp at hs; simp [sizeOf, typeInfo, hi, hs]
theorem part30 (xs : Array Value) (i : Nat) (x : Value) (h : xs[i]? = some x) (w : World) : (part 30 xs i).run Oaag.prog w = .ok x w := by
  simp [part, run_underlying u30i, isAgg, h, go_sem]
theorem eq30 (a : Int) (w : World) : (Op.equalIn 9999 30 (.int .u64 a) (.int .u64 a)).run Oaag.prog w = .ok true w := by
  rw [show (9999 : Nat) = 9998 + 1 from rfl, run_equalIn_int _ _ _ _ _ _ _ u30i]
  simp
theorem arr_eq (R : Nat → Int) (w : World) : (Op.equalIn 10000 86 (.agg #[.int .u64 (R 0), .int .u64 (R 1), .int .u64 (R 2), .int .u64 (R 3), .int .u64 (R 4), .int .u64 (R 5), .int .u64 (R 6), .int .u64 (R 7)]) (.agg #[.int .u64 (R 0), .int .u64 (R 1), .int .u64 (R 2), .int .u64 (R 3), .int .u64 (R 4), .int .u64 (R 5), .int .u64 (R 6), .int .u64 (R 7)])).run Oaag.prog w = .ok true w := by
  rw [show (10000 : Nat) = 9998 + 1 + 1 from rfl, Op.equalIn]
  simp only [Sem.run_bind, run_underlying u86, Result.andThen_ok, sz30]
  simp [Std.Legacy.Range.forIn_eq_forIn_range', List.range', part30, eq30]
theorem arr_neq (R : Nat → Int) (w : World) : (binOp .neq 86 (.agg #[.int .u64 (R 0), .int .u64 (R 1), .int .u64 (R 2), .int .u64 (R 3), .int .u64 (R 4), .int .u64 (R 5), .int .u64 (R 6), .int .u64 (R 7)]) (.agg #[.int .u64 (R 0), .int .u64 (R 1), .int .u64 (R 2), .int .u64 (R 3), .int .u64 (R 4), .int .u64 (R 5), .int .u64 (R 6), .int .u64 (R 7)])).run Oaag.prog w = .ok (.bool false) w := by
  simp [go_sem, arr_eq]

def EqR (wb : World) (n : Nat) (t30 : Value) (wr : World) : Prop := ∃ (i : Nat) (y : Later wb), i ≤ n ∧ t30 = .int .i64 (i : Int) ∧ wr = y.at_
set_option maxHeartbeats 2000000 in
theorem equal_run (w : World) (b : Bool) (R : Nat → Int) (v1 v2 : Value) (L : List Value) (h1 : Rd w v1 L) (h2 : Rd w v2 L) (hs : ∀ x ∈ L, ∃ s, x = .string s) (hn : L.length ≤ 1000) :
    Calls Oaag.prog 90 #[outV b R v1, outV b R v2] w fun e w' => e = .returned (.bool true) ∧ Below w.heap.size w w' := by
  obtain ⟨a1, cap1, rfl, r1⟩ := h1
  obtain ⟨a2, cap2, rfl, r2⟩ := h2
  have han := arr_neq R
  have hbb : (b != b) = false := by cases b <;> rfl
  unfold outV
  obtain ⟨wb, x0, hwb, q0, q1, hB, hZ⟩ := boxes2 w #[.bool b, .int .u64 (R 0), .int .u64 (R 1), .int .u64 (R 2), .int .u64 (R 3), .int .u64 (R 4), .int .u64 (R 5), .int .u64 (R 6), .int .u64 (R 7), .slice a1 L.length cap1] #[.bool b, .int .u64 (R 0), .int .u64 (R 1), .int .u64 (R 2), .int .u64 (R 3), .int .u64 (R 4), .int .u64 (R 5), .int .u64 (R 6), .int .u64 (R 7), .slice a2 L.length cap2] 127 127
  have c00 : ∀ x : Later wb, _ = some (.bool b : Value) := Later.cell q0 0 _ rfl
  have c01 : ∀ x : Later wb, _ = some (.int .u64 (R 0) : Value) := Later.cell q0 1 _ rfl
  have c02 : ∀ x : Later wb, _ = some (.int .u64 (R 1) : Value) := Later.cell q0 2 _ rfl
  have c03 : ∀ x : Later wb, _ = some (.int .u64 (R 2) : Value) := Later.cell q0 3 _ rfl
  have c04 : ∀ x : Later wb, _ = some (.int .u64 (R 3) : Value) := Later.cell q0 4 _ rfl
  have c05 : ∀ x : Later wb, _ = some (.int .u64 (R 4) : Value) := Later.cell q0 5 _ rfl
  have c06 : ∀ x : Later wb, _ = some (.int .u64 (R 5) : Value) := Later.cell q0 6 _ rfl
  have c07 : ∀ x : Later wb, _ = some (.int .u64 (R 6) : Value) := Later.cell q0 7 _ rfl
  have c08 : ∀ x : Later wb, _ = some (.int .u64 (R 7) : Value) := Later.cell q0 8 _ rfl
  have c09 : ∀ x : Later wb, _ = some (.slice a1 L.length cap1 : Value) := Later.cell q0 9 _ rfl
  have c10 : ∀ x : Later wb, _ = some (.bool b : Value) := Later.cell q1 0 _ rfl
  have c11 : ∀ x : Later wb, _ = some (.int .u64 (R 0) : Value) := Later.cell q1 1 _ rfl
  have c12 : ∀ x : Later wb, _ = some (.int .u64 (R 1) : Value) := Later.cell q1 2 _ rfl
  have c13 : ∀ x : Later wb, _ = some (.int .u64 (R 2) : Value) := Later.cell q1 3 _ rfl
  have c14 : ∀ x : Later wb, _ = some (.int .u64 (R 3) : Value) := Later.cell q1 4 _ rfl
  have c15 : ∀ x : Later wb, _ = some (.int .u64 (R 4) : Value) := Later.cell q1 5 _ rfl
  have c16 : ∀ x : Later wb, _ = some (.int .u64 (R 5) : Value) := Later.cell q1 6 _ rfl
  have c17 : ∀ x : Later wb, _ = some (.int .u64 (R 6) : Value) := Later.cell q1 7 _ rfl
  have c18 : ∀ x : Later wb, _ = some (.int .u64 (R 7) : Value) := Later.cell q1 8 _ rfl
  have c19 : ∀ x : Later wb, _ = some (.slice a2 L.length cap2 : Value) := Later.cell q1 9 _ rfl
  have hne : Nonempty (Later wb) := ⟨x0⟩
  clear q0 q1
  go_enter Oaag.func90, Oaag.ntmps90
  go_wp2_with fail
  go_loopw [5, 30] (fun _ t30 wr => EqR wb L.length t30 wr) (fun _ t30 _ => L.length - (intOf t30).toNat)
  case atStart => exact ⟨0, x0, by omega, rfl, rfl⟩
  case round =>
    obtain ⟨i, y, hi, rfl, rfl⟩ := hrel
    by_cases hl : i < L.length
    · obtain ⟨x, hx⟩ : ∃ x, L[i]? = some x := ⟨L[i], List.getElem?_eq_getElem hl⟩
      obtain ⟨s, rfl⟩ := hs x (List.mem_of_getElem? hx)
      obtain ⟨b1, o1, rfl, k1⟩ := r1 i _ hx
      obtain ⟨b2, o2, rfl, k2⟩ := r2 i _ hx
      have l1 : ∀ y : Later wb, y.at_.cell? ⟨b1, o1 + i, none⟩ = some (.string s) := fun y => ((hB y).cell (p := ⟨b1, o1 + i, none⟩) (World.block_lt_of_cell? _ _ k1)).trans k1
      have l2 : ∀ y : Later wb, y.at_.cell? ⟨b2, o2 + i, none⟩ = some (.string s) := fun y => ((hB y).cell (p := ⟨b2, o2 + i, none⟩) (World.block_lt_of_cell? _ _ k2)).trans k2
      clear r1 r2
      go_wp2_with (first
        | ((with_reducible refine at_reg 6 ?_); (refine Go.Lax.region_reads _ (by kernel_rfl) (by kernel_rfl) ?_; (repeat (first | go_big_quiet_skip | (go_big_quiet_want; go_big_quiet_op; go_big_quiet_on))); refine wpQuiet_nil ?_); intro y2)
        | fail)
      exact ⟨⟨i + 1, y2, by omega, by simp, rfl⟩, by simp [intOf]; omega⟩
    · go_wp2_with fail
      go_ret
      exact ⟨rfl, hB _⟩

def macV (R : Nat → Int) (v : Value) : Value := .agg #[.int .u64 (R 0), .int .u64 (R 1), .int .u64 (R 2), .int .u64 (R 3), .int .u64 (R 4), .int .u64 (R 5), .int .u64 (R 6), .int .u64 (R 7), v]
set_option maxHeartbeats 2000000 in
theorem same_run (w : World) (R : Nat → Int) (v1 v2 : Value) (L : List Value) (h1 : Rd w v1 L) (h2 : Rd w v2 L) (hs : ∀ x ∈ L, ∃ s, x = .string s) (hn : L.length ≤ 1000) :
    Calls Oaag.prog 89 #[macV R v1, macV R v2] w fun e w' => e = .returned (.bool true) ∧ Below w.heap.size w w' := by
  have H1 := hide h1
  have H2 := hide h2
  have HS := hide hs
  obtain ⟨a1, cap1, rfl, -⟩ := h1
  obtain ⟨a2, cap2, rfl, -⟩ := h2
  clear hs
  unfold macV
  go_enter Oaag.func89, Oaag.ntmps89
  go_wp2_with (first
    | (with_reducible refine at_fn 90 ?_
       refine gen_calls ?_
       intro W hW
       have hb : Below w.heap.size w W := by rw [← hW]; exact ((Below.refl _ _).alloc (Nat.le_refl _) _).alloc (by rw [size_new]; omega) _
       clear hW
       refine (equal_run W false R _ _ L ((unhide H1).later hb) ((unhide H2).later hb) (unhide HS) hn).mono ?_
       rintro _ W2 ⟨rfl, hb2⟩
       have HB := hide (hb.trans (hb2.mono hb.size))
       clear hb hb2)
    | fail)
  all_goals
    go_ret
    exact ⟨rfl, unhide HB⟩
end Go.Proofs.YgcoaaGreat.NatW
