/-
  settle, exactly.
-/
import Derived.Test.YgcoaaGreatMxB
set_option linter.unusedVariables false
set_option linter.unusedSimpArgs false
set_option maxRecDepth 20000
namespace Go.Proofs.YgcoaaGreat.NatW
open Go.RowKit
open Go.Proofs.YgcoaaGreat.Det
open Go.Proofs.YgcoaaGreat.Limbs Go.Proofs.YgcoaaGreat.Bits
attribute [local go_sem] Go.Instr.field Go.asAgg

/-- append of a text, in an order that is fixed. -/
theorem wpList_appL {w : World} {ops : Array Oper} {rest : List Oper} {o : Oper} {a : Act} {Q : Exit → Act → World → Prop}
    (hgd : o.guard = none) (s x : Operand) (ho : o.op = .call { callee := .builtin .append, args := #[s, x], argTypes := #[87, 87] })
    {base : Nat} {L : List Value} {v u : Value} (hown : OwnL w base v L) (hs : a.eval s = v) (hx : a.eval x = .slice (some ⟨w.heap.size, 0, none⟩) 1 1) (hu1 : u.oneCell' = true)
    (hn : L.length ≤ 1000000000) (hbase : base ≤ w.heap.size)
    (h : ∀ v' w', OwnL w' base v' (L ++ [u]) → Below base w w' → wpList Oaag.prog ops Q rest (a.put o.dst v') w') : wpList Oaag.prog ops Q (o :: rest) a (w.alloc (.cells #[u] 9)) := by
  obtain ⟨i0, hi, hz0, hz1, hz2⟩ := info_parts info9
  refine wpList_append_own _ hgd s x 87 ho base 9 i0 (.string ⟨#[]⟩) 1 16 NatW.u87 hi hz0 hz1 hz2 rfl (by decide) v L.length L hs (World.ownsRow.alloc hown _) ⟨w.heap.size, 0, none⟩ 1 1 [u] hx rfl ?_ ?_ ?_ ?_ ?_ ?_
  · intro j y hj
    match j, hj with
    | 0, hj => simp at hj; subst hj; simp [Addr.add]
    | k + 1, hj => simp at hj
  · intro y hy; simp at hy; subst hy; exact hu1
  · unfold maxLen; omega
  · calc (L.length + 1) * 16 ≤ 1000000001 * 64 := Nat.mul_le_mul (by omega) (by decide)
      _ ≤ 140737488355328 := by decide
  · simp; omega
  · intro v' w' hown' hgr _
    refine h v' w' ?_ ?_
    · unfold OwnL
      rw [List.length_append]
      exact hown'
    · refine ((Below.refl base w).alloc hbase (.cells #[u] 9)).grown hgr (by simp; omega) ?_
      intro k hk
      exact ((World.ownsRow.alloc hown (.cells #[u] 9)).lt k hk).1

/-- settle takes the machine from R, L to R', L'. -/
def SXs (g : FuncId) (E M : Nat) (kd kD kA kB imm x : Int) (text : ByteArray) (sc : Value) (R : Nat → Int) (L : List Value) (R' : Nat → Int) (L' : List Value) : Prop :=
  ∀ (tb mb : Nat) (w : World) (K : Ending → World → Prop), tb < mb → On tb w → MX mb R L w → (∀ w', MX mb R' L' w' → Below mb w w' → K (.returned (.tuple #[])) w') →
    Calls Oaag.prog g #[fmt E M, .pointer (some ⟨mb, 0, none⟩), .agg #[.int .u8 kd, .int .u8 kD, .int .u8 kA, .int .u8 kB, .int .u64 imm, .string text], sc, .int .u64 x] w K

set_option maxHeartbeats 4000000 in
theorem settle_255_0 (E M : Nat) (hf : fok E M = true) (kd kD kA kB imm x : Int) (text : ByteArray) (nn : Bool) (dd : ByteArray) (ee pp gg : Int) (di : Nat) (hdi : bits .and .u8 kD 7 = (di : Int)) (hdi8 : di < 8) (R : Nat → Int) (L : List Value) (hn : L.length ≤ 1000) : SXs 255 E M kd kD kA kB imm x text (.agg #[.int .u8 0, .bool nn, .string dd, .int .i16 ee, .int .i64 pp, .int .i32 gg]) R L (up R di x) L := by
  intro tb mb w K htb ho h hK
  obtain ⟨g1, g2, g3, g4⟩ := fok_bd hf
  have HK := hide hK
  clear hK
  obtain ⟨wb, x0, hwb, r0, r1, r2, hB, hZ⟩ := boxes3 w #[.int .u8 E, .int .u8 M] #[.int .u8 kd, .int .u8 kD, .int .u8 kA, .int .u8 kB, .int .u64 imm, .string text] #[.int .u8 0, .bool nn, .string dd, .int .i16 ee, .int .i64 pp, .int .i32 gg] 23 91 244
  have c00 : ∀ x : Later wb, _ = some (.int .u8 E : Value) := Later.cell r0 0 _ rfl
  have c01 : ∀ x : Later wb, _ = some (.int .u8 M : Value) := Later.cell r0 1 _ rfl
  have c10 : ∀ x : Later wb, _ = some (.int .u8 kd : Value) := Later.cell r1 0 _ rfl
  have c11 : ∀ x : Later wb, _ = some (.int .u8 kD : Value) := Later.cell r1 1 _ rfl
  have c12 : ∀ x : Later wb, _ = some (.int .u8 kA : Value) := Later.cell r1 2 _ rfl
  have c13 : ∀ x : Later wb, _ = some (.int .u8 kB : Value) := Later.cell r1 3 _ rfl
  have c14 : ∀ x : Later wb, _ = some (.int .u64 imm : Value) := Later.cell r1 4 _ rfl
  have c15 : ∀ x : Later wb, _ = some (.string text : Value) := Later.cell r1 5 _ rfl
  have c20 : ∀ x : Later wb, _ = some (.int .u8 0 : Value) := Later.cell r2 0 _ rfl
  have c21 : ∀ x : Later wb, _ = some (.bool nn : Value) := Later.cell r2 1 _ rfl
  have c22 : ∀ x : Later wb, _ = some (.string dd : Value) := Later.cell r2 2 _ rfl
  have c23 : ∀ x : Later wb, _ = some (.int .i16 ee : Value) := Later.cell r2 3 _ rfl
  have c24 : ∀ x : Later wb, _ = some (.int .i64 pp : Value) := Later.cell r2 4 _ rfl
  have c25 : ∀ x : Later wb, _ = some (.int .i32 gg : Value) := Later.cell r2 5 _ rfl
  have R0 := hide r0
  have R1 := hide r1
  have R2 := hide r2
  clear r0 r1 r2
  have hne : Nonempty (Later wb) := ⟨x0⟩
  have hm' : ∀ y : Later wb, MX mb R L y.at_ := fun y => h.later (hB y)
  have hon : ∀ y : Later wb, On tb y.at_ := fun y => ho.later (hB y)
  obtain ⟨vo, kov, hov⟩ := h.out
  have ko : ∀ y : Later wb, y.at_.cell? ⟨mb, 8, none⟩ = some vo := fun y => ((hB y).cell (p := ⟨mb, 8, none⟩) h.own.1).trans kov
  have fo : ∀ y : Later wb, y.at_.frozen? ⟨mb, 8, none⟩ = false := fun y => (hm' y).own.2 8
  have hown : ∀ y : Later wb, OwnL y.at_ (mb + 1) vo L := fun y => hov.kept (hB y)
  have hsz : ∀ y : Later wb, mb + 1 ≤ y.at_.heap.size := fun y => (hm' y).own.1
  have kd' : ∀ y : Later wb, y.at_.cell? ⟨mb, di, none⟩ = some (.int .u64 (R di)) := fun y => ((hB y).cell (p := ⟨mb, di, none⟩) h.own.1).trans (h.reg di hdi8)
  have fd : ∀ y : Later wb, y.at_.frozen? ⟨mb, di, none⟩ = false := fun y => (hm' y).own.2 di
  have hml := h.own.1
  have HON := hide hon
  have HM := hide hm'
  clear hm' kov hov h ho hon
  go_enter Oaag.func255, Oaag.ntmps255
  go_wp2_with (first
    | ((refine Go.Lax.region_reads _ (by kernel_rfl) (by kernel_rfl) ?_; (repeat (first | go_big_quiet_skip | (go_big_quiet_want; go_big_quiet_op; go_big_quiet_on))); refine wpQuiet_nil ?_); intro y))
  all_goals first
    | (refine bodyPost_box rfl ?_; intro r hr; simp [results, Oaag.results255, go_sem] at hr; subst hr; refine ⟨_, rfl, ?_⟩
       exact unhide HK _ ((unhide HM _).set di hdi8 _) (below_store ((hB _).mono (by omega)) (Nat.le_refl _) _))
    | fail

set_option maxHeartbeats 4000000 in
theorem settle_255_1 (E M : Nat) (hf : fok E M = true) (kd kD kA kB imm x : Int) (text : ByteArray) (nn : Bool) (dd : ByteArray) (ee pp gg : Int) (di : Nat) (hdi : bits .and .u8 kD 7 = (di : Int)) (hdi8 : di < 8) (R : Nat → Int) (L : List Value) (hn : L.length ≤ 1000) (r : Int) (hD : ∀ tb, DFT tb 85 #[fmt E M, .bool nn] (.int .u64 r)) : SXs 255 E M kd kD kA kB imm x text (.agg #[.int .u8 1, .bool nn, .string dd, .int .i16 ee, .int .i64 pp, .int .i32 gg]) R L (up R di r) L := by
  intro tb mb w K htb ho h hK
  obtain ⟨g1, g2, g3, g4⟩ := fok_bd hf
  have HK := hide hK
  clear hK
  obtain ⟨wb, x0, hwb, r0, r1, r2, hB, hZ⟩ := boxes3 w #[.int .u8 E, .int .u8 M] #[.int .u8 kd, .int .u8 kD, .int .u8 kA, .int .u8 kB, .int .u64 imm, .string text] #[.int .u8 1, .bool nn, .string dd, .int .i16 ee, .int .i64 pp, .int .i32 gg] 23 91 244
  have c00 : ∀ x : Later wb, _ = some (.int .u8 E : Value) := Later.cell r0 0 _ rfl
  have c01 : ∀ x : Later wb, _ = some (.int .u8 M : Value) := Later.cell r0 1 _ rfl
  have c10 : ∀ x : Later wb, _ = some (.int .u8 kd : Value) := Later.cell r1 0 _ rfl
  have c11 : ∀ x : Later wb, _ = some (.int .u8 kD : Value) := Later.cell r1 1 _ rfl
  have c12 : ∀ x : Later wb, _ = some (.int .u8 kA : Value) := Later.cell r1 2 _ rfl
  have c13 : ∀ x : Later wb, _ = some (.int .u8 kB : Value) := Later.cell r1 3 _ rfl
  have c14 : ∀ x : Later wb, _ = some (.int .u64 imm : Value) := Later.cell r1 4 _ rfl
  have c15 : ∀ x : Later wb, _ = some (.string text : Value) := Later.cell r1 5 _ rfl
  have c20 : ∀ x : Later wb, _ = some (.int .u8 1 : Value) := Later.cell r2 0 _ rfl
  have c21 : ∀ x : Later wb, _ = some (.bool nn : Value) := Later.cell r2 1 _ rfl
  have c22 : ∀ x : Later wb, _ = some (.string dd : Value) := Later.cell r2 2 _ rfl
  have c23 : ∀ x : Later wb, _ = some (.int .i16 ee : Value) := Later.cell r2 3 _ rfl
  have c24 : ∀ x : Later wb, _ = some (.int .i64 pp : Value) := Later.cell r2 4 _ rfl
  have c25 : ∀ x : Later wb, _ = some (.int .i32 gg : Value) := Later.cell r2 5 _ rfl
  have R0 := hide r0
  have R1 := hide r1
  have R2 := hide r2
  clear r0 r1 r2
  have hne : Nonempty (Later wb) := ⟨x0⟩
  have hm' : ∀ y : Later wb, MX mb R L y.at_ := fun y => h.later (hB y)
  have hon : ∀ y : Later wb, On tb y.at_ := fun y => ho.later (hB y)
  obtain ⟨vo, kov, hov⟩ := h.out
  have ko : ∀ y : Later wb, y.at_.cell? ⟨mb, 8, none⟩ = some vo := fun y => ((hB y).cell (p := ⟨mb, 8, none⟩) h.own.1).trans kov
  have fo : ∀ y : Later wb, y.at_.frozen? ⟨mb, 8, none⟩ = false := fun y => (hm' y).own.2 8
  have hown : ∀ y : Later wb, OwnL y.at_ (mb + 1) vo L := fun y => hov.kept (hB y)
  have hsz : ∀ y : Later wb, mb + 1 ≤ y.at_.heap.size := fun y => (hm' y).own.1
  have kd' : ∀ y : Later wb, y.at_.cell? ⟨mb, di, none⟩ = some (.int .u64 (R di)) := fun y => ((hB y).cell (p := ⟨mb, di, none⟩) h.own.1).trans (h.reg di hdi8)
  have fd : ∀ y : Later wb, y.at_.frozen? ⟨mb, di, none⟩ = false := fun y => (hm' y).own.2 di
  have hml := h.own.1
  have HON := hide hon
  have HM := hide hm'
  have HDD := hide (hD tb)
  clear hD
  clear hm' kov hov h ho hon
  go_enter Oaag.func255, Oaag.ntmps255
  go_wp2_with (first
    | ((with_reducible refine at_later 85 ?_); refine DFT.run (unhide HDD) (unhide HON) _ ?_; intro y__)
    | ((refine Go.Lax.region_reads _ (by kernel_rfl) (by kernel_rfl) ?_; (repeat (first | go_big_quiet_skip | (go_big_quiet_want; go_big_quiet_op; go_big_quiet_on))); refine wpQuiet_nil ?_); intro y))
  all_goals first
    | (refine bodyPost_box rfl ?_; intro r hr; simp [results, Oaag.results255, go_sem] at hr; subst hr; refine ⟨_, rfl, ?_⟩
       exact unhide HK _ ((unhide HM _).set di hdi8 _) (below_store ((hB _).mono (by omega)) (Nat.le_refl _) _))
    | fail

set_option maxHeartbeats 4000000 in
theorem settle_255_2 (E M : Nat) (hf : fok E M = true) (kd kD kA kB imm x : Int) (text : ByteArray) (nn : Bool) (dd : ByteArray) (ee pp gg : Int) (di : Nat) (hdi : bits .and .u8 kD 7 = (di : Int)) (hdi8 : di < 8) (R : Nat → Int) (L : List Value) (hn : L.length ≤ 1000) (r : Int) (hD : ∀ tb, DFT tb 45 #[fmt E M] (.int .u64 r)) : SXs 255 E M kd kD kA kB imm x text (.agg #[.int .u8 2, .bool nn, .string dd, .int .i16 ee, .int .i64 pp, .int .i32 gg]) R L (up R di r) L := by
  intro tb mb w K htb ho h hK
  obtain ⟨g1, g2, g3, g4⟩ := fok_bd hf
  have HK := hide hK
  clear hK
  obtain ⟨wb, x0, hwb, r0, r1, r2, hB, hZ⟩ := boxes3 w #[.int .u8 E, .int .u8 M] #[.int .u8 kd, .int .u8 kD, .int .u8 kA, .int .u8 kB, .int .u64 imm, .string text] #[.int .u8 2, .bool nn, .string dd, .int .i16 ee, .int .i64 pp, .int .i32 gg] 23 91 244
  have c00 : ∀ x : Later wb, _ = some (.int .u8 E : Value) := Later.cell r0 0 _ rfl
  have c01 : ∀ x : Later wb, _ = some (.int .u8 M : Value) := Later.cell r0 1 _ rfl
  have c10 : ∀ x : Later wb, _ = some (.int .u8 kd : Value) := Later.cell r1 0 _ rfl
  have c11 : ∀ x : Later wb, _ = some (.int .u8 kD : Value) := Later.cell r1 1 _ rfl
  have c12 : ∀ x : Later wb, _ = some (.int .u8 kA : Value) := Later.cell r1 2 _ rfl
  have c13 : ∀ x : Later wb, _ = some (.int .u8 kB : Value) := Later.cell r1 3 _ rfl
  have c14 : ∀ x : Later wb, _ = some (.int .u64 imm : Value) := Later.cell r1 4 _ rfl
  have c15 : ∀ x : Later wb, _ = some (.string text : Value) := Later.cell r1 5 _ rfl
  have c20 : ∀ x : Later wb, _ = some (.int .u8 2 : Value) := Later.cell r2 0 _ rfl
  have c21 : ∀ x : Later wb, _ = some (.bool nn : Value) := Later.cell r2 1 _ rfl
  have c22 : ∀ x : Later wb, _ = some (.string dd : Value) := Later.cell r2 2 _ rfl
  have c23 : ∀ x : Later wb, _ = some (.int .i16 ee : Value) := Later.cell r2 3 _ rfl
  have c24 : ∀ x : Later wb, _ = some (.int .i64 pp : Value) := Later.cell r2 4 _ rfl
  have c25 : ∀ x : Later wb, _ = some (.int .i32 gg : Value) := Later.cell r2 5 _ rfl
  have R0 := hide r0
  have R1 := hide r1
  have R2 := hide r2
  clear r0 r1 r2
  have hne : Nonempty (Later wb) := ⟨x0⟩
  have hm' : ∀ y : Later wb, MX mb R L y.at_ := fun y => h.later (hB y)
  have hon : ∀ y : Later wb, On tb y.at_ := fun y => ho.later (hB y)
  obtain ⟨vo, kov, hov⟩ := h.out
  have ko : ∀ y : Later wb, y.at_.cell? ⟨mb, 8, none⟩ = some vo := fun y => ((hB y).cell (p := ⟨mb, 8, none⟩) h.own.1).trans kov
  have fo : ∀ y : Later wb, y.at_.frozen? ⟨mb, 8, none⟩ = false := fun y => (hm' y).own.2 8
  have hown : ∀ y : Later wb, OwnL y.at_ (mb + 1) vo L := fun y => hov.kept (hB y)
  have hsz : ∀ y : Later wb, mb + 1 ≤ y.at_.heap.size := fun y => (hm' y).own.1
  have kd' : ∀ y : Later wb, y.at_.cell? ⟨mb, di, none⟩ = some (.int .u64 (R di)) := fun y => ((hB y).cell (p := ⟨mb, di, none⟩) h.own.1).trans (h.reg di hdi8)
  have fd : ∀ y : Later wb, y.at_.frozen? ⟨mb, di, none⟩ = false := fun y => (hm' y).own.2 di
  have hml := h.own.1
  have HON := hide hon
  have HM := hide hm'
  have HDD := hide (hD tb)
  clear hD
  clear hm' kov hov h ho hon
  go_enter Oaag.func255, Oaag.ntmps255
  go_wp2_with (first
    | ((with_reducible refine at_later 45 ?_); refine DFT.run (unhide HDD) (unhide HON) _ ?_; intro y__)
    | ((refine Go.Lax.region_reads _ (by kernel_rfl) (by kernel_rfl) ?_; (repeat (first | go_big_quiet_skip | (go_big_quiet_want; go_big_quiet_op; go_big_quiet_on))); refine wpQuiet_nil ?_); intro y))
  all_goals first
    | (refine bodyPost_box rfl ?_; intro r hr; simp [results, Oaag.results255, go_sem] at hr; subst hr; refine ⟨_, rfl, ?_⟩
       exact unhide HK _ ((unhide HM _).set di hdi8 _) (below_store ((hB _).mono (by omega)) (Nat.le_refl _) _))
    | fail

set_option maxHeartbeats 4000000 in
theorem settle_255_3 (E M : Nat) (hf : fok E M = true) (kd kD kA kB imm x : Int) (text : ByteArray) (nn : Bool) (dd : ByteArray) (ee pp gg : Int) (di : Nat) (hdi : bits .and .u8 kD 7 = (di : Int)) (hdi8 : di < 8) (R : Nat → Int) (L : List Value) (hn : L.length ≤ 1000) : SXs 255 E M kd kD kA kB imm x text (.agg #[.int .u8 3, .bool nn, .string dd, .int .i16 ee, .int .i64 pp, .int .i32 gg]) R L R (L ++ [.string ⟨#[119, 114, 111, 110, 103]⟩]) := by
  intro tb mb w K htb ho h hK
  obtain ⟨g1, g2, g3, g4⟩ := fok_bd hf
  have HK := hide hK
  clear hK
  obtain ⟨wb, x0, hwb, r0, r1, r2, hB, hZ⟩ := boxes3 w #[.int .u8 E, .int .u8 M] #[.int .u8 kd, .int .u8 kD, .int .u8 kA, .int .u8 kB, .int .u64 imm, .string text] #[.int .u8 3, .bool nn, .string dd, .int .i16 ee, .int .i64 pp, .int .i32 gg] 23 91 244
  have c00 : ∀ x : Later wb, _ = some (.int .u8 E : Value) := Later.cell r0 0 _ rfl
  have c01 : ∀ x : Later wb, _ = some (.int .u8 M : Value) := Later.cell r0 1 _ rfl
  have c10 : ∀ x : Later wb, _ = some (.int .u8 kd : Value) := Later.cell r1 0 _ rfl
  have c11 : ∀ x : Later wb, _ = some (.int .u8 kD : Value) := Later.cell r1 1 _ rfl
  have c12 : ∀ x : Later wb, _ = some (.int .u8 kA : Value) := Later.cell r1 2 _ rfl
  have c13 : ∀ x : Later wb, _ = some (.int .u8 kB : Value) := Later.cell r1 3 _ rfl
  have c14 : ∀ x : Later wb, _ = some (.int .u64 imm : Value) := Later.cell r1 4 _ rfl
  have c15 : ∀ x : Later wb, _ = some (.string text : Value) := Later.cell r1 5 _ rfl
  have c20 : ∀ x : Later wb, _ = some (.int .u8 3 : Value) := Later.cell r2 0 _ rfl
  have c21 : ∀ x : Later wb, _ = some (.bool nn : Value) := Later.cell r2 1 _ rfl
  have c22 : ∀ x : Later wb, _ = some (.string dd : Value) := Later.cell r2 2 _ rfl
  have c23 : ∀ x : Later wb, _ = some (.int .i16 ee : Value) := Later.cell r2 3 _ rfl
  have c24 : ∀ x : Later wb, _ = some (.int .i64 pp : Value) := Later.cell r2 4 _ rfl
  have c25 : ∀ x : Later wb, _ = some (.int .i32 gg : Value) := Later.cell r2 5 _ rfl
  have R0 := hide r0
  have R1 := hide r1
  have R2 := hide r2
  clear r0 r1 r2
  have hne : Nonempty (Later wb) := ⟨x0⟩
  have hm' : ∀ y : Later wb, MX mb R L y.at_ := fun y => h.later (hB y)
  have hon : ∀ y : Later wb, On tb y.at_ := fun y => ho.later (hB y)
  obtain ⟨vo, kov, hov⟩ := h.out
  have ko : ∀ y : Later wb, y.at_.cell? ⟨mb, 8, none⟩ = some vo := fun y => ((hB y).cell (p := ⟨mb, 8, none⟩) h.own.1).trans kov
  have fo : ∀ y : Later wb, y.at_.frozen? ⟨mb, 8, none⟩ = false := fun y => (hm' y).own.2 8
  have hown : ∀ y : Later wb, OwnL y.at_ (mb + 1) vo L := fun y => hov.kept (hB y)
  have hsz : ∀ y : Later wb, mb + 1 ≤ y.at_.heap.size := fun y => (hm' y).own.1
  have kd' : ∀ y : Later wb, y.at_.cell? ⟨mb, di, none⟩ = some (.int .u64 (R di)) := fun y => ((hB y).cell (p := ⟨mb, di, none⟩) h.own.1).trans (h.reg di hdi8)
  have fd : ∀ y : Later wb, y.at_.frozen? ⟨mb, di, none⟩ = false := fun y => (hm' y).own.2 di
  have hml := h.own.1
  have HON := hide hon
  have HM := hide hm'
  clear hm' kov hov h ho hon
  go_enter Oaag.func255, Oaag.ntmps255
  go_wp2_with (first
    | (at_builtin; refine wpList_appL rfl _ _ rfl (hown y) rfl rfl (by rfl) (by omega) (hsz y) ?_; intro v1 w1 ho1 hb1; obtain ⟨p1, a1, l1, rfl⟩ := ho1.slice; have o1 : w1.cell? ⟨mb, 8, none⟩ = some vo := (hb1.cell (p := ⟨mb, 8, none⟩) (by simp)).trans (ko y); have g1 : w1.frozen? ⟨mb, 8, none⟩ = false := (hb1.frozen (p := ⟨mb, 8, none⟩) (by simp)).trans (fo y); have HO1 := hide ho1; have HB1 := hide hb1; clear ho1 hb1)
    | ((refine Go.Lax.region_reads _ (by kernel_rfl) (by kernel_rfl) ?_; (repeat (first | go_big_quiet_skip | (go_big_quiet_want; go_big_quiet_op; go_big_quiet_on))); refine wpQuiet_nil ?_); intro y))
  all_goals first
    | (refine bodyPost_box rfl ?_; intro r hr; simp [results, Oaag.results255, go_sem] at hr; subst hr; refine ⟨_, rfl, ?_⟩
       exact unhide HK _ ((unhide HM _).app (unhide HB1) (unhide HO1)) (below_store (((hB _).mono (by omega)).trans ((unhide HB1).mono (by omega))) (Nat.le_refl _) _))
    | fail

set_option maxHeartbeats 4000000 in
theorem settle_255_4 (E M : Nat) (hf : fok E M = true) (kd kD kA kB imm x : Int) (text : ByteArray) (nn : Bool) (dd : ByteArray) (ee pp gg : Int) (di : Nat) (hdi : bits .and .u8 kD 7 = (di : Int)) (hdi8 : di < 8) (R : Nat → Int) (L : List Value) (hn : L.length ≤ 1000) : SXs 255 E M kd kD kA kB imm x text (.agg #[.int .u8 4, .bool nn, .string dd, .int .i16 ee, .int .i64 pp, .int .i32 gg]) R L R (L ++ [.string ⟨#[116, 111, 111, 32, 98, 105, 103]⟩]) := by
  intro tb mb w K htb ho h hK
  obtain ⟨g1, g2, g3, g4⟩ := fok_bd hf
  have HK := hide hK
  clear hK
  obtain ⟨wb, x0, hwb, r0, r1, r2, hB, hZ⟩ := boxes3 w #[.int .u8 E, .int .u8 M] #[.int .u8 kd, .int .u8 kD, .int .u8 kA, .int .u8 kB, .int .u64 imm, .string text] #[.int .u8 4, .bool nn, .string dd, .int .i16 ee, .int .i64 pp, .int .i32 gg] 23 91 244
  have c00 : ∀ x : Later wb, _ = some (.int .u8 E : Value) := Later.cell r0 0 _ rfl
  have c01 : ∀ x : Later wb, _ = some (.int .u8 M : Value) := Later.cell r0 1 _ rfl
  have c10 : ∀ x : Later wb, _ = some (.int .u8 kd : Value) := Later.cell r1 0 _ rfl
  have c11 : ∀ x : Later wb, _ = some (.int .u8 kD : Value) := Later.cell r1 1 _ rfl
  have c12 : ∀ x : Later wb, _ = some (.int .u8 kA : Value) := Later.cell r1 2 _ rfl
  have c13 : ∀ x : Later wb, _ = some (.int .u8 kB : Value) := Later.cell r1 3 _ rfl
  have c14 : ∀ x : Later wb, _ = some (.int .u64 imm : Value) := Later.cell r1 4 _ rfl
  have c15 : ∀ x : Later wb, _ = some (.string text : Value) := Later.cell r1 5 _ rfl
  have c20 : ∀ x : Later wb, _ = some (.int .u8 4 : Value) := Later.cell r2 0 _ rfl
  have c21 : ∀ x : Later wb, _ = some (.bool nn : Value) := Later.cell r2 1 _ rfl
  have c22 : ∀ x : Later wb, _ = some (.string dd : Value) := Later.cell r2 2 _ rfl
  have c23 : ∀ x : Later wb, _ = some (.int .i16 ee : Value) := Later.cell r2 3 _ rfl
  have c24 : ∀ x : Later wb, _ = some (.int .i64 pp : Value) := Later.cell r2 4 _ rfl
  have c25 : ∀ x : Later wb, _ = some (.int .i32 gg : Value) := Later.cell r2 5 _ rfl
  have R0 := hide r0
  have R1 := hide r1
  have R2 := hide r2
  clear r0 r1 r2
  have hne : Nonempty (Later wb) := ⟨x0⟩
  have hm' : ∀ y : Later wb, MX mb R L y.at_ := fun y => h.later (hB y)
  have hon : ∀ y : Later wb, On tb y.at_ := fun y => ho.later (hB y)
  obtain ⟨vo, kov, hov⟩ := h.out
  have ko : ∀ y : Later wb, y.at_.cell? ⟨mb, 8, none⟩ = some vo := fun y => ((hB y).cell (p := ⟨mb, 8, none⟩) h.own.1).trans kov
  have fo : ∀ y : Later wb, y.at_.frozen? ⟨mb, 8, none⟩ = false := fun y => (hm' y).own.2 8
  have hown : ∀ y : Later wb, OwnL y.at_ (mb + 1) vo L := fun y => hov.kept (hB y)
  have hsz : ∀ y : Later wb, mb + 1 ≤ y.at_.heap.size := fun y => (hm' y).own.1
  have kd' : ∀ y : Later wb, y.at_.cell? ⟨mb, di, none⟩ = some (.int .u64 (R di)) := fun y => ((hB y).cell (p := ⟨mb, di, none⟩) h.own.1).trans (h.reg di hdi8)
  have fd : ∀ y : Later wb, y.at_.frozen? ⟨mb, di, none⟩ = false := fun y => (hm' y).own.2 di
  have hml := h.own.1
  have HON := hide hon
  have HM := hide hm'
  clear hm' kov hov h ho hon
  go_enter Oaag.func255, Oaag.ntmps255
  go_wp2_with (first
    | (at_builtin; refine wpList_appL rfl _ _ rfl (hown y) rfl rfl (by rfl) (by omega) (hsz y) ?_; intro v1 w1 ho1 hb1; obtain ⟨p1, a1, l1, rfl⟩ := ho1.slice; have o1 : w1.cell? ⟨mb, 8, none⟩ = some vo := (hb1.cell (p := ⟨mb, 8, none⟩) (by simp)).trans (ko y); have g1 : w1.frozen? ⟨mb, 8, none⟩ = false := (hb1.frozen (p := ⟨mb, 8, none⟩) (by simp)).trans (fo y); have HO1 := hide ho1; have HB1 := hide hb1; clear ho1 hb1)
    | ((refine Go.Lax.region_reads _ (by kernel_rfl) (by kernel_rfl) ?_; (repeat (first | go_big_quiet_skip | (go_big_quiet_want; go_big_quiet_op; go_big_quiet_on))); refine wpQuiet_nil ?_); intro y))
  all_goals first
    | (refine bodyPost_box rfl ?_; intro r hr; simp [results, Oaag.results255, go_sem] at hr; subst hr; refine ⟨_, rfl, ?_⟩
       exact unhide HK _ ((unhide HM _).app (unhide HB1) (unhide HO1)) (below_store (((hB _).mono (by omega)).trans ((unhide HB1).mono (by omega))) (Nat.le_refl _) _))
    | fail

set_option maxHeartbeats 4000000 in
theorem settle_291_0 (E M : Nat) (hf : fok E M = true) (kd kD kA kB imm x : Int) (text : ByteArray) (nn : Bool) (dd : ByteArray) (ee pp gg : Int) (di : Nat) (hdi : bits .and .u8 kD 7 = (di : Int)) (hdi8 : di < 8) (R : Nat → Int) (L : List Value) (hn : L.length ≤ 1000) : SXs 291 E M kd kD kA kB imm x text (.agg #[.int .u8 0, .bool nn, .string dd, .int .i16 ee, .int .i64 pp, .int .i32 gg]) R L (up R di x) L := by
  intro tb mb w K htb ho h hK
  obtain ⟨g1, g2, g3, g4⟩ := fok_bd hf
  have HK := hide hK
  clear hK
  obtain ⟨wb, x0, hwb, r0, r1, r2, hB, hZ⟩ := boxes3 w #[.int .u8 E, .int .u8 M] #[.int .u8 kd, .int .u8 kD, .int .u8 kA, .int .u8 kB, .int .u64 imm, .string text] #[.int .u8 0, .bool nn, .string dd, .int .i16 ee, .int .i64 pp, .int .i32 gg] 23 91 244
  have c00 : ∀ x : Later wb, _ = some (.int .u8 E : Value) := Later.cell r0 0 _ rfl
  have c01 : ∀ x : Later wb, _ = some (.int .u8 M : Value) := Later.cell r0 1 _ rfl
  have c10 : ∀ x : Later wb, _ = some (.int .u8 kd : Value) := Later.cell r1 0 _ rfl
  have c11 : ∀ x : Later wb, _ = some (.int .u8 kD : Value) := Later.cell r1 1 _ rfl
  have c12 : ∀ x : Later wb, _ = some (.int .u8 kA : Value) := Later.cell r1 2 _ rfl
  have c13 : ∀ x : Later wb, _ = some (.int .u8 kB : Value) := Later.cell r1 3 _ rfl
  have c14 : ∀ x : Later wb, _ = some (.int .u64 imm : Value) := Later.cell r1 4 _ rfl
  have c15 : ∀ x : Later wb, _ = some (.string text : Value) := Later.cell r1 5 _ rfl
  have c20 : ∀ x : Later wb, _ = some (.int .u8 0 : Value) := Later.cell r2 0 _ rfl
  have c21 : ∀ x : Later wb, _ = some (.bool nn : Value) := Later.cell r2 1 _ rfl
  have c22 : ∀ x : Later wb, _ = some (.string dd : Value) := Later.cell r2 2 _ rfl
  have c23 : ∀ x : Later wb, _ = some (.int .i16 ee : Value) := Later.cell r2 3 _ rfl
  have c24 : ∀ x : Later wb, _ = some (.int .i64 pp : Value) := Later.cell r2 4 _ rfl
  have c25 : ∀ x : Later wb, _ = some (.int .i32 gg : Value) := Later.cell r2 5 _ rfl
  have R0 := hide r0
  have R1 := hide r1
  have R2 := hide r2
  clear r0 r1 r2
  have hne : Nonempty (Later wb) := ⟨x0⟩
  have hm' : ∀ y : Later wb, MX mb R L y.at_ := fun y => h.later (hB y)
  have hon : ∀ y : Later wb, On tb y.at_ := fun y => ho.later (hB y)
  obtain ⟨vo, kov, hov⟩ := h.out
  have ko : ∀ y : Later wb, y.at_.cell? ⟨mb, 8, none⟩ = some vo := fun y => ((hB y).cell (p := ⟨mb, 8, none⟩) h.own.1).trans kov
  have fo : ∀ y : Later wb, y.at_.frozen? ⟨mb, 8, none⟩ = false := fun y => (hm' y).own.2 8
  have hown : ∀ y : Later wb, OwnL y.at_ (mb + 1) vo L := fun y => hov.kept (hB y)
  have hsz : ∀ y : Later wb, mb + 1 ≤ y.at_.heap.size := fun y => (hm' y).own.1
  have kd' : ∀ y : Later wb, y.at_.cell? ⟨mb, di, none⟩ = some (.int .u64 (R di)) := fun y => ((hB y).cell (p := ⟨mb, di, none⟩) h.own.1).trans (h.reg di hdi8)
  have fd : ∀ y : Later wb, y.at_.frozen? ⟨mb, di, none⟩ = false := fun y => (hm' y).own.2 di
  have hml := h.own.1
  have HON := hide hon
  have HM := hide hm'
  clear hm' kov hov h ho hon
  go_enter Oaag.func291, Oaag.ntmps291
  go_wp2_with (first
    | ((refine Go.Lax.region_reads _ (by kernel_rfl) (by kernel_rfl) ?_; (repeat (first | go_big_quiet_skip | (go_big_quiet_want; go_big_quiet_op; go_big_quiet_on))); refine wpQuiet_nil ?_); intro y))
  all_goals first
    | (refine bodyPost_box rfl ?_; intro r hr; simp [results, Oaag.results291, go_sem] at hr; subst hr; refine ⟨_, rfl, ?_⟩
       exact unhide HK _ ((unhide HM _).set di hdi8 _) (below_store ((hB _).mono (by omega)) (Nat.le_refl _) _))
    | fail

set_option maxHeartbeats 4000000 in
theorem settle_291_1 (E M : Nat) (hf : fok E M = true) (kd kD kA kB imm x : Int) (text : ByteArray) (nn : Bool) (dd : ByteArray) (ee pp gg : Int) (di : Nat) (hdi : bits .and .u8 kD 7 = (di : Int)) (hdi8 : di < 8) (R : Nat → Int) (L : List Value) (hn : L.length ≤ 1000) (r : Int) (hD : ∀ tb, DFT tb 85 #[fmt E M, .bool nn] (.int .u64 r)) : SXs 291 E M kd kD kA kB imm x text (.agg #[.int .u8 1, .bool nn, .string dd, .int .i16 ee, .int .i64 pp, .int .i32 gg]) R L (up R di r) L := by
  intro tb mb w K htb ho h hK
  obtain ⟨g1, g2, g3, g4⟩ := fok_bd hf
  have HK := hide hK
  clear hK
  obtain ⟨wb, x0, hwb, r0, r1, r2, hB, hZ⟩ := boxes3 w #[.int .u8 E, .int .u8 M] #[.int .u8 kd, .int .u8 kD, .int .u8 kA, .int .u8 kB, .int .u64 imm, .string text] #[.int .u8 1, .bool nn, .string dd, .int .i16 ee, .int .i64 pp, .int .i32 gg] 23 91 244
  have c00 : ∀ x : Later wb, _ = some (.int .u8 E : Value) := Later.cell r0 0 _ rfl
  have c01 : ∀ x : Later wb, _ = some (.int .u8 M : Value) := Later.cell r0 1 _ rfl
  have c10 : ∀ x : Later wb, _ = some (.int .u8 kd : Value) := Later.cell r1 0 _ rfl
  have c11 : ∀ x : Later wb, _ = some (.int .u8 kD : Value) := Later.cell r1 1 _ rfl
  have c12 : ∀ x : Later wb, _ = some (.int .u8 kA : Value) := Later.cell r1 2 _ rfl
  have c13 : ∀ x : Later wb, _ = some (.int .u8 kB : Value) := Later.cell r1 3 _ rfl
  have c14 : ∀ x : Later wb, _ = some (.int .u64 imm : Value) := Later.cell r1 4 _ rfl
  have c15 : ∀ x : Later wb, _ = some (.string text : Value) := Later.cell r1 5 _ rfl
  have c20 : ∀ x : Later wb, _ = some (.int .u8 1 : Value) := Later.cell r2 0 _ rfl
  have c21 : ∀ x : Later wb, _ = some (.bool nn : Value) := Later.cell r2 1 _ rfl
  have c22 : ∀ x : Later wb, _ = some (.string dd : Value) := Later.cell r2 2 _ rfl
  have c23 : ∀ x : Later wb, _ = some (.int .i16 ee : Value) := Later.cell r2 3 _ rfl
  have c24 : ∀ x : Later wb, _ = some (.int .i64 pp : Value) := Later.cell r2 4 _ rfl
  have c25 : ∀ x : Later wb, _ = some (.int .i32 gg : Value) := Later.cell r2 5 _ rfl
  have R0 := hide r0
  have R1 := hide r1
  have R2 := hide r2
  clear r0 r1 r2
  have hne : Nonempty (Later wb) := ⟨x0⟩
  have hm' : ∀ y : Later wb, MX mb R L y.at_ := fun y => h.later (hB y)
  have hon : ∀ y : Later wb, On tb y.at_ := fun y => ho.later (hB y)
  obtain ⟨vo, kov, hov⟩ := h.out
  have ko : ∀ y : Later wb, y.at_.cell? ⟨mb, 8, none⟩ = some vo := fun y => ((hB y).cell (p := ⟨mb, 8, none⟩) h.own.1).trans kov
  have fo : ∀ y : Later wb, y.at_.frozen? ⟨mb, 8, none⟩ = false := fun y => (hm' y).own.2 8
  have hown : ∀ y : Later wb, OwnL y.at_ (mb + 1) vo L := fun y => hov.kept (hB y)
  have hsz : ∀ y : Later wb, mb + 1 ≤ y.at_.heap.size := fun y => (hm' y).own.1
  have kd' : ∀ y : Later wb, y.at_.cell? ⟨mb, di, none⟩ = some (.int .u64 (R di)) := fun y => ((hB y).cell (p := ⟨mb, di, none⟩) h.own.1).trans (h.reg di hdi8)
  have fd : ∀ y : Later wb, y.at_.frozen? ⟨mb, di, none⟩ = false := fun y => (hm' y).own.2 di
  have hml := h.own.1
  have HON := hide hon
  have HM := hide hm'
  have HDD := hide (hD tb)
  clear hD
  clear hm' kov hov h ho hon
  go_enter Oaag.func291, Oaag.ntmps291
  go_wp2_with (first
    | ((with_reducible refine at_later 85 ?_); refine DFT.run (unhide HDD) (unhide HON) _ ?_; intro y__)
    | ((refine Go.Lax.region_reads _ (by kernel_rfl) (by kernel_rfl) ?_; (repeat (first | go_big_quiet_skip | (go_big_quiet_want; go_big_quiet_op; go_big_quiet_on))); refine wpQuiet_nil ?_); intro y))
  all_goals first
    | (refine bodyPost_box rfl ?_; intro r hr; simp [results, Oaag.results291, go_sem] at hr; subst hr; refine ⟨_, rfl, ?_⟩
       exact unhide HK _ ((unhide HM _).set di hdi8 _) (below_store ((hB _).mono (by omega)) (Nat.le_refl _) _))
    | fail

set_option maxHeartbeats 4000000 in
theorem settle_291_2 (E M : Nat) (hf : fok E M = true) (kd kD kA kB imm x : Int) (text : ByteArray) (nn : Bool) (dd : ByteArray) (ee pp gg : Int) (di : Nat) (hdi : bits .and .u8 kD 7 = (di : Int)) (hdi8 : di < 8) (R : Nat → Int) (L : List Value) (hn : L.length ≤ 1000) (r : Int) (hD : ∀ tb, DFT tb 45 #[fmt E M] (.int .u64 r)) : SXs 291 E M kd kD kA kB imm x text (.agg #[.int .u8 2, .bool nn, .string dd, .int .i16 ee, .int .i64 pp, .int .i32 gg]) R L (up R di r) L := by
  intro tb mb w K htb ho h hK
  obtain ⟨g1, g2, g3, g4⟩ := fok_bd hf
  have HK := hide hK
  clear hK
  obtain ⟨wb, x0, hwb, r0, r1, r2, hB, hZ⟩ := boxes3 w #[.int .u8 E, .int .u8 M] #[.int .u8 kd, .int .u8 kD, .int .u8 kA, .int .u8 kB, .int .u64 imm, .string text] #[.int .u8 2, .bool nn, .string dd, .int .i16 ee, .int .i64 pp, .int .i32 gg] 23 91 244
  have c00 : ∀ x : Later wb, _ = some (.int .u8 E : Value) := Later.cell r0 0 _ rfl
  have c01 : ∀ x : Later wb, _ = some (.int .u8 M : Value) := Later.cell r0 1 _ rfl
  have c10 : ∀ x : Later wb, _ = some (.int .u8 kd : Value) := Later.cell r1 0 _ rfl
  have c11 : ∀ x : Later wb, _ = some (.int .u8 kD : Value) := Later.cell r1 1 _ rfl
  have c12 : ∀ x : Later wb, _ = some (.int .u8 kA : Value) := Later.cell r1 2 _ rfl
  have c13 : ∀ x : Later wb, _ = some (.int .u8 kB : Value) := Later.cell r1 3 _ rfl
  have c14 : ∀ x : Later wb, _ = some (.int .u64 imm : Value) := Later.cell r1 4 _ rfl
  have c15 : ∀ x : Later wb, _ = some (.string text : Value) := Later.cell r1 5 _ rfl
  have c20 : ∀ x : Later wb, _ = some (.int .u8 2 : Value) := Later.cell r2 0 _ rfl
  have c21 : ∀ x : Later wb, _ = some (.bool nn : Value) := Later.cell r2 1 _ rfl
  have c22 : ∀ x : Later wb, _ = some (.string dd : Value) := Later.cell r2 2 _ rfl
  have c23 : ∀ x : Later wb, _ = some (.int .i16 ee : Value) := Later.cell r2 3 _ rfl
  have c24 : ∀ x : Later wb, _ = some (.int .i64 pp : Value) := Later.cell r2 4 _ rfl
  have c25 : ∀ x : Later wb, _ = some (.int .i32 gg : Value) := Later.cell r2 5 _ rfl
  have R0 := hide r0
  have R1 := hide r1
  have R2 := hide r2
  clear r0 r1 r2
  have hne : Nonempty (Later wb) := ⟨x0⟩
  have hm' : ∀ y : Later wb, MX mb R L y.at_ := fun y => h.later (hB y)
  have hon : ∀ y : Later wb, On tb y.at_ := fun y => ho.later (hB y)
  obtain ⟨vo, kov, hov⟩ := h.out
  have ko : ∀ y : Later wb, y.at_.cell? ⟨mb, 8, none⟩ = some vo := fun y => ((hB y).cell (p := ⟨mb, 8, none⟩) h.own.1).trans kov
  have fo : ∀ y : Later wb, y.at_.frozen? ⟨mb, 8, none⟩ = false := fun y => (hm' y).own.2 8
  have hown : ∀ y : Later wb, OwnL y.at_ (mb + 1) vo L := fun y => hov.kept (hB y)
  have hsz : ∀ y : Later wb, mb + 1 ≤ y.at_.heap.size := fun y => (hm' y).own.1
  have kd' : ∀ y : Later wb, y.at_.cell? ⟨mb, di, none⟩ = some (.int .u64 (R di)) := fun y => ((hB y).cell (p := ⟨mb, di, none⟩) h.own.1).trans (h.reg di hdi8)
  have fd : ∀ y : Later wb, y.at_.frozen? ⟨mb, di, none⟩ = false := fun y => (hm' y).own.2 di
  have hml := h.own.1
  have HON := hide hon
  have HM := hide hm'
  have HDD := hide (hD tb)
  clear hD
  clear hm' kov hov h ho hon
  go_enter Oaag.func291, Oaag.ntmps291
  go_wp2_with (first
    | ((with_reducible refine at_later 45 ?_); refine DFT.run (unhide HDD) (unhide HON) _ ?_; intro y__)
    | ((refine Go.Lax.region_reads _ (by kernel_rfl) (by kernel_rfl) ?_; (repeat (first | go_big_quiet_skip | (go_big_quiet_want; go_big_quiet_op; go_big_quiet_on))); refine wpQuiet_nil ?_); intro y))
  all_goals first
    | (refine bodyPost_box rfl ?_; intro r hr; simp [results, Oaag.results291, go_sem] at hr; subst hr; refine ⟨_, rfl, ?_⟩
       exact unhide HK _ ((unhide HM _).set di hdi8 _) (below_store ((hB _).mono (by omega)) (Nat.le_refl _) _))
    | fail

set_option maxHeartbeats 4000000 in
theorem settle_291_3 (E M : Nat) (hf : fok E M = true) (kd kD kA kB imm x : Int) (text : ByteArray) (nn : Bool) (dd : ByteArray) (ee pp gg : Int) (di : Nat) (hdi : bits .and .u8 kD 7 = (di : Int)) (hdi8 : di < 8) (R : Nat → Int) (L : List Value) (hn : L.length ≤ 1000) : SXs 291 E M kd kD kA kB imm x text (.agg #[.int .u8 3, .bool nn, .string dd, .int .i16 ee, .int .i64 pp, .int .i32 gg]) R L R (L ++ [.string ⟨#[119, 114, 111, 110, 103]⟩]) := by
  intro tb mb w K htb ho h hK
  obtain ⟨g1, g2, g3, g4⟩ := fok_bd hf
  have HK := hide hK
  clear hK
  obtain ⟨wb, x0, hwb, r0, r1, r2, hB, hZ⟩ := boxes3 w #[.int .u8 E, .int .u8 M] #[.int .u8 kd, .int .u8 kD, .int .u8 kA, .int .u8 kB, .int .u64 imm, .string text] #[.int .u8 3, .bool nn, .string dd, .int .i16 ee, .int .i64 pp, .int .i32 gg] 23 91 244
  have c00 : ∀ x : Later wb, _ = some (.int .u8 E : Value) := Later.cell r0 0 _ rfl
  have c01 : ∀ x : Later wb, _ = some (.int .u8 M : Value) := Later.cell r0 1 _ rfl
  have c10 : ∀ x : Later wb, _ = some (.int .u8 kd : Value) := Later.cell r1 0 _ rfl
  have c11 : ∀ x : Later wb, _ = some (.int .u8 kD : Value) := Later.cell r1 1 _ rfl
  have c12 : ∀ x : Later wb, _ = some (.int .u8 kA : Value) := Later.cell r1 2 _ rfl
  have c13 : ∀ x : Later wb, _ = some (.int .u8 kB : Value) := Later.cell r1 3 _ rfl
  have c14 : ∀ x : Later wb, _ = some (.int .u64 imm : Value) := Later.cell r1 4 _ rfl
  have c15 : ∀ x : Later wb, _ = some (.string text : Value) := Later.cell r1 5 _ rfl
  have c20 : ∀ x : Later wb, _ = some (.int .u8 3 : Value) := Later.cell r2 0 _ rfl
  have c21 : ∀ x : Later wb, _ = some (.bool nn : Value) := Later.cell r2 1 _ rfl
  have c22 : ∀ x : Later wb, _ = some (.string dd : Value) := Later.cell r2 2 _ rfl
  have c23 : ∀ x : Later wb, _ = some (.int .i16 ee : Value) := Later.cell r2 3 _ rfl
  have c24 : ∀ x : Later wb, _ = some (.int .i64 pp : Value) := Later.cell r2 4 _ rfl
  have c25 : ∀ x : Later wb, _ = some (.int .i32 gg : Value) := Later.cell r2 5 _ rfl
  have R0 := hide r0
  have R1 := hide r1
  have R2 := hide r2
  clear r0 r1 r2
  have hne : Nonempty (Later wb) := ⟨x0⟩
  have hm' : ∀ y : Later wb, MX mb R L y.at_ := fun y => h.later (hB y)
  have hon : ∀ y : Later wb, On tb y.at_ := fun y => ho.later (hB y)
  obtain ⟨vo, kov, hov⟩ := h.out
  have ko : ∀ y : Later wb, y.at_.cell? ⟨mb, 8, none⟩ = some vo := fun y => ((hB y).cell (p := ⟨mb, 8, none⟩) h.own.1).trans kov
  have fo : ∀ y : Later wb, y.at_.frozen? ⟨mb, 8, none⟩ = false := fun y => (hm' y).own.2 8
  have hown : ∀ y : Later wb, OwnL y.at_ (mb + 1) vo L := fun y => hov.kept (hB y)
  have hsz : ∀ y : Later wb, mb + 1 ≤ y.at_.heap.size := fun y => (hm' y).own.1
  have kd' : ∀ y : Later wb, y.at_.cell? ⟨mb, di, none⟩ = some (.int .u64 (R di)) := fun y => ((hB y).cell (p := ⟨mb, di, none⟩) h.own.1).trans (h.reg di hdi8)
  have fd : ∀ y : Later wb, y.at_.frozen? ⟨mb, di, none⟩ = false := fun y => (hm' y).own.2 di
  have hml := h.own.1
  have HON := hide hon
  have HM := hide hm'
  clear hm' kov hov h ho hon
  go_enter Oaag.func291, Oaag.ntmps291
  go_wp2_with (first
    | (at_builtin; refine wpList_appL rfl _ _ rfl (hown y) rfl rfl (by rfl) (by omega) (hsz y) ?_; intro v1 w1 ho1 hb1; obtain ⟨p1, a1, l1, rfl⟩ := ho1.slice; have o1 : w1.cell? ⟨mb, 8, none⟩ = some vo := (hb1.cell (p := ⟨mb, 8, none⟩) (by simp)).trans (ko y); have g1 : w1.frozen? ⟨mb, 8, none⟩ = false := (hb1.frozen (p := ⟨mb, 8, none⟩) (by simp)).trans (fo y); have HO1 := hide ho1; have HB1 := hide hb1; clear ho1 hb1)
    | ((refine Go.Lax.region_reads _ (by kernel_rfl) (by kernel_rfl) ?_; (repeat (first | go_big_quiet_skip | (go_big_quiet_want; go_big_quiet_op; go_big_quiet_on))); refine wpQuiet_nil ?_); intro y))
  all_goals first
    | (refine bodyPost_box rfl ?_; intro r hr; simp [results, Oaag.results291, go_sem] at hr; subst hr; refine ⟨_, rfl, ?_⟩
       exact unhide HK _ ((unhide HM _).app (unhide HB1) (unhide HO1)) (below_store (((hB _).mono (by omega)).trans ((unhide HB1).mono (by omega))) (Nat.le_refl _) _))
    | fail

set_option maxHeartbeats 4000000 in
theorem settle_291_4 (E M : Nat) (hf : fok E M = true) (kd kD kA kB imm x : Int) (text : ByteArray) (nn : Bool) (dd : ByteArray) (ee pp gg : Int) (di : Nat) (hdi : bits .and .u8 kD 7 = (di : Int)) (hdi8 : di < 8) (R : Nat → Int) (L : List Value) (hn : L.length ≤ 1000) : SXs 291 E M kd kD kA kB imm x text (.agg #[.int .u8 4, .bool nn, .string dd, .int .i16 ee, .int .i64 pp, .int .i32 gg]) R L R (L ++ [.string ⟨#[116, 111, 111, 32, 98, 105, 103]⟩]) := by
  intro tb mb w K htb ho h hK
  obtain ⟨g1, g2, g3, g4⟩ := fok_bd hf
  have HK := hide hK
  clear hK
  obtain ⟨wb, x0, hwb, r0, r1, r2, hB, hZ⟩ := boxes3 w #[.int .u8 E, .int .u8 M] #[.int .u8 kd, .int .u8 kD, .int .u8 kA, .int .u8 kB, .int .u64 imm, .string text] #[.int .u8 4, .bool nn, .string dd, .int .i16 ee, .int .i64 pp, .int .i32 gg] 23 91 244
  have c00 : ∀ x : Later wb, _ = some (.int .u8 E : Value) := Later.cell r0 0 _ rfl
  have c01 : ∀ x : Later wb, _ = some (.int .u8 M : Value) := Later.cell r0 1 _ rfl
  have c10 : ∀ x : Later wb, _ = some (.int .u8 kd : Value) := Later.cell r1 0 _ rfl
  have c11 : ∀ x : Later wb, _ = some (.int .u8 kD : Value) := Later.cell r1 1 _ rfl
  have c12 : ∀ x : Later wb, _ = some (.int .u8 kA : Value) := Later.cell r1 2 _ rfl
  have c13 : ∀ x : Later wb, _ = some (.int .u8 kB : Value) := Later.cell r1 3 _ rfl
  have c14 : ∀ x : Later wb, _ = some (.int .u64 imm : Value) := Later.cell r1 4 _ rfl
  have c15 : ∀ x : Later wb, _ = some (.string text : Value) := Later.cell r1 5 _ rfl
  have c20 : ∀ x : Later wb, _ = some (.int .u8 4 : Value) := Later.cell r2 0 _ rfl
  have c21 : ∀ x : Later wb, _ = some (.bool nn : Value) := Later.cell r2 1 _ rfl
  have c22 : ∀ x : Later wb, _ = some (.string dd : Value) := Later.cell r2 2 _ rfl
  have c23 : ∀ x : Later wb, _ = some (.int .i16 ee : Value) := Later.cell r2 3 _ rfl
  have c24 : ∀ x : Later wb, _ = some (.int .i64 pp : Value) := Later.cell r2 4 _ rfl
  have c25 : ∀ x : Later wb, _ = some (.int .i32 gg : Value) := Later.cell r2 5 _ rfl
  have R0 := hide r0
  have R1 := hide r1
  have R2 := hide r2
  clear r0 r1 r2
  have hne : Nonempty (Later wb) := ⟨x0⟩
  have hm' : ∀ y : Later wb, MX mb R L y.at_ := fun y => h.later (hB y)
  have hon : ∀ y : Later wb, On tb y.at_ := fun y => ho.later (hB y)
  obtain ⟨vo, kov, hov⟩ := h.out
  have ko : ∀ y : Later wb, y.at_.cell? ⟨mb, 8, none⟩ = some vo := fun y => ((hB y).cell (p := ⟨mb, 8, none⟩) h.own.1).trans kov
  have fo : ∀ y : Later wb, y.at_.frozen? ⟨mb, 8, none⟩ = false := fun y => (hm' y).own.2 8
  have hown : ∀ y : Later wb, OwnL y.at_ (mb + 1) vo L := fun y => hov.kept (hB y)
  have hsz : ∀ y : Later wb, mb + 1 ≤ y.at_.heap.size := fun y => (hm' y).own.1
  have kd' : ∀ y : Later wb, y.at_.cell? ⟨mb, di, none⟩ = some (.int .u64 (R di)) := fun y => ((hB y).cell (p := ⟨mb, di, none⟩) h.own.1).trans (h.reg di hdi8)
  have fd : ∀ y : Later wb, y.at_.frozen? ⟨mb, di, none⟩ = false := fun y => (hm' y).own.2 di
  have hml := h.own.1
  have HON := hide hon
  have HM := hide hm'
  clear hm' kov hov h ho hon
  go_enter Oaag.func291, Oaag.ntmps291
  go_wp2_with (first
    | (at_builtin; refine wpList_appL rfl _ _ rfl (hown y) rfl rfl (by rfl) (by omega) (hsz y) ?_; intro v1 w1 ho1 hb1; obtain ⟨p1, a1, l1, rfl⟩ := ho1.slice; have o1 : w1.cell? ⟨mb, 8, none⟩ = some vo := (hb1.cell (p := ⟨mb, 8, none⟩) (by simp)).trans (ko y); have g1 : w1.frozen? ⟨mb, 8, none⟩ = false := (hb1.frozen (p := ⟨mb, 8, none⟩) (by simp)).trans (fo y); have HO1 := hide ho1; have HB1 := hide hb1; clear ho1 hb1)
    | ((refine Go.Lax.region_reads _ (by kernel_rfl) (by kernel_rfl) ?_; (repeat (first | go_big_quiet_skip | (go_big_quiet_want; go_big_quiet_op; go_big_quiet_on))); refine wpQuiet_nil ?_); intro y))
  all_goals first
    | (refine bodyPost_box rfl ?_; intro r hr; simp [results, Oaag.results291, go_sem] at hr; subst hr; refine ⟨_, rfl, ?_⟩
       exact unhide HK _ ((unhide HM _).app (unhide HB1) (unhide HO1)) (below_store (((hB _).mono (by omega)).trans ((unhide HB1).mono (by omega))) (Nat.le_refl _) _))
    | fail
end Go.Proofs.YgcoaaGreat.NatW
