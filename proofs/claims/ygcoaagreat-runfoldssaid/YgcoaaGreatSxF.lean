/-
  more, exactly: the kinds that set a register by one call.
-/
import Derived.Test.YgcoaaGreatMxB
set_option linter.unusedVariables false
set_option linter.unusedSimpArgs false
set_option maxRecDepth 20000
namespace Go.Proofs.YgcoaaGreat.NatW
open Go.RowKit
open Go.Proofs.YgcoaaGreat.Det
open Go.Proofs.YgcoaaGreat.Limbs Go.Proofs.YgcoaaGreat.Bits
attribute [local go_sem] Go.Instr.field Go.asAgg

set_option maxHeartbeats 4000000 in
theorem sx_133_16 (E M : Nat) (hf : fok E M = true) (md kD kA kB imm : Int) (text : ByteArray) (di ai bi : Nat) (hdi : bits .and .u8 kD 7 = (di : Int)) (hdi8 : di < 8) (hai : bits .and .u8 kA 7 = (ai : Int)) (hai8 : ai < 8) (hbi : bits .and .u8 kB 7 = (bi : Int)) (hbi8 : bi < 8) (R : Nat → Int) (L : List Value) (r : Int)
    (hD : ∀ tb, DFT tb 231 #[fmt E M, .int .u64 (R ai), .int .u64 (R bi)] (.int .u64 r)) : SXm 133 E M md 16 kD kA kB imm text R L (up R di r) L := by
  intro tb mb w K htb ho h hK
  obtain ⟨g1, g2, g3, g4⟩ := fok_bd hf
  have HK := hide hK
  clear hK
  obtain ⟨wb, x0, hwb, r0, r1, hB, hZ⟩ := boxes2 w #[.int .u8 E, .int .u8 M] #[.int .u8 16, .int .u8 kD, .int .u8 kA, .int .u8 kB, .int .u64 imm, .string text] 23 91
  have c00 : ∀ x : Later wb, _ = some (.int .u8 E : Value) := Later.cell r0 0 _ rfl
  have c01 : ∀ x : Later wb, _ = some (.int .u8 M : Value) := Later.cell r0 1 _ rfl
  have c10 : ∀ x : Later wb, _ = some (.int .u8 16 : Value) := Later.cell r1 0 _ rfl
  have c11 : ∀ x : Later wb, _ = some (.int .u8 kD : Value) := Later.cell r1 1 _ rfl
  have c12 : ∀ x : Later wb, _ = some (.int .u8 kA : Value) := Later.cell r1 2 _ rfl
  have c13 : ∀ x : Later wb, _ = some (.int .u8 kB : Value) := Later.cell r1 3 _ rfl
  have c14 : ∀ x : Later wb, _ = some (.int .u64 imm : Value) := Later.cell r1 4 _ rfl
  have c15 : ∀ x : Later wb, _ = some (.string text : Value) := Later.cell r1 5 _ rfl
  have R0 := hide r0
  have R1 := hide r1
  clear r0 r1
  have hne : Nonempty (Later wb) := ⟨x0⟩
  have hm' : ∀ y : Later wb, MX mb R L y.at_ := fun y => h.later (hB y)
  have hon : ∀ y : Later wb, On tb y.at_ := fun y => ho.later (hB y)
  have kd : ∀ y : Later wb, y.at_.cell? ⟨mb, di, none⟩ = some (.int .u64 (R di)) := fun y => ((hB y).cell (p := ⟨mb, di, none⟩) h.own.1).trans (h.reg di hdi8)
  have ka : ∀ y : Later wb, y.at_.cell? ⟨mb, ai, none⟩ = some (.int .u64 (R ai)) := fun y => ((hB y).cell (p := ⟨mb, ai, none⟩) h.own.1).trans (h.reg ai hai8)
  have kb : ∀ y : Later wb, y.at_.cell? ⟨mb, bi, none⟩ = some (.int .u64 (R bi)) := fun y => ((hB y).cell (p := ⟨mb, bi, none⟩) h.own.1).trans (h.reg bi hbi8)
  have fd : ∀ y : Later wb, y.at_.frozen? ⟨mb, di, none⟩ = false := fun y => (hm' y).own.2 di
  have hml := h.own.1
  have HON := hide hon
  have HDD := hide (hD tb)
  have HM := hide hm'
  clear h ho hon hD hm'
  go_enter Oaag.func133, Oaag.ntmps133
  go_wp2_with (first
    | ((with_reducible refine at_reg 1 ?_); (refine Go.Lax.region_reads _ (by kernel_rfl) (by kernel_rfl) ?_; (repeat (first | go_big_quiet_skip | (go_big_quiet_want; go_big_quiet_op; go_big_quiet_on))); refine wpQuiet_nil ?_); intro y)
    | ((with_reducible refine at_later 231 ?_); refine DFT.run (unhide HDD) (unhide HON) _ ?_; intro y__))
  all_goals first
    | (refine bodyPost_box rfl ?_; intro r hr; simp [results, Oaag.results133, go_sem] at hr; subst hr; refine ⟨_, rfl, ?_⟩
       exact unhide HK _ ((unhide HM _).set di hdi8 _) (below_store ((hB _).mono (by omega)) (Nat.le_refl _) _))
    | fail

set_option maxHeartbeats 4000000 in
theorem sx_133_17 (E M : Nat) (hf : fok E M = true) (md kD kA kB imm : Int) (text : ByteArray) (di ai bi : Nat) (hdi : bits .and .u8 kD 7 = (di : Int)) (hdi8 : di < 8) (hai : bits .and .u8 kA 7 = (ai : Int)) (hai8 : ai < 8) (hbi : bits .and .u8 kB 7 = (bi : Int)) (hbi8 : bi < 8) (R : Nat → Int) (L : List Value) (r : Int)
    (hD : ∀ tb, DFT tb 232 #[fmt E M, .int .u8 (IntKind.u8.wrap imm), .int .u64 (R ai)] (.int .u64 r)) : SXm 133 E M md 17 kD kA kB imm text R L (up R di r) L := by
  intro tb mb w K htb ho h hK
  obtain ⟨g1, g2, g3, g4⟩ := fok_bd hf
  have HK := hide hK
  clear hK
  obtain ⟨wb, x0, hwb, r0, r1, hB, hZ⟩ := boxes2 w #[.int .u8 E, .int .u8 M] #[.int .u8 17, .int .u8 kD, .int .u8 kA, .int .u8 kB, .int .u64 imm, .string text] 23 91
  have c00 : ∀ x : Later wb, _ = some (.int .u8 E : Value) := Later.cell r0 0 _ rfl
  have c01 : ∀ x : Later wb, _ = some (.int .u8 M : Value) := Later.cell r0 1 _ rfl
  have c10 : ∀ x : Later wb, _ = some (.int .u8 17 : Value) := Later.cell r1 0 _ rfl
  have c11 : ∀ x : Later wb, _ = some (.int .u8 kD : Value) := Later.cell r1 1 _ rfl
  have c12 : ∀ x : Later wb, _ = some (.int .u8 kA : Value) := Later.cell r1 2 _ rfl
  have c13 : ∀ x : Later wb, _ = some (.int .u8 kB : Value) := Later.cell r1 3 _ rfl
  have c14 : ∀ x : Later wb, _ = some (.int .u64 imm : Value) := Later.cell r1 4 _ rfl
  have c15 : ∀ x : Later wb, _ = some (.string text : Value) := Later.cell r1 5 _ rfl
  have R0 := hide r0
  have R1 := hide r1
  clear r0 r1
  have hne : Nonempty (Later wb) := ⟨x0⟩
  have hm' : ∀ y : Later wb, MX mb R L y.at_ := fun y => h.later (hB y)
  have hon : ∀ y : Later wb, On tb y.at_ := fun y => ho.later (hB y)
  have kd : ∀ y : Later wb, y.at_.cell? ⟨mb, di, none⟩ = some (.int .u64 (R di)) := fun y => ((hB y).cell (p := ⟨mb, di, none⟩) h.own.1).trans (h.reg di hdi8)
  have ka : ∀ y : Later wb, y.at_.cell? ⟨mb, ai, none⟩ = some (.int .u64 (R ai)) := fun y => ((hB y).cell (p := ⟨mb, ai, none⟩) h.own.1).trans (h.reg ai hai8)
  have kb : ∀ y : Later wb, y.at_.cell? ⟨mb, bi, none⟩ = some (.int .u64 (R bi)) := fun y => ((hB y).cell (p := ⟨mb, bi, none⟩) h.own.1).trans (h.reg bi hbi8)
  have fd : ∀ y : Later wb, y.at_.frozen? ⟨mb, di, none⟩ = false := fun y => (hm' y).own.2 di
  have hml := h.own.1
  have HON := hide hon
  have HDD := hide (hD tb)
  have HM := hide hm'
  clear h ho hon hD hm'
  go_enter Oaag.func133, Oaag.ntmps133
  go_wp2_with (first
    | ((with_reducible refine at_reg 1 ?_); (refine Go.Lax.region_reads _ (by kernel_rfl) (by kernel_rfl) ?_; (repeat (first | go_big_quiet_skip | (go_big_quiet_want; go_big_quiet_op; go_big_quiet_on))); refine wpQuiet_nil ?_); intro y)
    | ((with_reducible refine at_later 232 ?_); refine DFT.run (unhide HDD) (unhide HON) _ ?_; intro y__))
  all_goals first
    | (refine bodyPost_box rfl ?_; intro r hr; simp [results, Oaag.results133, go_sem] at hr; subst hr; refine ⟨_, rfl, ?_⟩
       exact unhide HK _ ((unhide HM _).set di hdi8 _) (below_store ((hB _).mono (by omega)) (Nat.le_refl _) _))
    | fail

set_option maxHeartbeats 4000000 in
theorem sx_133_18 (E M : Nat) (hf : fok E M = true) (md kD kA kB imm : Int) (text : ByteArray) (di ai bi : Nat) (hdi : bits .and .u8 kD 7 = (di : Int)) (hdi8 : di < 8) (hai : bits .and .u8 kA 7 = (ai : Int)) (hai8 : ai < 8) (hbi : bits .and .u8 kB 7 = (bi : Int)) (hbi8 : bi < 8) (R : Nat → Int) (L : List Value) (r : Int)
    (hD : ∀ tb, DFT tb 233 #[fmt E M, .int .u64 (R ai), .int .u64 (R bi)] (.int .u64 r)) : SXm 133 E M md 18 kD kA kB imm text R L (up R di r) L := by
  intro tb mb w K htb ho h hK
  obtain ⟨g1, g2, g3, g4⟩ := fok_bd hf
  have HK := hide hK
  clear hK
  obtain ⟨wb, x0, hwb, r0, r1, hB, hZ⟩ := boxes2 w #[.int .u8 E, .int .u8 M] #[.int .u8 18, .int .u8 kD, .int .u8 kA, .int .u8 kB, .int .u64 imm, .string text] 23 91
  have c00 : ∀ x : Later wb, _ = some (.int .u8 E : Value) := Later.cell r0 0 _ rfl
  have c01 : ∀ x : Later wb, _ = some (.int .u8 M : Value) := Later.cell r0 1 _ rfl
  have c10 : ∀ x : Later wb, _ = some (.int .u8 18 : Value) := Later.cell r1 0 _ rfl
  have c11 : ∀ x : Later wb, _ = some (.int .u8 kD : Value) := Later.cell r1 1 _ rfl
  have c12 : ∀ x : Later wb, _ = some (.int .u8 kA : Value) := Later.cell r1 2 _ rfl
  have c13 : ∀ x : Later wb, _ = some (.int .u8 kB : Value) := Later.cell r1 3 _ rfl
  have c14 : ∀ x : Later wb, _ = some (.int .u64 imm : Value) := Later.cell r1 4 _ rfl
  have c15 : ∀ x : Later wb, _ = some (.string text : Value) := Later.cell r1 5 _ rfl
  have R0 := hide r0
  have R1 := hide r1
  clear r0 r1
  have hne : Nonempty (Later wb) := ⟨x0⟩
  have hm' : ∀ y : Later wb, MX mb R L y.at_ := fun y => h.later (hB y)
  have hon : ∀ y : Later wb, On tb y.at_ := fun y => ho.later (hB y)
  have kd : ∀ y : Later wb, y.at_.cell? ⟨mb, di, none⟩ = some (.int .u64 (R di)) := fun y => ((hB y).cell (p := ⟨mb, di, none⟩) h.own.1).trans (h.reg di hdi8)
  have ka : ∀ y : Later wb, y.at_.cell? ⟨mb, ai, none⟩ = some (.int .u64 (R ai)) := fun y => ((hB y).cell (p := ⟨mb, ai, none⟩) h.own.1).trans (h.reg ai hai8)
  have kb : ∀ y : Later wb, y.at_.cell? ⟨mb, bi, none⟩ = some (.int .u64 (R bi)) := fun y => ((hB y).cell (p := ⟨mb, bi, none⟩) h.own.1).trans (h.reg bi hbi8)
  have fd : ∀ y : Later wb, y.at_.frozen? ⟨mb, di, none⟩ = false := fun y => (hm' y).own.2 di
  have hml := h.own.1
  have HON := hide hon
  have HDD := hide (hD tb)
  have HM := hide hm'
  clear h ho hon hD hm'
  go_enter Oaag.func133, Oaag.ntmps133
  go_wp2_with (first
    | ((with_reducible refine at_reg 1 ?_); (refine Go.Lax.region_reads _ (by kernel_rfl) (by kernel_rfl) ?_; (repeat (first | go_big_quiet_skip | (go_big_quiet_want; go_big_quiet_op; go_big_quiet_on))); refine wpQuiet_nil ?_); intro y)
    | ((with_reducible refine at_later 233 ?_); refine DFT.run (unhide HDD) (unhide HON) _ ?_; intro y__))
  all_goals first
    | (refine bodyPost_box rfl ?_; intro r hr; simp [results, Oaag.results133, go_sem] at hr; subst hr; refine ⟨_, rfl, ?_⟩
       exact unhide HK _ ((unhide HM _).set di hdi8 _) (below_store ((hB _).mono (by omega)) (Nat.le_refl _) _))
    | fail

set_option maxHeartbeats 4000000 in
theorem sx_133_19 (E M : Nat) (hf : fok E M = true) (md kD kA kB imm : Int) (text : ByteArray) (di ai bi : Nat) (hdi : bits .and .u8 kD 7 = (di : Int)) (hdi8 : di < 8) (hai : bits .and .u8 kA 7 = (ai : Int)) (hai8 : ai < 8) (hbi : bits .and .u8 kB 7 = (bi : Int)) (hbi8 : bi < 8) (R : Nat → Int) (L : List Value) (r : Int)
    (hD : ∀ tb, DFT tb 234 #[fmt E M, .int .u64 (R ai), .int .u64 (R bi)] (.int .u64 r)) : SXm 133 E M md 19 kD kA kB imm text R L (up R di r) L := by
  intro tb mb w K htb ho h hK
  obtain ⟨g1, g2, g3, g4⟩ := fok_bd hf
  have HK := hide hK
  clear hK
  obtain ⟨wb, x0, hwb, r0, r1, hB, hZ⟩ := boxes2 w #[.int .u8 E, .int .u8 M] #[.int .u8 19, .int .u8 kD, .int .u8 kA, .int .u8 kB, .int .u64 imm, .string text] 23 91
  have c00 : ∀ x : Later wb, _ = some (.int .u8 E : Value) := Later.cell r0 0 _ rfl
  have c01 : ∀ x : Later wb, _ = some (.int .u8 M : Value) := Later.cell r0 1 _ rfl
  have c10 : ∀ x : Later wb, _ = some (.int .u8 19 : Value) := Later.cell r1 0 _ rfl
  have c11 : ∀ x : Later wb, _ = some (.int .u8 kD : Value) := Later.cell r1 1 _ rfl
  have c12 : ∀ x : Later wb, _ = some (.int .u8 kA : Value) := Later.cell r1 2 _ rfl
  have c13 : ∀ x : Later wb, _ = some (.int .u8 kB : Value) := Later.cell r1 3 _ rfl
  have c14 : ∀ x : Later wb, _ = some (.int .u64 imm : Value) := Later.cell r1 4 _ rfl
  have c15 : ∀ x : Later wb, _ = some (.string text : Value) := Later.cell r1 5 _ rfl
  have R0 := hide r0
  have R1 := hide r1
  clear r0 r1
  have hne : Nonempty (Later wb) := ⟨x0⟩
  have hm' : ∀ y : Later wb, MX mb R L y.at_ := fun y => h.later (hB y)
  have hon : ∀ y : Later wb, On tb y.at_ := fun y => ho.later (hB y)
  have kd : ∀ y : Later wb, y.at_.cell? ⟨mb, di, none⟩ = some (.int .u64 (R di)) := fun y => ((hB y).cell (p := ⟨mb, di, none⟩) h.own.1).trans (h.reg di hdi8)
  have ka : ∀ y : Later wb, y.at_.cell? ⟨mb, ai, none⟩ = some (.int .u64 (R ai)) := fun y => ((hB y).cell (p := ⟨mb, ai, none⟩) h.own.1).trans (h.reg ai hai8)
  have kb : ∀ y : Later wb, y.at_.cell? ⟨mb, bi, none⟩ = some (.int .u64 (R bi)) := fun y => ((hB y).cell (p := ⟨mb, bi, none⟩) h.own.1).trans (h.reg bi hbi8)
  have fd : ∀ y : Later wb, y.at_.frozen? ⟨mb, di, none⟩ = false := fun y => (hm' y).own.2 di
  have hml := h.own.1
  have HON := hide hon
  have HDD := hide (hD tb)
  have HM := hide hm'
  clear h ho hon hD hm'
  go_enter Oaag.func133, Oaag.ntmps133
  go_wp2_with (first
    | ((with_reducible refine at_reg 1 ?_); (refine Go.Lax.region_reads _ (by kernel_rfl) (by kernel_rfl) ?_; (repeat (first | go_big_quiet_skip | (go_big_quiet_want; go_big_quiet_op; go_big_quiet_on))); refine wpQuiet_nil ?_); intro y)
    | ((with_reducible refine at_later 234 ?_); refine DFT.run (unhide HDD) (unhide HON) _ ?_; intro y__))
  all_goals first
    | (refine bodyPost_box rfl ?_; intro r hr; simp [results, Oaag.results133, go_sem] at hr; subst hr; refine ⟨_, rfl, ?_⟩
       exact unhide HK _ ((unhide HM _).set di hdi8 _) (below_store ((hB _).mono (by omega)) (Nat.le_refl _) _))
    | fail

set_option maxHeartbeats 4000000 in
theorem sx_133_20 (E M : Nat) (hf : fok E M = true) (md kD kA kB imm : Int) (text : ByteArray) (di ai bi : Nat) (hdi : bits .and .u8 kD 7 = (di : Int)) (hdi8 : di < 8) (hai : bits .and .u8 kA 7 = (ai : Int)) (hai8 : ai < 8) (hbi : bits .and .u8 kB 7 = (bi : Int)) (hbi8 : bi < 8) (R : Nat → Int) (L : List Value) (r : Int)
    (hD : ∀ tb, DFT tb 235 #[fmt E M, .int .u64 (R ai)] (.int .u64 r)) : SXm 133 E M md 20 kD kA kB imm text R L (up R di r) L := by
  intro tb mb w K htb ho h hK
  obtain ⟨g1, g2, g3, g4⟩ := fok_bd hf
  have HK := hide hK
  clear hK
  obtain ⟨wb, x0, hwb, r0, r1, hB, hZ⟩ := boxes2 w #[.int .u8 E, .int .u8 M] #[.int .u8 20, .int .u8 kD, .int .u8 kA, .int .u8 kB, .int .u64 imm, .string text] 23 91
  have c00 : ∀ x : Later wb, _ = some (.int .u8 E : Value) := Later.cell r0 0 _ rfl
  have c01 : ∀ x : Later wb, _ = some (.int .u8 M : Value) := Later.cell r0 1 _ rfl
  have c10 : ∀ x : Later wb, _ = some (.int .u8 20 : Value) := Later.cell r1 0 _ rfl
  have c11 : ∀ x : Later wb, _ = some (.int .u8 kD : Value) := Later.cell r1 1 _ rfl
  have c12 : ∀ x : Later wb, _ = some (.int .u8 kA : Value) := Later.cell r1 2 _ rfl
  have c13 : ∀ x : Later wb, _ = some (.int .u8 kB : Value) := Later.cell r1 3 _ rfl
  have c14 : ∀ x : Later wb, _ = some (.int .u64 imm : Value) := Later.cell r1 4 _ rfl
  have c15 : ∀ x : Later wb, _ = some (.string text : Value) := Later.cell r1 5 _ rfl
  have R0 := hide r0
  have R1 := hide r1
  clear r0 r1
  have hne : Nonempty (Later wb) := ⟨x0⟩
  have hm' : ∀ y : Later wb, MX mb R L y.at_ := fun y => h.later (hB y)
  have hon : ∀ y : Later wb, On tb y.at_ := fun y => ho.later (hB y)
  have kd : ∀ y : Later wb, y.at_.cell? ⟨mb, di, none⟩ = some (.int .u64 (R di)) := fun y => ((hB y).cell (p := ⟨mb, di, none⟩) h.own.1).trans (h.reg di hdi8)
  have ka : ∀ y : Later wb, y.at_.cell? ⟨mb, ai, none⟩ = some (.int .u64 (R ai)) := fun y => ((hB y).cell (p := ⟨mb, ai, none⟩) h.own.1).trans (h.reg ai hai8)
  have kb : ∀ y : Later wb, y.at_.cell? ⟨mb, bi, none⟩ = some (.int .u64 (R bi)) := fun y => ((hB y).cell (p := ⟨mb, bi, none⟩) h.own.1).trans (h.reg bi hbi8)
  have fd : ∀ y : Later wb, y.at_.frozen? ⟨mb, di, none⟩ = false := fun y => (hm' y).own.2 di
  have hml := h.own.1
  have HON := hide hon
  have HDD := hide (hD tb)
  have HM := hide hm'
  clear h ho hon hD hm'
  go_enter Oaag.func133, Oaag.ntmps133
  go_wp2_with (first
    | ((with_reducible refine at_reg 1 ?_); (refine Go.Lax.region_reads _ (by kernel_rfl) (by kernel_rfl) ?_; (repeat (first | go_big_quiet_skip | (go_big_quiet_want; go_big_quiet_op; go_big_quiet_on))); refine wpQuiet_nil ?_); intro y)
    | ((with_reducible refine at_later 235 ?_); refine DFT.run (unhide HDD) (unhide HON) _ ?_; intro y__))
  all_goals first
    | (refine bodyPost_box rfl ?_; intro r hr; simp [results, Oaag.results133, go_sem] at hr; subst hr; refine ⟨_, rfl, ?_⟩
       exact unhide HK _ ((unhide HM _).set di hdi8 _) (below_store ((hB _).mono (by omega)) (Nat.le_refl _) _))
    | fail

set_option maxHeartbeats 4000000 in
theorem sx_133_21 (E M : Nat) (hf : fok E M = true) (md kD kA kB imm : Int) (text : ByteArray) (di ai bi : Nat) (hdi : bits .and .u8 kD 7 = (di : Int)) (hdi8 : di < 8) (hai : bits .and .u8 kA 7 = (ai : Int)) (hai8 : ai < 8) (hbi : bits .and .u8 kB 7 = (bi : Int)) (hbi8 : bi < 8) (R : Nat → Int) (L : List Value) (r : Int)
    (hD : ∀ tb, DFT tb 236 #[fmt E M, .int .u64 (R ai)] (.int .u64 r)) : SXm 133 E M md 21 kD kA kB imm text R L (up R di r) L := by
  intro tb mb w K htb ho h hK
  obtain ⟨g1, g2, g3, g4⟩ := fok_bd hf
  have HK := hide hK
  clear hK
  obtain ⟨wb, x0, hwb, r0, r1, hB, hZ⟩ := boxes2 w #[.int .u8 E, .int .u8 M] #[.int .u8 21, .int .u8 kD, .int .u8 kA, .int .u8 kB, .int .u64 imm, .string text] 23 91
  have c00 : ∀ x : Later wb, _ = some (.int .u8 E : Value) := Later.cell r0 0 _ rfl
  have c01 : ∀ x : Later wb, _ = some (.int .u8 M : Value) := Later.cell r0 1 _ rfl
  have c10 : ∀ x : Later wb, _ = some (.int .u8 21 : Value) := Later.cell r1 0 _ rfl
  have c11 : ∀ x : Later wb, _ = some (.int .u8 kD : Value) := Later.cell r1 1 _ rfl
  have c12 : ∀ x : Later wb, _ = some (.int .u8 kA : Value) := Later.cell r1 2 _ rfl
  have c13 : ∀ x : Later wb, _ = some (.int .u8 kB : Value) := Later.cell r1 3 _ rfl
  have c14 : ∀ x : Later wb, _ = some (.int .u64 imm : Value) := Later.cell r1 4 _ rfl
  have c15 : ∀ x : Later wb, _ = some (.string text : Value) := Later.cell r1 5 _ rfl
  have R0 := hide r0
  have R1 := hide r1
  clear r0 r1
  have hne : Nonempty (Later wb) := ⟨x0⟩
  have hm' : ∀ y : Later wb, MX mb R L y.at_ := fun y => h.later (hB y)
  have hon : ∀ y : Later wb, On tb y.at_ := fun y => ho.later (hB y)
  have kd : ∀ y : Later wb, y.at_.cell? ⟨mb, di, none⟩ = some (.int .u64 (R di)) := fun y => ((hB y).cell (p := ⟨mb, di, none⟩) h.own.1).trans (h.reg di hdi8)
  have ka : ∀ y : Later wb, y.at_.cell? ⟨mb, ai, none⟩ = some (.int .u64 (R ai)) := fun y => ((hB y).cell (p := ⟨mb, ai, none⟩) h.own.1).trans (h.reg ai hai8)
  have kb : ∀ y : Later wb, y.at_.cell? ⟨mb, bi, none⟩ = some (.int .u64 (R bi)) := fun y => ((hB y).cell (p := ⟨mb, bi, none⟩) h.own.1).trans (h.reg bi hbi8)
  have fd : ∀ y : Later wb, y.at_.frozen? ⟨mb, di, none⟩ = false := fun y => (hm' y).own.2 di
  have hml := h.own.1
  have HON := hide hon
  have HDD := hide (hD tb)
  have HM := hide hm'
  clear h ho hon hD hm'
  go_enter Oaag.func133, Oaag.ntmps133
  go_wp2_with (first
    | ((with_reducible refine at_reg 1 ?_); (refine Go.Lax.region_reads _ (by kernel_rfl) (by kernel_rfl) ?_; (repeat (first | go_big_quiet_skip | (go_big_quiet_want; go_big_quiet_op; go_big_quiet_on))); refine wpQuiet_nil ?_); intro y)
    | ((with_reducible refine at_later 236 ?_); refine DFT.run (unhide HDD) (unhide HON) _ ?_; intro y__))
  all_goals first
    | (refine bodyPost_box rfl ?_; intro r hr; simp [results, Oaag.results133, go_sem] at hr; subst hr; refine ⟨_, rfl, ?_⟩
       exact unhide HK _ ((unhide HM _).set di hdi8 _) (below_store ((hB _).mono (by omega)) (Nat.le_refl _) _))
    | fail

set_option maxHeartbeats 4000000 in
theorem sx_133_31 (E M : Nat) (hf : fok E M = true) (md kD kA kB imm : Int) (text : ByteArray) (di ai bi : Nat) (hdi : bits .and .u8 kD 7 = (di : Int)) (hdi8 : di < 8) (hai : bits .and .u8 kA 7 = (ai : Int)) (hai8 : ai < 8) (hbi : bits .and .u8 kB 7 = (bi : Int)) (hbi8 : bi < 8) (R : Nat → Int) (L : List Value) (r : Int)
    (hD : ∀ tb, DFT tb 243 #[fmt E M, .int .u8 md, .int .u64 (R ai), .int .i64 (wrap64 imm)] (.int .u64 r)) : SXm 133 E M md 31 kD kA kB imm text R L (up R di r) L := by
  intro tb mb w K htb ho h hK
  obtain ⟨g1, g2, g3, g4⟩ := fok_bd hf
  have HK := hide hK
  clear hK
  obtain ⟨wb, x0, hwb, r0, r1, hB, hZ⟩ := boxes2 w #[.int .u8 E, .int .u8 M] #[.int .u8 31, .int .u8 kD, .int .u8 kA, .int .u8 kB, .int .u64 imm, .string text] 23 91
  have c00 : ∀ x : Later wb, _ = some (.int .u8 E : Value) := Later.cell r0 0 _ rfl
  have c01 : ∀ x : Later wb, _ = some (.int .u8 M : Value) := Later.cell r0 1 _ rfl
  have c10 : ∀ x : Later wb, _ = some (.int .u8 31 : Value) := Later.cell r1 0 _ rfl
  have c11 : ∀ x : Later wb, _ = some (.int .u8 kD : Value) := Later.cell r1 1 _ rfl
  have c12 : ∀ x : Later wb, _ = some (.int .u8 kA : Value) := Later.cell r1 2 _ rfl
  have c13 : ∀ x : Later wb, _ = some (.int .u8 kB : Value) := Later.cell r1 3 _ rfl
  have c14 : ∀ x : Later wb, _ = some (.int .u64 imm : Value) := Later.cell r1 4 _ rfl
  have c15 : ∀ x : Later wb, _ = some (.string text : Value) := Later.cell r1 5 _ rfl
  have R0 := hide r0
  have R1 := hide r1
  clear r0 r1
  have hne : Nonempty (Later wb) := ⟨x0⟩
  have hm' : ∀ y : Later wb, MX mb R L y.at_ := fun y => h.later (hB y)
  have hon : ∀ y : Later wb, On tb y.at_ := fun y => ho.later (hB y)
  have kd : ∀ y : Later wb, y.at_.cell? ⟨mb, di, none⟩ = some (.int .u64 (R di)) := fun y => ((hB y).cell (p := ⟨mb, di, none⟩) h.own.1).trans (h.reg di hdi8)
  have ka : ∀ y : Later wb, y.at_.cell? ⟨mb, ai, none⟩ = some (.int .u64 (R ai)) := fun y => ((hB y).cell (p := ⟨mb, ai, none⟩) h.own.1).trans (h.reg ai hai8)
  have kb : ∀ y : Later wb, y.at_.cell? ⟨mb, bi, none⟩ = some (.int .u64 (R bi)) := fun y => ((hB y).cell (p := ⟨mb, bi, none⟩) h.own.1).trans (h.reg bi hbi8)
  have fd : ∀ y : Later wb, y.at_.frozen? ⟨mb, di, none⟩ = false := fun y => (hm' y).own.2 di
  have hml := h.own.1
  have HON := hide hon
  have HDD := hide (hD tb)
  have HM := hide hm'
  clear h ho hon hD hm'
  go_enter Oaag.func133, Oaag.ntmps133
  go_wp2_with (first
    | ((with_reducible refine at_reg 1 ?_); (refine Go.Lax.region_reads _ (by kernel_rfl) (by kernel_rfl) ?_; (repeat (first | go_big_quiet_skip | (go_big_quiet_want; go_big_quiet_op; go_big_quiet_on))); refine wpQuiet_nil ?_); intro y)
    | ((with_reducible refine at_later 243 ?_); refine DFT.run (unhide HDD) (unhide HON) _ ?_; intro y__))
  all_goals first
    | (refine bodyPost_box rfl ?_; intro r hr; simp [results, Oaag.results133, go_sem] at hr; subst hr; refine ⟨_, rfl, ?_⟩
       exact unhide HK _ ((unhide HM _).set di hdi8 _) (below_store ((hB _).mono (by omega)) (Nat.le_refl _) _))
    | fail
end Go.Proofs.YgcoaaGreat.NatW
