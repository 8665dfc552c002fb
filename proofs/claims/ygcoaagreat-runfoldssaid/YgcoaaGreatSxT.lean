/-
  Step, exactly: what is handed on.
-/
import Derived.Test.YgcoaaGreatMxB
set_option linter.unusedVariables false
set_option linter.unusedSimpArgs false
set_option maxRecDepth 20000
namespace Go.Proofs.YgcoaaGreat.NatW
open Go.RowKit
open Go.Proofs.YgcoaaGreat.Det
open Go.Proofs.YgcoaaGreat.Limbs Go.Proofs.YgcoaaGreat.Bits
attribute [local go_sem] Go.Instr.field Go.asAgg

set_option maxHeartbeats 4000000 in
theorem sx_82_hi (E M : Nat) (hf : fok E M = true) (k0 : Int) (h15 : 15 ≤ k0) (md kD kA kB imm : Int) (text : ByteArray) (di ai bi : Nat) (hdi : bits .and .u8 kD 7 = (di : Int)) (hdi8 : di < 8) (hai : bits .and .u8 kA 7 = (ai : Int)) (hai8 : ai < 8) (hbi : bits .and .u8 kB 7 = (bi : Int)) (hbi8 : bi < 8) (R R' : Nat → Int) (L L' : List Value)
    (hD : SX 147 E M md k0 kD kA kB imm text R L R' L') : SX 82 E M md k0 kD kA kB imm text R L R' L' := by
  intro tb mb w K htb ho h hK
  obtain ⟨g1, g2, g3, g4⟩ := fok_bd hf
  have HK := hide hK
  clear hK
  obtain ⟨wb, x0, hwb, r0, r1, hB, hZ⟩ := boxes2 w #[.int .u8 E, .int .u8 M] #[.int .u8 k0, .int .u8 kD, .int .u8 kA, .int .u8 kB, .int .u64 imm, .string text] 23 91
  have c00 : ∀ x : Later wb, _ = some (.int .u8 E : Value) := Later.cell r0 0 _ rfl
  have c01 : ∀ x : Later wb, _ = some (.int .u8 M : Value) := Later.cell r0 1 _ rfl
  have c10 : ∀ x : Later wb, _ = some (.int .u8 k0 : Value) := Later.cell r1 0 _ rfl
  have c11 : ∀ x : Later wb, _ = some (.int .u8 kD : Value) := Later.cell r1 1 _ rfl
  have c12 : ∀ x : Later wb, _ = some (.int .u8 kA : Value) := Later.cell r1 2 _ rfl
  have c13 : ∀ x : Later wb, _ = some (.int .u8 kB : Value) := Later.cell r1 3 _ rfl
  have c14 : ∀ x : Later wb, _ = some (.int .u64 imm : Value) := Later.cell r1 4 _ rfl
  have c15 : ∀ x : Later wb, _ = some (.string text : Value) := Later.cell r1 5 _ rfl
  have R0 := hide r0
  have R1 := hide r1
  clear r0 r1
  have hne : Nonempty (Later wb) := ⟨x0⟩
  have hm' : ∀ y : Later wb, MX mb R L y.at_ := fun y => h.later (hB y)
  have hon : ∀ y : Later wb, On tb y.at_ := fun y => ho.later (hB y)
  have kd : ∀ y : Later wb, y.at_.cell? ⟨mb, di, none⟩ = some (.int .u64 (R di)) := fun y => ((hB y).cell (p := ⟨mb, di, none⟩) h.own.1).trans (h.reg di hdi8)
  have ka : ∀ y : Later wb, y.at_.cell? ⟨mb, ai, none⟩ = some (.int .u64 (R ai)) := fun y => ((hB y).cell (p := ⟨mb, ai, none⟩) h.own.1).trans (h.reg ai hai8)
  have kb : ∀ y : Later wb, y.at_.cell? ⟨mb, bi, none⟩ = some (.int .u64 (R bi)) := fun y => ((hB y).cell (p := ⟨mb, bi, none⟩) h.own.1).trans (h.reg bi hbi8)
  have fd : ∀ y : Later wb, y.at_.frozen? ⟨mb, di, none⟩ = false := fun y => (hm' y).own.2 di
  have hml := h.own.1
  have HON := hide hon
  have HDD := hide hD
  have HM := hide hm'
  clear h ho hon hD hm'
  have ne0 : ¬ k0 = 0 := by omega
  have ne1 : ¬ k0 = 1 := by omega
  have ne2 : ¬ k0 = 2 := by omega
  have ne3 : ¬ k0 = 3 := by omega
  have ne4 : ¬ k0 = 4 := by omega
  have ne5 : ¬ k0 = 5 := by omega
  have ne6 : ¬ k0 = 6 := by omega
  have ne7 : ¬ k0 = 7 := by omega
  have ne8 : ¬ k0 = 8 := by omega
  have ne9 : ¬ k0 = 9 := by omega
  have ne10 : ¬ k0 = 10 := by omega
  have ne11 : ¬ k0 = 11 := by omega
  have ne12 : ¬ k0 = 12 := by omega
  have ne13 : ¬ k0 = 13 := by omega
  have ne14 : ¬ k0 = 14 := by omega
  clear h15
  go_enter Oaag.func82, Oaag.ntmps82
  go_wp2_with (first
    | ((with_reducible refine at_later 67 ?_); refine Ret.run (fmtOk_ret E M hf) _ ?_; rintro _ y__ rfl)
    | ((with_reducible refine at_reg 2 ?_); (refine Go.Lax.region_reads _ (by kernel_rfl) (by kernel_rfl) ?_; (repeat (first | go_big_quiet_skip | (go_big_quiet_want; go_big_quiet_op; go_big_quiet_on))); refine wpQuiet_nil ?_); intro y)
    | ((with_reducible refine at_later 147 ?_)
       refine (unhide HDD) tb mb _ _ htb (unhide HON _) (unhide HM _) ?_
       intro w9 hm9 hb9
       have HM9 := hide hm9
       have HB9 := hide (((hB _).mono (by omega)).trans hb9)
       clear hm9 hb9))
  all_goals first
    | (refine bodyPost_box rfl ?_; intro r hr; simp [results, Oaag.results82, go_sem] at hr; subst hr; refine ⟨_, rfl, ?_⟩
       exact unhide HK _ (unhide HM9) (unhide HB9))
    | fail

set_option maxHeartbeats 4000000 in
theorem sx_81_hi (E M : Nat) (hf : fok E M = true) (k0 : Int) (h15 : 15 ≤ k0) (md kD kA kB imm : Int) (text : ByteArray) (di ai bi : Nat) (hdi : bits .and .u8 kD 7 = (di : Int)) (hdi8 : di < 8) (hai : bits .and .u8 kA 7 = (ai : Int)) (hai8 : ai < 8) (hbi : bits .and .u8 kB 7 = (bi : Int)) (hbi8 : bi < 8) (R R' : Nat → Int) (L L' : List Value)
    (hD : SXm 133 E M md k0 kD kA kB imm text R L R' L') : SX 81 E M md k0 kD kA kB imm text R L R' L' := by
  intro tb mb w K htb ho h hK
  obtain ⟨g1, g2, g3, g4⟩ := fok_bd hf
  have HK := hide hK
  clear hK
  obtain ⟨wb, x0, hwb, r0, r1, hB, hZ⟩ := boxes2 w #[.int .u8 E, .int .u8 M] #[.int .u8 k0, .int .u8 kD, .int .u8 kA, .int .u8 kB, .int .u64 imm, .string text] 23 91
  have c00 : ∀ x : Later wb, _ = some (.int .u8 E : Value) := Later.cell r0 0 _ rfl
  have c01 : ∀ x : Later wb, _ = some (.int .u8 M : Value) := Later.cell r0 1 _ rfl
  have c10 : ∀ x : Later wb, _ = some (.int .u8 k0 : Value) := Later.cell r1 0 _ rfl
  have c11 : ∀ x : Later wb, _ = some (.int .u8 kD : Value) := Later.cell r1 1 _ rfl
  have c12 : ∀ x : Later wb, _ = some (.int .u8 kA : Value) := Later.cell r1 2 _ rfl
  have c13 : ∀ x : Later wb, _ = some (.int .u8 kB : Value) := Later.cell r1 3 _ rfl
  have c14 : ∀ x : Later wb, _ = some (.int .u64 imm : Value) := Later.cell r1 4 _ rfl
  have c15 : ∀ x : Later wb, _ = some (.string text : Value) := Later.cell r1 5 _ rfl
  have R0 := hide r0
  have R1 := hide r1
  clear r0 r1
  have hne : Nonempty (Later wb) := ⟨x0⟩
  have hm' : ∀ y : Later wb, MX mb R L y.at_ := fun y => h.later (hB y)
  have hon : ∀ y : Later wb, On tb y.at_ := fun y => ho.later (hB y)
  have kd : ∀ y : Later wb, y.at_.cell? ⟨mb, di, none⟩ = some (.int .u64 (R di)) := fun y => ((hB y).cell (p := ⟨mb, di, none⟩) h.own.1).trans (h.reg di hdi8)
  have ka : ∀ y : Later wb, y.at_.cell? ⟨mb, ai, none⟩ = some (.int .u64 (R ai)) := fun y => ((hB y).cell (p := ⟨mb, ai, none⟩) h.own.1).trans (h.reg ai hai8)
  have kb : ∀ y : Later wb, y.at_.cell? ⟨mb, bi, none⟩ = some (.int .u64 (R bi)) := fun y => ((hB y).cell (p := ⟨mb, bi, none⟩) h.own.1).trans (h.reg bi hbi8)
  have fd : ∀ y : Later wb, y.at_.frozen? ⟨mb, di, none⟩ = false := fun y => (hm' y).own.2 di
  have hml := h.own.1
  have HON := hide hon
  have HDD := hide hD
  have HM := hide hm'
  clear h ho hon hD hm'
  have ne0 : ¬ k0 = 0 := by omega
  have ne1 : ¬ k0 = 1 := by omega
  have ne2 : ¬ k0 = 2 := by omega
  have ne3 : ¬ k0 = 3 := by omega
  have ne4 : ¬ k0 = 4 := by omega
  have ne5 : ¬ k0 = 5 := by omega
  have ne6 : ¬ k0 = 6 := by omega
  have ne7 : ¬ k0 = 7 := by omega
  have ne8 : ¬ k0 = 8 := by omega
  have ne9 : ¬ k0 = 9 := by omega
  have ne10 : ¬ k0 = 10 := by omega
  have ne11 : ¬ k0 = 11 := by omega
  have ne12 : ¬ k0 = 12 := by omega
  have ne13 : ¬ k0 = 13 := by omega
  have ne14 : ¬ k0 = 14 := by omega
  clear h15
  go_enter Oaag.func81, Oaag.ntmps81
  go_wp2_with (first
    | ((with_reducible refine at_later 67 ?_); refine Ret.run (fmtOk_ret E M hf) _ ?_; rintro _ y__ rfl)
    | ((with_reducible refine at_reg 2 ?_); (refine Go.Lax.region_reads _ (by kernel_rfl) (by kernel_rfl) ?_; (repeat (first | go_big_quiet_skip | (go_big_quiet_want; go_big_quiet_op; go_big_quiet_on))); refine wpQuiet_nil ?_); intro y)
    | ((with_reducible refine at_later 133 ?_)
       refine (unhide HDD) tb mb _ _ htb (unhide HON _) (unhide HM _) ?_
       intro w9 hm9 hb9
       have HM9 := hide hm9
       have HB9 := hide (((hB _).mono (by omega)).trans hb9)
       clear hm9 hb9))
  all_goals first
    | (refine bodyPost_box rfl ?_; intro r hr; simp [results, Oaag.results81, go_sem] at hr; subst hr; refine ⟨_, rfl, ?_⟩
       exact unhide HK _ (unhide HM9) (unhide HB9))
    | fail

set_option maxHeartbeats 4000000 in
theorem sx_82_13 (E M : Nat) (hf : fok E M = true) (md kD kA kB imm : Int) (text : ByteArray) (di ai bi : Nat) (hdi : bits .and .u8 kD 7 = (di : Int)) (hdi8 : di < 8) (hai : bits .and .u8 kA 7 = (ai : Int)) (hai8 : ai < 8) (hbi : bits .and .u8 kB 7 = (bi : Int)) (hbi8 : bi < 8) (R R' : Nat → Int) (L L' : List Value)
    (hD : SX 145 E M md 13 kD kA kB imm text R L R' L') : SX 82 E M md 13 kD kA kB imm text R L R' L' := by
  intro tb mb w K htb ho h hK
  obtain ⟨g1, g2, g3, g4⟩ := fok_bd hf
  have HK := hide hK
  clear hK
  obtain ⟨wb, x0, hwb, r0, r1, hB, hZ⟩ := boxes2 w #[.int .u8 E, .int .u8 M] #[.int .u8 13, .int .u8 kD, .int .u8 kA, .int .u8 kB, .int .u64 imm, .string text] 23 91
  have c00 : ∀ x : Later wb, _ = some (.int .u8 E : Value) := Later.cell r0 0 _ rfl
  have c01 : ∀ x : Later wb, _ = some (.int .u8 M : Value) := Later.cell r0 1 _ rfl
  have c10 : ∀ x : Later wb, _ = some (.int .u8 13 : Value) := Later.cell r1 0 _ rfl
  have c11 : ∀ x : Later wb, _ = some (.int .u8 kD : Value) := Later.cell r1 1 _ rfl
  have c12 : ∀ x : Later wb, _ = some (.int .u8 kA : Value) := Later.cell r1 2 _ rfl
  have c13 : ∀ x : Later wb, _ = some (.int .u8 kB : Value) := Later.cell r1 3 _ rfl
  have c14 : ∀ x : Later wb, _ = some (.int .u64 imm : Value) := Later.cell r1 4 _ rfl
  have c15 : ∀ x : Later wb, _ = some (.string text : Value) := Later.cell r1 5 _ rfl
  have R0 := hide r0
  have R1 := hide r1
  clear r0 r1
  have hne : Nonempty (Later wb) := ⟨x0⟩
  have hm' : ∀ y : Later wb, MX mb R L y.at_ := fun y => h.later (hB y)
  have hon : ∀ y : Later wb, On tb y.at_ := fun y => ho.later (hB y)
  have kd : ∀ y : Later wb, y.at_.cell? ⟨mb, di, none⟩ = some (.int .u64 (R di)) := fun y => ((hB y).cell (p := ⟨mb, di, none⟩) h.own.1).trans (h.reg di hdi8)
  have ka : ∀ y : Later wb, y.at_.cell? ⟨mb, ai, none⟩ = some (.int .u64 (R ai)) := fun y => ((hB y).cell (p := ⟨mb, ai, none⟩) h.own.1).trans (h.reg ai hai8)
  have kb : ∀ y : Later wb, y.at_.cell? ⟨mb, bi, none⟩ = some (.int .u64 (R bi)) := fun y => ((hB y).cell (p := ⟨mb, bi, none⟩) h.own.1).trans (h.reg bi hbi8)
  have fd : ∀ y : Later wb, y.at_.frozen? ⟨mb, di, none⟩ = false := fun y => (hm' y).own.2 di
  have hml := h.own.1
  have HON := hide hon
  have HDD := hide hD
  have HM := hide hm'
  clear h ho hon hD hm'
  go_enter Oaag.func82, Oaag.ntmps82
  go_wp2_with (first
    | ((with_reducible refine at_later 67 ?_); refine Ret.run (fmtOk_ret E M hf) _ ?_; rintro _ y__ rfl)
    | ((with_reducible refine at_reg 2 ?_); (refine Go.Lax.region_reads _ (by kernel_rfl) (by kernel_rfl) ?_; (repeat (first | go_big_quiet_skip | (go_big_quiet_want; go_big_quiet_op; go_big_quiet_on))); refine wpQuiet_nil ?_); intro y)
    | ((with_reducible refine at_later 145 ?_)
       refine (unhide HDD) tb mb _ _ htb (unhide HON _) (unhide HM _) ?_
       intro w9 hm9 hb9
       have HM9 := hide hm9
       have HB9 := hide (((hB _).mono (by omega)).trans hb9)
       clear hm9 hb9))
  all_goals first
    | (refine bodyPost_box rfl ?_; intro r hr; simp [results, Oaag.results82, go_sem] at hr; subst hr; refine ⟨_, rfl, ?_⟩
       exact unhide HK _ (unhide HM9) (unhide HB9))
    | fail

set_option maxHeartbeats 4000000 in
theorem sx_81_13 (E M : Nat) (hf : fok E M = true) (md kD kA kB imm : Int) (text : ByteArray) (di ai bi : Nat) (hdi : bits .and .u8 kD 7 = (di : Int)) (hdi8 : di < 8) (hai : bits .and .u8 kA 7 = (ai : Int)) (hai8 : ai < 8) (hbi : bits .and .u8 kB 7 = (bi : Int)) (hbi8 : bi < 8) (R R' : Nat → Int) (L L' : List Value)
    (hD : SXm 131 E M md 13 kD kA kB imm text R L R' L') : SX 81 E M md 13 kD kA kB imm text R L R' L' := by
  intro tb mb w K htb ho h hK
  obtain ⟨g1, g2, g3, g4⟩ := fok_bd hf
  have HK := hide hK
  clear hK
  obtain ⟨wb, x0, hwb, r0, r1, hB, hZ⟩ := boxes2 w #[.int .u8 E, .int .u8 M] #[.int .u8 13, .int .u8 kD, .int .u8 kA, .int .u8 kB, .int .u64 imm, .string text] 23 91
  have c00 : ∀ x : Later wb, _ = some (.int .u8 E : Value) := Later.cell r0 0 _ rfl
  have c01 : ∀ x : Later wb, _ = some (.int .u8 M : Value) := Later.cell r0 1 _ rfl
  have c10 : ∀ x : Later wb, _ = some (.int .u8 13 : Value) := Later.cell r1 0 _ rfl
  have c11 : ∀ x : Later wb, _ = some (.int .u8 kD : Value) := Later.cell r1 1 _ rfl
  have c12 : ∀ x : Later wb, _ = some (.int .u8 kA : Value) := Later.cell r1 2 _ rfl
  have c13 : ∀ x : Later wb, _ = some (.int .u8 kB : Value) := Later.cell r1 3 _ rfl
  have c14 : ∀ x : Later wb, _ = some (.int .u64 imm : Value) := Later.cell r1 4 _ rfl
  have c15 : ∀ x : Later wb, _ = some (.string text : Value) := Later.cell r1 5 _ rfl
  have R0 := hide r0
  have R1 := hide r1
  clear r0 r1
  have hne : Nonempty (Later wb) := ⟨x0⟩
  have hm' : ∀ y : Later wb, MX mb R L y.at_ := fun y => h.later (hB y)
  have hon : ∀ y : Later wb, On tb y.at_ := fun y => ho.later (hB y)
  have kd : ∀ y : Later wb, y.at_.cell? ⟨mb, di, none⟩ = some (.int .u64 (R di)) := fun y => ((hB y).cell (p := ⟨mb, di, none⟩) h.own.1).trans (h.reg di hdi8)
  have ka : ∀ y : Later wb, y.at_.cell? ⟨mb, ai, none⟩ = some (.int .u64 (R ai)) := fun y => ((hB y).cell (p := ⟨mb, ai, none⟩) h.own.1).trans (h.reg ai hai8)
  have kb : ∀ y : Later wb, y.at_.cell? ⟨mb, bi, none⟩ = some (.int .u64 (R bi)) := fun y => ((hB y).cell (p := ⟨mb, bi, none⟩) h.own.1).trans (h.reg bi hbi8)
  have fd : ∀ y : Later wb, y.at_.frozen? ⟨mb, di, none⟩ = false := fun y => (hm' y).own.2 di
  have hml := h.own.1
  have HON := hide hon
  have HDD := hide hD
  have HM := hide hm'
  clear h ho hon hD hm'
  go_enter Oaag.func81, Oaag.ntmps81
  go_wp2_with (first
    | ((with_reducible refine at_later 67 ?_); refine Ret.run (fmtOk_ret E M hf) _ ?_; rintro _ y__ rfl)
    | ((with_reducible refine at_reg 2 ?_); (refine Go.Lax.region_reads _ (by kernel_rfl) (by kernel_rfl) ?_; (repeat (first | go_big_quiet_skip | (go_big_quiet_want; go_big_quiet_op; go_big_quiet_on))); refine wpQuiet_nil ?_); intro y)
    | ((with_reducible refine at_later 131 ?_)
       refine (unhide HDD) tb mb _ _ htb (unhide HON _) (unhide HM _) ?_
       intro w9 hm9 hb9
       have HM9 := hide hm9
       have HB9 := hide (((hB _).mono (by omega)).trans hb9)
       clear hm9 hb9))
  all_goals first
    | (refine bodyPost_box rfl ?_; intro r hr; simp [results, Oaag.results81, go_sem] at hr; subst hr; refine ⟨_, rfl, ?_⟩
       exact unhide HK _ (unhide HM9) (unhide HB9))
    | fail

set_option maxHeartbeats 4000000 in
theorem sx_147_27 (E M : Nat) (hf : fok E M = true) (md kD kA kB imm : Int) (text : ByteArray) (di ai bi : Nat) (hdi : bits .and .u8 kD 7 = (di : Int)) (hdi8 : di < 8) (hai : bits .and .u8 kA 7 = (ai : Int)) (hai8 : ai < 8) (hbi : bits .and .u8 kB 7 = (bi : Int)) (hbi8 : bi < 8) (R R' : Nat → Int) (L L' : List Value)
    (hD : SX 267 E M md 27 kD kA kB imm text R L R' L') : SX 147 E M md 27 kD kA kB imm text R L R' L' := by
  intro tb mb w K htb ho h hK
  obtain ⟨g1, g2, g3, g4⟩ := fok_bd hf
  have HK := hide hK
  clear hK
  obtain ⟨wb, x0, hwb, r0, r1, hB, hZ⟩ := boxes2 w #[.int .u8 E, .int .u8 M] #[.int .u8 27, .int .u8 kD, .int .u8 kA, .int .u8 kB, .int .u64 imm, .string text] 23 91
  have c00 : ∀ x : Later wb, _ = some (.int .u8 E : Value) := Later.cell r0 0 _ rfl
  have c01 : ∀ x : Later wb, _ = some (.int .u8 M : Value) := Later.cell r0 1 _ rfl
  have c10 : ∀ x : Later wb, _ = some (.int .u8 27 : Value) := Later.cell r1 0 _ rfl
  have c11 : ∀ x : Later wb, _ = some (.int .u8 kD : Value) := Later.cell r1 1 _ rfl
  have c12 : ∀ x : Later wb, _ = some (.int .u8 kA : Value) := Later.cell r1 2 _ rfl
  have c13 : ∀ x : Later wb, _ = some (.int .u8 kB : Value) := Later.cell r1 3 _ rfl
  have c14 : ∀ x : Later wb, _ = some (.int .u64 imm : Value) := Later.cell r1 4 _ rfl
  have c15 : ∀ x : Later wb, _ = some (.string text : Value) := Later.cell r1 5 _ rfl
  have R0 := hide r0
  have R1 := hide r1
  clear r0 r1
  have hne : Nonempty (Later wb) := ⟨x0⟩
  have hm' : ∀ y : Later wb, MX mb R L y.at_ := fun y => h.later (hB y)
  have hon : ∀ y : Later wb, On tb y.at_ := fun y => ho.later (hB y)
  have kd : ∀ y : Later wb, y.at_.cell? ⟨mb, di, none⟩ = some (.int .u64 (R di)) := fun y => ((hB y).cell (p := ⟨mb, di, none⟩) h.own.1).trans (h.reg di hdi8)
  have ka : ∀ y : Later wb, y.at_.cell? ⟨mb, ai, none⟩ = some (.int .u64 (R ai)) := fun y => ((hB y).cell (p := ⟨mb, ai, none⟩) h.own.1).trans (h.reg ai hai8)
  have kb : ∀ y : Later wb, y.at_.cell? ⟨mb, bi, none⟩ = some (.int .u64 (R bi)) := fun y => ((hB y).cell (p := ⟨mb, bi, none⟩) h.own.1).trans (h.reg bi hbi8)
  have fd : ∀ y : Later wb, y.at_.frozen? ⟨mb, di, none⟩ = false := fun y => (hm' y).own.2 di
  have hml := h.own.1
  have HON := hide hon
  have HDD := hide hD
  have HM := hide hm'
  clear h ho hon hD hm'
  go_enter Oaag.func147, Oaag.ntmps147
  go_wp2_with (first
    | ((with_reducible refine at_reg 1 ?_); (refine Go.Lax.region_reads _ (by kernel_rfl) (by kernel_rfl) ?_; (repeat (first | go_big_quiet_skip | (go_big_quiet_want; go_big_quiet_op; go_big_quiet_on))); refine wpQuiet_nil ?_); intro y)
    | ((with_reducible refine at_later 267 ?_)
       refine (unhide HDD) tb mb _ _ htb (unhide HON _) (unhide HM _) ?_
       intro w9 hm9 hb9
       have HM9 := hide hm9
       have HB9 := hide (((hB _).mono (by omega)).trans hb9)
       clear hm9 hb9))
  all_goals first
    | (refine bodyPost_box rfl ?_; intro r hr; simp [results, Oaag.results147, go_sem] at hr; subst hr; refine ⟨_, rfl, ?_⟩
       exact unhide HK _ (unhide HM9) (unhide HB9))
    | fail

set_option maxHeartbeats 4000000 in
theorem sx_133_27 (E M : Nat) (hf : fok E M = true) (md kD kA kB imm : Int) (text : ByteArray) (di ai bi : Nat) (hdi : bits .and .u8 kD 7 = (di : Int)) (hdi8 : di < 8) (hai : bits .and .u8 kA 7 = (ai : Int)) (hai8 : ai < 8) (hbi : bits .and .u8 kB 7 = (bi : Int)) (hbi8 : bi < 8) (R R' : Nat → Int) (L L' : List Value)
    (hD : SXm 131 E M md 27 kD kA kB imm text R L R' L') : SXm 133 E M md 27 kD kA kB imm text R L R' L' := by
  intro tb mb w K htb ho h hK
  obtain ⟨g1, g2, g3, g4⟩ := fok_bd hf
  have HK := hide hK
  clear hK
  obtain ⟨wb, x0, hwb, r0, r1, hB, hZ⟩ := boxes2 w #[.int .u8 E, .int .u8 M] #[.int .u8 27, .int .u8 kD, .int .u8 kA, .int .u8 kB, .int .u64 imm, .string text] 23 91
  have c00 : ∀ x : Later wb, _ = some (.int .u8 E : Value) := Later.cell r0 0 _ rfl
  have c01 : ∀ x : Later wb, _ = some (.int .u8 M : Value) := Later.cell r0 1 _ rfl
  have c10 : ∀ x : Later wb, _ = some (.int .u8 27 : Value) := Later.cell r1 0 _ rfl
  have c11 : ∀ x : Later wb, _ = some (.int .u8 kD : Value) := Later.cell r1 1 _ rfl
  have c12 : ∀ x : Later wb, _ = some (.int .u8 kA : Value) := Later.cell r1 2 _ rfl
  have c13 : ∀ x : Later wb, _ = some (.int .u8 kB : Value) := Later.cell r1 3 _ rfl
  have c14 : ∀ x : Later wb, _ = some (.int .u64 imm : Value) := Later.cell r1 4 _ rfl
  have c15 : ∀ x : Later wb, _ = some (.string text : Value) := Later.cell r1 5 _ rfl
  have R0 := hide r0
  have R1 := hide r1
  clear r0 r1
  have hne : Nonempty (Later wb) := ⟨x0⟩
  have hm' : ∀ y : Later wb, MX mb R L y.at_ := fun y => h.later (hB y)
  have hon : ∀ y : Later wb, On tb y.at_ := fun y => ho.later (hB y)
  have kd : ∀ y : Later wb, y.at_.cell? ⟨mb, di, none⟩ = some (.int .u64 (R di)) := fun y => ((hB y).cell (p := ⟨mb, di, none⟩) h.own.1).trans (h.reg di hdi8)
  have ka : ∀ y : Later wb, y.at_.cell? ⟨mb, ai, none⟩ = some (.int .u64 (R ai)) := fun y => ((hB y).cell (p := ⟨mb, ai, none⟩) h.own.1).trans (h.reg ai hai8)
  have kb : ∀ y : Later wb, y.at_.cell? ⟨mb, bi, none⟩ = some (.int .u64 (R bi)) := fun y => ((hB y).cell (p := ⟨mb, bi, none⟩) h.own.1).trans (h.reg bi hbi8)
  have fd : ∀ y : Later wb, y.at_.frozen? ⟨mb, di, none⟩ = false := fun y => (hm' y).own.2 di
  have hml := h.own.1
  have HON := hide hon
  have HDD := hide hD
  have HM := hide hm'
  clear h ho hon hD hm'
  go_enter Oaag.func133, Oaag.ntmps133
  go_wp2_with (first
    | ((with_reducible refine at_reg 1 ?_); (refine Go.Lax.region_reads _ (by kernel_rfl) (by kernel_rfl) ?_; (repeat (first | go_big_quiet_skip | (go_big_quiet_want; go_big_quiet_op; go_big_quiet_on))); refine wpQuiet_nil ?_); intro y)
    | ((with_reducible refine at_later 131 ?_)
       refine (unhide HDD) tb mb _ _ htb (unhide HON _) (unhide HM _) ?_
       intro w9 hm9 hb9
       have HM9 := hide hm9
       have HB9 := hide (((hB _).mono (by omega)).trans hb9)
       clear hm9 hb9))
  all_goals first
    | (refine bodyPost_box rfl ?_; intro r hr; simp [results, Oaag.results133, go_sem] at hr; subst hr; refine ⟨_, rfl, ?_⟩
       exact unhide HK _ (unhide HM9) (unhide HB9))
    | fail
end Go.Proofs.YgcoaaGreat.NatW
