/-
  more, exactly: ReadHex.
-/
import Derived.Test.YgcoaaGreatSxV
set_option linter.unusedVariables false
set_option linter.unusedSimpArgs false
set_option maxRecDepth 20000
namespace Go.Proofs.YgcoaaGreat.NatW
open Go.RowKit
open Go.Proofs.YgcoaaGreat.Det
open Go.Proofs.YgcoaaGreat.Limbs Go.Proofs.YgcoaaGreat.Bits
attribute [local go_sem] Go.Instr.field Go.asAgg

set_option maxHeartbeats 4000000 in
theorem readhex_133_0 (E M : Nat) (hf : fok E M = true) (md kD kA kB imm : Int) (text : ByteArray) (nn : Bool) (dd : ByteArray) (ee pp gg : Int) (di : Nat) (hdi : bits .and .u8 kD 7 = (di : Int)) (hdi8 : di < 8) (ai bi : Nat) (hai : bits .and .u8 kA 7 = (ai : Int)) (hai8 : ai < 8) (hbi : bits .and .u8 kB 7 = (bi : Int)) (hbi8 : bi < 8) (R : Nat → Int) (L : List Value) (hn : L.length ≤ 1000) (hS : ∀ tb, DFT tb 240 #[.string text] (.agg #[.int .u8 0, .bool nn, .string dd, .int .i16 ee, .int .i64 pp, .int .i32 gg])) (r : Int) (hD : ∀ tb, DFT tb 183 #[fmt E M, .int .u8 md, .bool nn, .string dd, .int .i16 ee] (.int .u64 r)) : SXm 133 E M md 26 kD kA kB imm text R L (up R di r) L := by
  intro tb mb w K htb ho h hK
  obtain ⟨g1, g2, g3, g4⟩ := fok_bd hf
  have HK := hide hK
  clear hK
  obtain ⟨wb, x0, hwb, r0, r1, hB, hZ⟩ := boxes2 w #[.int .u8 E, .int .u8 M] #[.int .u8 26, .int .u8 kD, .int .u8 kA, .int .u8 kB, .int .u64 imm, .string text] 23 91
  have c00 : ∀ x : Later wb, _ = some (.int .u8 E : Value) := Later.cell r0 0 _ rfl
  have c01 : ∀ x : Later wb, _ = some (.int .u8 M : Value) := Later.cell r0 1 _ rfl
  have c10 : ∀ x : Later wb, _ = some (.int .u8 26 : Value) := Later.cell r1 0 _ rfl
  have c11 : ∀ x : Later wb, _ = some (.int .u8 kD : Value) := Later.cell r1 1 _ rfl
  have c12 : ∀ x : Later wb, _ = some (.int .u8 kA : Value) := Later.cell r1 2 _ rfl
  have c13 : ∀ x : Later wb, _ = some (.int .u8 kB : Value) := Later.cell r1 3 _ rfl
  have c14 : ∀ x : Later wb, _ = some (.int .u64 imm : Value) := Later.cell r1 4 _ rfl
  have c15 : ∀ x : Later wb, _ = some (.string text : Value) := Later.cell r1 5 _ rfl
  have R0 := hide r0
  have R1 := hide r1
  clear r0 r1
  have hne : Nonempty (Later wb) := ⟨x0⟩
  have hm' : ∀ y : Later wb, MX mb R L y.at_ := fun y => h.later (hB y)
  have hon : ∀ y : Later wb, On tb y.at_ := fun y => ho.later (hB y)
  obtain ⟨vo, kov, hov⟩ := h.out
  have hal : ∀ (y : Later wb) (o : Obj), Below y.at_.heap.size y.at_ (y.at_.alloc o) := fun y o => (Below.refl _ _).alloc (Nat.le_refl _) o
  have hmA : ∀ (y : Later wb) (o : Obj), MX mb R L (y.at_.alloc o) := fun y o => (hm' y).later (hal y o)
  have ko : ∀ y : Later wb, y.at_.cell? ⟨mb, 8, none⟩ = some vo := fun y => ((hB y).cell (p := ⟨mb, 8, none⟩) h.own.1).trans kov
  have fo : ∀ y : Later wb, y.at_.frozen? ⟨mb, 8, none⟩ = false := fun y => (hm' y).own.2 8
  have koA : ∀ (y : Later wb) (o : Obj), (y.at_.alloc o).cell? ⟨mb, 8, none⟩ = some vo := fun y o => ((hal y o).cell (p := ⟨mb, 8, none⟩) (hm' y).own.1).trans (ko y)
  have foA : ∀ (y : Later wb) (o : Obj), (y.at_.alloc o).frozen? ⟨mb, 8, none⟩ = false := fun y o => (hmA y o).own.2 8
  have hownA : ∀ (y : Later wb) (o : Obj), OwnL (y.at_.alloc o) (mb + 1) vo L := fun y o => (hov.kept (hB y)).kept (hal y o)
  have hszA : ∀ (y : Later wb) (o : Obj), mb + 1 ≤ (y.at_.alloc o).heap.size := fun y o => (hmA y o).own.1
  have zlt : ∀ y : Later wb, w.heap.size + 1 < y.at_.heap.size := fun y => by have := hZ y; omega
  have dc00 := fun (y : Later wb) (o : Obj) => ((hal y o).cell (p := ⟨w.heap.size, 0, none⟩) (show w.heap.size < _ by have := zlt y; omega)).trans (c00 y)
  have dc01 := fun (y : Later wb) (o : Obj) => ((hal y o).cell (p := ⟨w.heap.size, 1, none⟩) (show w.heap.size < _ by have := zlt y; omega)).trans (c01 y)
  have dc10 := fun (y : Later wb) (o : Obj) => ((hal y o).cell (p := ⟨w.heap.size + 1, 0, none⟩) (show w.heap.size + 1 < _ by have := zlt y; omega)).trans (c10 y)
  have dc11 := fun (y : Later wb) (o : Obj) => ((hal y o).cell (p := ⟨w.heap.size + 1, 1, none⟩) (show w.heap.size + 1 < _ by have := zlt y; omega)).trans (c11 y)
  have dc12 := fun (y : Later wb) (o : Obj) => ((hal y o).cell (p := ⟨w.heap.size + 1, 2, none⟩) (show w.heap.size + 1 < _ by have := zlt y; omega)).trans (c12 y)
  have dc13 := fun (y : Later wb) (o : Obj) => ((hal y o).cell (p := ⟨w.heap.size + 1, 3, none⟩) (show w.heap.size + 1 < _ by have := zlt y; omega)).trans (c13 y)
  have dc14 := fun (y : Later wb) (o : Obj) => ((hal y o).cell (p := ⟨w.heap.size + 1, 4, none⟩) (show w.heap.size + 1 < _ by have := zlt y; omega)).trans (c14 y)
  have dc15 := fun (y : Later wb) (o : Obj) => ((hal y o).cell (p := ⟨w.heap.size + 1, 5, none⟩) (show w.heap.size + 1 < _ by have := zlt y; omega)).trans (c15 y)
  have kdA := fun (y : Later wb) (o : Obj) => (hmA y o).reg di hdi8
  have fdA := fun (y : Later wb) (o : Obj) => (hmA y o).own.2 di
  have kd' : ∀ y : Later wb, y.at_.cell? ⟨mb, di, none⟩ = some (.int .u64 (R di)) := fun y => ((hB y).cell (p := ⟨mb, di, none⟩) h.own.1).trans (h.reg di hdi8)
  have ka : ∀ y : Later wb, y.at_.cell? ⟨mb, ai, none⟩ = some (.int .u64 (R ai)) := fun y => ((hB y).cell (p := ⟨mb, ai, none⟩) h.own.1).trans (h.reg ai hai8)
  have kb : ∀ y : Later wb, y.at_.cell? ⟨mb, bi, none⟩ = some (.int .u64 (R bi)) := fun y => ((hB y).cell (p := ⟨mb, bi, none⟩) h.own.1).trans (h.reg bi hbi8)
  have fd : ∀ y : Later wb, y.at_.frozen? ⟨mb, di, none⟩ = false := fun y => (hm' y).own.2 di
  have nb8 : ∀ y : Later wb, mb < y.at_.heap.size := fun y => (hm' y).own.1
  have hbA : ∀ (y : Later wb) (o : Obj), Below w.heap.size w (y.at_.alloc o) := fun y o => (hB y).trans ((hal y o).mono (hB y).size)
  have hml := h.own.1
  have HON := hide hon
  have HM := hide hm'
  have HMA := hide hmA
  have HBA := hide hbA
  have HSS := hide (hS tb)
  have HDD := hide (hD tb)
  clear hD
  clear hm' hmA hbA hal kov hov h ho hon hS
  go_enter Oaag.func133, Oaag.ntmps133
  go_wp2_with (first
    | ((with_reducible refine at_later 240 ?_); refine DFT.run (unhide HSS) (unhide HON) _ ?_; intro y__
       obtain ⟨nb, hnb⟩ : ∃ nb, y__.at_.heap.size = nb := ⟨_, rfl⟩
       have bw : w.heap.size + 2 ≤ nb := by rw [← hnb]; exact hZ y__
       have nn0 : nb ≠ w.heap.size := by omega
       have nn1 : w.heap.size ≠ nb := by omega
       have nn2 : nb ≠ w.heap.size + 1 := by omega
       have nn3 : w.heap.size + 1 ≠ nb := by omega)
    | ((with_reducible refine at_latera 183 ?_); refine DFT.runA (unhide HDD) (unhide HON) _ _ ?_; intro y__)
    | ((refine Go.Lax.region_reads _ (by kernel_rfl) (by kernel_rfl) ?_; (repeat (first | go_big_quiet_skip | (go_big_quiet_want; go_big_quiet_op; go_big_quiet_on))); refine wpQuiet_nil ?_); intro y))
  all_goals first
    | (refine bodyPost_box rfl ?_; intro r hr; simp [results, Oaag.results133, go_sem] at hr; subst hr; refine ⟨_, rfl, ?_⟩
       exact unhide HK _ ((unhide HM _).set di hdi8 _) (below_store ((hB _).mono (by omega)) (Nat.le_refl _) _))
    | fail

set_option maxHeartbeats 4000000 in
theorem readhex_133_1 (E M : Nat) (hf : fok E M = true) (md kD kA kB imm : Int) (text : ByteArray) (nn : Bool) (dd : ByteArray) (ee pp gg : Int) (di : Nat) (hdi : bits .and .u8 kD 7 = (di : Int)) (hdi8 : di < 8) (ai bi : Nat) (hai : bits .and .u8 kA 7 = (ai : Int)) (hai8 : ai < 8) (hbi : bits .and .u8 kB 7 = (bi : Int)) (hbi8 : bi < 8) (R : Nat → Int) (L : List Value) (hn : L.length ≤ 1000) (hS : ∀ tb, DFT tb 240 #[.string text] (.agg #[.int .u8 1, .bool nn, .string dd, .int .i16 ee, .int .i64 pp, .int .i32 gg])) : SXm 133 E M md 26 kD kA kB imm text R L R (L ++ [.string ⟨#[119, 114, 111, 110, 103]⟩]) := by
  intro tb mb w K htb ho h hK
  obtain ⟨g1, g2, g3, g4⟩ := fok_bd hf
  have HK := hide hK
  clear hK
  obtain ⟨wb, x0, hwb, r0, r1, hB, hZ⟩ := boxes2 w #[.int .u8 E, .int .u8 M] #[.int .u8 26, .int .u8 kD, .int .u8 kA, .int .u8 kB, .int .u64 imm, .string text] 23 91
  have c00 : ∀ x : Later wb, _ = some (.int .u8 E : Value) := Later.cell r0 0 _ rfl
  have c01 : ∀ x : Later wb, _ = some (.int .u8 M : Value) := Later.cell r0 1 _ rfl
  have c10 : ∀ x : Later wb, _ = some (.int .u8 26 : Value) := Later.cell r1 0 _ rfl
  have c11 : ∀ x : Later wb, _ = some (.int .u8 kD : Value) := Later.cell r1 1 _ rfl
  have c12 : ∀ x : Later wb, _ = some (.int .u8 kA : Value) := Later.cell r1 2 _ rfl
  have c13 : ∀ x : Later wb, _ = some (.int .u8 kB : Value) := Later.cell r1 3 _ rfl
  have c14 : ∀ x : Later wb, _ = some (.int .u64 imm : Value) := Later.cell r1 4 _ rfl
  have c15 : ∀ x : Later wb, _ = some (.string text : Value) := Later.cell r1 5 _ rfl
  have R0 := hide r0
  have R1 := hide r1
  clear r0 r1
  have hne : Nonempty (Later wb) := ⟨x0⟩
  have hm' : ∀ y : Later wb, MX mb R L y.at_ := fun y => h.later (hB y)
  have hon : ∀ y : Later wb, On tb y.at_ := fun y => ho.later (hB y)
  obtain ⟨vo, kov, hov⟩ := h.out
  have hal : ∀ (y : Later wb) (o : Obj), Below y.at_.heap.size y.at_ (y.at_.alloc o) := fun y o => (Below.refl _ _).alloc (Nat.le_refl _) o
  have hmA : ∀ (y : Later wb) (o : Obj), MX mb R L (y.at_.alloc o) := fun y o => (hm' y).later (hal y o)
  have ko : ∀ y : Later wb, y.at_.cell? ⟨mb, 8, none⟩ = some vo := fun y => ((hB y).cell (p := ⟨mb, 8, none⟩) h.own.1).trans kov
  have fo : ∀ y : Later wb, y.at_.frozen? ⟨mb, 8, none⟩ = false := fun y => (hm' y).own.2 8
  have koA : ∀ (y : Later wb) (o : Obj), (y.at_.alloc o).cell? ⟨mb, 8, none⟩ = some vo := fun y o => ((hal y o).cell (p := ⟨mb, 8, none⟩) (hm' y).own.1).trans (ko y)
  have foA : ∀ (y : Later wb) (o : Obj), (y.at_.alloc o).frozen? ⟨mb, 8, none⟩ = false := fun y o => (hmA y o).own.2 8
  have hownA : ∀ (y : Later wb) (o : Obj), OwnL (y.at_.alloc o) (mb + 1) vo L := fun y o => (hov.kept (hB y)).kept (hal y o)
  have hszA : ∀ (y : Later wb) (o : Obj), mb + 1 ≤ (y.at_.alloc o).heap.size := fun y o => (hmA y o).own.1
  have zlt : ∀ y : Later wb, w.heap.size + 1 < y.at_.heap.size := fun y => by have := hZ y; omega
  have dc00 := fun (y : Later wb) (o : Obj) => ((hal y o).cell (p := ⟨w.heap.size, 0, none⟩) (show w.heap.size < _ by have := zlt y; omega)).trans (c00 y)
  have dc01 := fun (y : Later wb) (o : Obj) => ((hal y o).cell (p := ⟨w.heap.size, 1, none⟩) (show w.heap.size < _ by have := zlt y; omega)).trans (c01 y)
  have dc10 := fun (y : Later wb) (o : Obj) => ((hal y o).cell (p := ⟨w.heap.size + 1, 0, none⟩) (show w.heap.size + 1 < _ by have := zlt y; omega)).trans (c10 y)
  have dc11 := fun (y : Later wb) (o : Obj) => ((hal y o).cell (p := ⟨w.heap.size + 1, 1, none⟩) (show w.heap.size + 1 < _ by have := zlt y; omega)).trans (c11 y)
  have dc12 := fun (y : Later wb) (o : Obj) => ((hal y o).cell (p := ⟨w.heap.size + 1, 2, none⟩) (show w.heap.size + 1 < _ by have := zlt y; omega)).trans (c12 y)
  have dc13 := fun (y : Later wb) (o : Obj) => ((hal y o).cell (p := ⟨w.heap.size + 1, 3, none⟩) (show w.heap.size + 1 < _ by have := zlt y; omega)).trans (c13 y)
  have dc14 := fun (y : Later wb) (o : Obj) => ((hal y o).cell (p := ⟨w.heap.size + 1, 4, none⟩) (show w.heap.size + 1 < _ by have := zlt y; omega)).trans (c14 y)
  have dc15 := fun (y : Later wb) (o : Obj) => ((hal y o).cell (p := ⟨w.heap.size + 1, 5, none⟩) (show w.heap.size + 1 < _ by have := zlt y; omega)).trans (c15 y)
  have kdA := fun (y : Later wb) (o : Obj) => (hmA y o).reg di hdi8
  have fdA := fun (y : Later wb) (o : Obj) => (hmA y o).own.2 di
  have kd' : ∀ y : Later wb, y.at_.cell? ⟨mb, di, none⟩ = some (.int .u64 (R di)) := fun y => ((hB y).cell (p := ⟨mb, di, none⟩) h.own.1).trans (h.reg di hdi8)
  have ka : ∀ y : Later wb, y.at_.cell? ⟨mb, ai, none⟩ = some (.int .u64 (R ai)) := fun y => ((hB y).cell (p := ⟨mb, ai, none⟩) h.own.1).trans (h.reg ai hai8)
  have kb : ∀ y : Later wb, y.at_.cell? ⟨mb, bi, none⟩ = some (.int .u64 (R bi)) := fun y => ((hB y).cell (p := ⟨mb, bi, none⟩) h.own.1).trans (h.reg bi hbi8)
  have fd : ∀ y : Later wb, y.at_.frozen? ⟨mb, di, none⟩ = false := fun y => (hm' y).own.2 di
  have nb8 : ∀ y : Later wb, mb < y.at_.heap.size := fun y => (hm' y).own.1
  have hbA : ∀ (y : Later wb) (o : Obj), Below w.heap.size w (y.at_.alloc o) := fun y o => (hB y).trans ((hal y o).mono (hB y).size)
  have hml := h.own.1
  have HON := hide hon
  have HM := hide hm'
  have HMA := hide hmA
  have HBA := hide hbA
  have HSS := hide (hS tb)
  clear hm' hmA hbA hal kov hov h ho hon hS
  go_enter Oaag.func133, Oaag.ntmps133
  go_wp2_with (first
    | ((with_reducible refine at_later 240 ?_); refine DFT.run (unhide HSS) (unhide HON) _ ?_; intro y__
       obtain ⟨nb, hnb⟩ : ∃ nb, y__.at_.heap.size = nb := ⟨_, rfl⟩
       have bw : w.heap.size + 2 ≤ nb := by rw [← hnb]; exact hZ y__
       have nn0 : nb ≠ w.heap.size := by omega
       have nn1 : w.heap.size ≠ nb := by omega
       have nn2 : nb ≠ w.heap.size + 1 := by omega
       have nn3 : w.heap.size + 1 ≠ nb := by omega)
    | (at_builtin; refine wpList_appL rfl _ _ rfl (hownA _ _) rfl (by first | rfl | (rw [World.size_alloc, hnb]; rfl) | (rw [World.size_alloc]; rfl)) (by rfl) (by omega) (hszA _ _) ?_; intro v1 w1 ho1 hb1; obtain ⟨p1, a1, l1, rfl⟩ := ho1.slice; have o1 : w1.cell? ⟨mb, 8, none⟩ = some vo := (hb1.cell (p := ⟨mb, 8, none⟩) (by simp)).trans (koA _ _); have g1 : w1.frozen? ⟨mb, 8, none⟩ = false := (hb1.frozen (p := ⟨mb, 8, none⟩) (by simp)).trans (foA _ _); have HO1 := hide ho1; have HB1 := hide hb1; clear ho1 hb1)
    | ((refine Go.Lax.region_reads _ (by kernel_rfl) (by kernel_rfl) ?_; (repeat (first | go_big_quiet_skip | (go_big_quiet_want; go_big_quiet_op; go_big_quiet_on))); refine wpQuiet_nil ?_); intro y))
  all_goals first
    | (refine bodyPost_box rfl ?_; intro r hr; simp [results, Oaag.results133, go_sem] at hr; subst hr; refine ⟨_, rfl, ?_⟩
       exact unhide HK _ ((unhide HMA _ _).app (unhide HB1) (unhide HO1)) (below_store (((unhide HBA _ _).mono (by omega)).trans ((unhide HB1).mono (by omega))) (Nat.le_refl _) _))
    | fail

set_option maxHeartbeats 4000000 in
theorem readhex_133_2 (E M : Nat) (hf : fok E M = true) (md kD kA kB imm : Int) (text : ByteArray) (nn : Bool) (dd : ByteArray) (ee pp gg : Int) (di : Nat) (hdi : bits .and .u8 kD 7 = (di : Int)) (hdi8 : di < 8) (ai bi : Nat) (hai : bits .and .u8 kA 7 = (ai : Int)) (hai8 : ai < 8) (hbi : bits .and .u8 kB 7 = (bi : Int)) (hbi8 : bi < 8) (R : Nat → Int) (L : List Value) (hn : L.length ≤ 1000) (hS : ∀ tb, DFT tb 240 #[.string text] (.agg #[.int .u8 2, .bool nn, .string dd, .int .i16 ee, .int .i64 pp, .int .i32 gg])) : SXm 133 E M md 26 kD kA kB imm text R L R (L ++ [.string ⟨#[119, 114, 111, 110, 103]⟩]) := by
  intro tb mb w K htb ho h hK
  obtain ⟨g1, g2, g3, g4⟩ := fok_bd hf
  have HK := hide hK
  clear hK
  obtain ⟨wb, x0, hwb, r0, r1, hB, hZ⟩ := boxes2 w #[.int .u8 E, .int .u8 M] #[.int .u8 26, .int .u8 kD, .int .u8 kA, .int .u8 kB, .int .u64 imm, .string text] 23 91
  have c00 : ∀ x : Later wb, _ = some (.int .u8 E : Value) := Later.cell r0 0 _ rfl
  have c01 : ∀ x : Later wb, _ = some (.int .u8 M : Value) := Later.cell r0 1 _ rfl
  have c10 : ∀ x : Later wb, _ = some (.int .u8 26 : Value) := Later.cell r1 0 _ rfl
  have c11 : ∀ x : Later wb, _ = some (.int .u8 kD : Value) := Later.cell r1 1 _ rfl
  have c12 : ∀ x : Later wb, _ = some (.int .u8 kA : Value) := Later.cell r1 2 _ rfl
  have c13 : ∀ x : Later wb, _ = some (.int .u8 kB : Value) := Later.cell r1 3 _ rfl
  have c14 : ∀ x : Later wb, _ = some (.int .u64 imm : Value) := Later.cell r1 4 _ rfl
  have c15 : ∀ x : Later wb, _ = some (.string text : Value) := Later.cell r1 5 _ rfl
  have R0 := hide r0
  have R1 := hide r1
  clear r0 r1
  have hne : Nonempty (Later wb) := ⟨x0⟩
  have hm' : ∀ y : Later wb, MX mb R L y.at_ := fun y => h.later (hB y)
  have hon : ∀ y : Later wb, On tb y.at_ := fun y => ho.later (hB y)
  obtain ⟨vo, kov, hov⟩ := h.out
  have hal : ∀ (y : Later wb) (o : Obj), Below y.at_.heap.size y.at_ (y.at_.alloc o) := fun y o => (Below.refl _ _).alloc (Nat.le_refl _) o
  have hmA : ∀ (y : Later wb) (o : Obj), MX mb R L (y.at_.alloc o) := fun y o => (hm' y).later (hal y o)
  have ko : ∀ y : Later wb, y.at_.cell? ⟨mb, 8, none⟩ = some vo := fun y => ((hB y).cell (p := ⟨mb, 8, none⟩) h.own.1).trans kov
  have fo : ∀ y : Later wb, y.at_.frozen? ⟨mb, 8, none⟩ = false := fun y => (hm' y).own.2 8
  have koA : ∀ (y : Later wb) (o : Obj), (y.at_.alloc o).cell? ⟨mb, 8, none⟩ = some vo := fun y o => ((hal y o).cell (p := ⟨mb, 8, none⟩) (hm' y).own.1).trans (ko y)
  have foA : ∀ (y : Later wb) (o : Obj), (y.at_.alloc o).frozen? ⟨mb, 8, none⟩ = false := fun y o => (hmA y o).own.2 8
  have hownA : ∀ (y : Later wb) (o : Obj), OwnL (y.at_.alloc o) (mb + 1) vo L := fun y o => (hov.kept (hB y)).kept (hal y o)
  have hszA : ∀ (y : Later wb) (o : Obj), mb + 1 ≤ (y.at_.alloc o).heap.size := fun y o => (hmA y o).own.1
  have zlt : ∀ y : Later wb, w.heap.size + 1 < y.at_.heap.size := fun y => by have := hZ y; omega
  have dc00 := fun (y : Later wb) (o : Obj) => ((hal y o).cell (p := ⟨w.heap.size, 0, none⟩) (show w.heap.size < _ by have := zlt y; omega)).trans (c00 y)
  have dc01 := fun (y : Later wb) (o : Obj) => ((hal y o).cell (p := ⟨w.heap.size, 1, none⟩) (show w.heap.size < _ by have := zlt y; omega)).trans (c01 y)
  have dc10 := fun (y : Later wb) (o : Obj) => ((hal y o).cell (p := ⟨w.heap.size + 1, 0, none⟩) (show w.heap.size + 1 < _ by have := zlt y; omega)).trans (c10 y)
  have dc11 := fun (y : Later wb) (o : Obj) => ((hal y o).cell (p := ⟨w.heap.size + 1, 1, none⟩) (show w.heap.size + 1 < _ by have := zlt y; omega)).trans (c11 y)
  have dc12 := fun (y : Later wb) (o : Obj) => ((hal y o).cell (p := ⟨w.heap.size + 1, 2, none⟩) (show w.heap.size + 1 < _ by have := zlt y; omega)).trans (c12 y)
  have dc13 := fun (y : Later wb) (o : Obj) => ((hal y o).cell (p := ⟨w.heap.size + 1, 3, none⟩) (show w.heap.size + 1 < _ by have := zlt y; omega)).trans (c13 y)
  have dc14 := fun (y : Later wb) (o : Obj) => ((hal y o).cell (p := ⟨w.heap.size + 1, 4, none⟩) (show w.heap.size + 1 < _ by have := zlt y; omega)).trans (c14 y)
  have dc15 := fun (y : Later wb) (o : Obj) => ((hal y o).cell (p := ⟨w.heap.size + 1, 5, none⟩) (show w.heap.size + 1 < _ by have := zlt y; omega)).trans (c15 y)
  have kdA := fun (y : Later wb) (o : Obj) => (hmA y o).reg di hdi8
  have fdA := fun (y : Later wb) (o : Obj) => (hmA y o).own.2 di
  have kd' : ∀ y : Later wb, y.at_.cell? ⟨mb, di, none⟩ = some (.int .u64 (R di)) := fun y => ((hB y).cell (p := ⟨mb, di, none⟩) h.own.1).trans (h.reg di hdi8)
  have ka : ∀ y : Later wb, y.at_.cell? ⟨mb, ai, none⟩ = some (.int .u64 (R ai)) := fun y => ((hB y).cell (p := ⟨mb, ai, none⟩) h.own.1).trans (h.reg ai hai8)
  have kb : ∀ y : Later wb, y.at_.cell? ⟨mb, bi, none⟩ = some (.int .u64 (R bi)) := fun y => ((hB y).cell (p := ⟨mb, bi, none⟩) h.own.1).trans (h.reg bi hbi8)
  have fd : ∀ y : Later wb, y.at_.frozen? ⟨mb, di, none⟩ = false := fun y => (hm' y).own.2 di
  have nb8 : ∀ y : Later wb, mb < y.at_.heap.size := fun y => (hm' y).own.1
  have hbA : ∀ (y : Later wb) (o : Obj), Below w.heap.size w (y.at_.alloc o) := fun y o => (hB y).trans ((hal y o).mono (hB y).size)
  have hml := h.own.1
  have HON := hide hon
  have HM := hide hm'
  have HMA := hide hmA
  have HBA := hide hbA
  have HSS := hide (hS tb)
  clear hm' hmA hbA hal kov hov h ho hon hS
  go_enter Oaag.func133, Oaag.ntmps133
  go_wp2_with (first
    | ((with_reducible refine at_later 240 ?_); refine DFT.run (unhide HSS) (unhide HON) _ ?_; intro y__
       obtain ⟨nb, hnb⟩ : ∃ nb, y__.at_.heap.size = nb := ⟨_, rfl⟩
       have bw : w.heap.size + 2 ≤ nb := by rw [← hnb]; exact hZ y__
       have nn0 : nb ≠ w.heap.size := by omega
       have nn1 : w.heap.size ≠ nb := by omega
       have nn2 : nb ≠ w.heap.size + 1 := by omega
       have nn3 : w.heap.size + 1 ≠ nb := by omega)
    | (at_builtin; refine wpList_appL rfl _ _ rfl (hownA _ _) rfl (by first | rfl | (rw [World.size_alloc, hnb]; rfl) | (rw [World.size_alloc]; rfl)) (by rfl) (by omega) (hszA _ _) ?_; intro v1 w1 ho1 hb1; obtain ⟨p1, a1, l1, rfl⟩ := ho1.slice; have o1 : w1.cell? ⟨mb, 8, none⟩ = some vo := (hb1.cell (p := ⟨mb, 8, none⟩) (by simp)).trans (koA _ _); have g1 : w1.frozen? ⟨mb, 8, none⟩ = false := (hb1.frozen (p := ⟨mb, 8, none⟩) (by simp)).trans (foA _ _); have HO1 := hide ho1; have HB1 := hide hb1; clear ho1 hb1)
    | ((refine Go.Lax.region_reads _ (by kernel_rfl) (by kernel_rfl) ?_; (repeat (first | go_big_quiet_skip | (go_big_quiet_want; go_big_quiet_op; go_big_quiet_on))); refine wpQuiet_nil ?_); intro y))
  all_goals first
    | (refine bodyPost_box rfl ?_; intro r hr; simp [results, Oaag.results133, go_sem] at hr; subst hr; refine ⟨_, rfl, ?_⟩
       exact unhide HK _ ((unhide HMA _ _).app (unhide HB1) (unhide HO1)) (below_store (((unhide HBA _ _).mono (by omega)).trans ((unhide HB1).mono (by omega))) (Nat.le_refl _) _))
    | fail

set_option maxHeartbeats 4000000 in
theorem readhex_133_3 (E M : Nat) (hf : fok E M = true) (md kD kA kB imm : Int) (text : ByteArray) (nn : Bool) (dd : ByteArray) (ee pp gg : Int) (di : Nat) (hdi : bits .and .u8 kD 7 = (di : Int)) (hdi8 : di < 8) (ai bi : Nat) (hai : bits .and .u8 kA 7 = (ai : Int)) (hai8 : ai < 8) (hbi : bits .and .u8 kB 7 = (bi : Int)) (hbi8 : bi < 8) (R : Nat → Int) (L : List Value) (hn : L.length ≤ 1000) (hS : ∀ tb, DFT tb 240 #[.string text] (.agg #[.int .u8 3, .bool nn, .string dd, .int .i16 ee, .int .i64 pp, .int .i32 gg])) : SXm 133 E M md 26 kD kA kB imm text R L R (L ++ [.string ⟨#[119, 114, 111, 110, 103]⟩]) := by
  intro tb mb w K htb ho h hK
  obtain ⟨g1, g2, g3, g4⟩ := fok_bd hf
  have HK := hide hK
  clear hK
  obtain ⟨wb, x0, hwb, r0, r1, hB, hZ⟩ := boxes2 w #[.int .u8 E, .int .u8 M] #[.int .u8 26, .int .u8 kD, .int .u8 kA, .int .u8 kB, .int .u64 imm, .string text] 23 91
  have c00 : ∀ x : Later wb, _ = some (.int .u8 E : Value) := Later.cell r0 0 _ rfl
  have c01 : ∀ x : Later wb, _ = some (.int .u8 M : Value) := Later.cell r0 1 _ rfl
  have c10 : ∀ x : Later wb, _ = some (.int .u8 26 : Value) := Later.cell r1 0 _ rfl
  have c11 : ∀ x : Later wb, _ = some (.int .u8 kD : Value) := Later.cell r1 1 _ rfl
  have c12 : ∀ x : Later wb, _ = some (.int .u8 kA : Value) := Later.cell r1 2 _ rfl
  have c13 : ∀ x : Later wb, _ = some (.int .u8 kB : Value) := Later.cell r1 3 _ rfl
  have c14 : ∀ x : Later wb, _ = some (.int .u64 imm : Value) := Later.cell r1 4 _ rfl
  have c15 : ∀ x : Later wb, _ = some (.string text : Value) := Later.cell r1 5 _ rfl
  have R0 := hide r0
  have R1 := hide r1
  clear r0 r1
  have hne : Nonempty (Later wb) := ⟨x0⟩
  have hm' : ∀ y : Later wb, MX mb R L y.at_ := fun y => h.later (hB y)
  have hon : ∀ y : Later wb, On tb y.at_ := fun y => ho.later (hB y)
  obtain ⟨vo, kov, hov⟩ := h.out
  have hal : ∀ (y : Later wb) (o : Obj), Below y.at_.heap.size y.at_ (y.at_.alloc o) := fun y o => (Below.refl _ _).alloc (Nat.le_refl _) o
  have hmA : ∀ (y : Later wb) (o : Obj), MX mb R L (y.at_.alloc o) := fun y o => (hm' y).later (hal y o)
  have ko : ∀ y : Later wb, y.at_.cell? ⟨mb, 8, none⟩ = some vo := fun y => ((hB y).cell (p := ⟨mb, 8, none⟩) h.own.1).trans kov
  have fo : ∀ y : Later wb, y.at_.frozen? ⟨mb, 8, none⟩ = false := fun y => (hm' y).own.2 8
  have koA : ∀ (y : Later wb) (o : Obj), (y.at_.alloc o).cell? ⟨mb, 8, none⟩ = some vo := fun y o => ((hal y o).cell (p := ⟨mb, 8, none⟩) (hm' y).own.1).trans (ko y)
  have foA : ∀ (y : Later wb) (o : Obj), (y.at_.alloc o).frozen? ⟨mb, 8, none⟩ = false := fun y o => (hmA y o).own.2 8
  have hownA : ∀ (y : Later wb) (o : Obj), OwnL (y.at_.alloc o) (mb + 1) vo L := fun y o => (hov.kept (hB y)).kept (hal y o)
  have hszA : ∀ (y : Later wb) (o : Obj), mb + 1 ≤ (y.at_.alloc o).heap.size := fun y o => (hmA y o).own.1
  have zlt : ∀ y : Later wb, w.heap.size + 1 < y.at_.heap.size := fun y => by have := hZ y; omega
  have dc00 := fun (y : Later wb) (o : Obj) => ((hal y o).cell (p := ⟨w.heap.size, 0, none⟩) (show w.heap.size < _ by have := zlt y; omega)).trans (c00 y)
  have dc01 := fun (y : Later wb) (o : Obj) => ((hal y o).cell (p := ⟨w.heap.size, 1, none⟩) (show w.heap.size < _ by have := zlt y; omega)).trans (c01 y)
  have dc10 := fun (y : Later wb) (o : Obj) => ((hal y o).cell (p := ⟨w.heap.size + 1, 0, none⟩) (show w.heap.size + 1 < _ by have := zlt y; omega)).trans (c10 y)
  have dc11 := fun (y : Later wb) (o : Obj) => ((hal y o).cell (p := ⟨w.heap.size + 1, 1, none⟩) (show w.heap.size + 1 < _ by have := zlt y; omega)).trans (c11 y)
  have dc12 := fun (y : Later wb) (o : Obj) => ((hal y o).cell (p := ⟨w.heap.size + 1, 2, none⟩) (show w.heap.size + 1 < _ by have := zlt y; omega)).trans (c12 y)
  have dc13 := fun (y : Later wb) (o : Obj) => ((hal y o).cell (p := ⟨w.heap.size + 1, 3, none⟩) (show w.heap.size + 1 < _ by have := zlt y; omega)).trans (c13 y)
  have dc14 := fun (y : Later wb) (o : Obj) => ((hal y o).cell (p := ⟨w.heap.size + 1, 4, none⟩) (show w.heap.size + 1 < _ by have := zlt y; omega)).trans (c14 y)
  have dc15 := fun (y : Later wb) (o : Obj) => ((hal y o).cell (p := ⟨w.heap.size + 1, 5, none⟩) (show w.heap.size + 1 < _ by have := zlt y; omega)).trans (c15 y)
  have kdA := fun (y : Later wb) (o : Obj) => (hmA y o).reg di hdi8
  have fdA := fun (y : Later wb) (o : Obj) => (hmA y o).own.2 di
  have kd' : ∀ y : Later wb, y.at_.cell? ⟨mb, di, none⟩ = some (.int .u64 (R di)) := fun y => ((hB y).cell (p := ⟨mb, di, none⟩) h.own.1).trans (h.reg di hdi8)
  have ka : ∀ y : Later wb, y.at_.cell? ⟨mb, ai, none⟩ = some (.int .u64 (R ai)) := fun y => ((hB y).cell (p := ⟨mb, ai, none⟩) h.own.1).trans (h.reg ai hai8)
  have kb : ∀ y : Later wb, y.at_.cell? ⟨mb, bi, none⟩ = some (.int .u64 (R bi)) := fun y => ((hB y).cell (p := ⟨mb, bi, none⟩) h.own.1).trans (h.reg bi hbi8)
  have fd : ∀ y : Later wb, y.at_.frozen? ⟨mb, di, none⟩ = false := fun y => (hm' y).own.2 di
  have nb8 : ∀ y : Later wb, mb < y.at_.heap.size := fun y => (hm' y).own.1
  have hbA : ∀ (y : Later wb) (o : Obj), Below w.heap.size w (y.at_.alloc o) := fun y o => (hB y).trans ((hal y o).mono (hB y).size)
  have hml := h.own.1
  have HON := hide hon
  have HM := hide hm'
  have HMA := hide hmA
  have HBA := hide hbA
  have HSS := hide (hS tb)
  clear hm' hmA hbA hal kov hov h ho hon hS
  go_enter Oaag.func133, Oaag.ntmps133
  go_wp2_with (first
    | ((with_reducible refine at_later 240 ?_); refine DFT.run (unhide HSS) (unhide HON) _ ?_; intro y__
       obtain ⟨nb, hnb⟩ : ∃ nb, y__.at_.heap.size = nb := ⟨_, rfl⟩
       have bw : w.heap.size + 2 ≤ nb := by rw [← hnb]; exact hZ y__
       have nn0 : nb ≠ w.heap.size := by omega
       have nn1 : w.heap.size ≠ nb := by omega
       have nn2 : nb ≠ w.heap.size + 1 := by omega
       have nn3 : w.heap.size + 1 ≠ nb := by omega)
    | (at_builtin; refine wpList_appL rfl _ _ rfl (hownA _ _) rfl (by first | rfl | (rw [World.size_alloc, hnb]; rfl) | (rw [World.size_alloc]; rfl)) (by rfl) (by omega) (hszA _ _) ?_; intro v1 w1 ho1 hb1; obtain ⟨p1, a1, l1, rfl⟩ := ho1.slice; have o1 : w1.cell? ⟨mb, 8, none⟩ = some vo := (hb1.cell (p := ⟨mb, 8, none⟩) (by simp)).trans (koA _ _); have g1 : w1.frozen? ⟨mb, 8, none⟩ = false := (hb1.frozen (p := ⟨mb, 8, none⟩) (by simp)).trans (foA _ _); have HO1 := hide ho1; have HB1 := hide hb1; clear ho1 hb1)
    | ((refine Go.Lax.region_reads _ (by kernel_rfl) (by kernel_rfl) ?_; (repeat (first | go_big_quiet_skip | (go_big_quiet_want; go_big_quiet_op; go_big_quiet_on))); refine wpQuiet_nil ?_); intro y))
  all_goals first
    | (refine bodyPost_box rfl ?_; intro r hr; simp [results, Oaag.results133, go_sem] at hr; subst hr; refine ⟨_, rfl, ?_⟩
       exact unhide HK _ ((unhide HMA _ _).app (unhide HB1) (unhide HO1)) (below_store (((unhide HBA _ _).mono (by omega)).trans ((unhide HB1).mono (by omega))) (Nat.le_refl _) _))
    | fail

set_option maxHeartbeats 4000000 in
theorem readhex_133_4 (E M : Nat) (hf : fok E M = true) (md kD kA kB imm : Int) (text : ByteArray) (nn : Bool) (dd : ByteArray) (ee pp gg : Int) (di : Nat) (hdi : bits .and .u8 kD 7 = (di : Int)) (hdi8 : di < 8) (ai bi : Nat) (hai : bits .and .u8 kA 7 = (ai : Int)) (hai8 : ai < 8) (hbi : bits .and .u8 kB 7 = (bi : Int)) (hbi8 : bi < 8) (R : Nat → Int) (L : List Value) (hn : L.length ≤ 1000) (hS : ∀ tb, DFT tb 240 #[.string text] (.agg #[.int .u8 4, .bool nn, .string dd, .int .i16 ee, .int .i64 pp, .int .i32 gg])) : SXm 133 E M md 26 kD kA kB imm text R L R (L ++ [.string ⟨#[116, 111, 111, 32, 98, 105, 103]⟩]) := by
  intro tb mb w K htb ho h hK
  obtain ⟨g1, g2, g3, g4⟩ := fok_bd hf
  have HK := hide hK
  clear hK
  obtain ⟨wb, x0, hwb, r0, r1, hB, hZ⟩ := boxes2 w #[.int .u8 E, .int .u8 M] #[.int .u8 26, .int .u8 kD, .int .u8 kA, .int .u8 kB, .int .u64 imm, .string text] 23 91
  have c00 : ∀ x : Later wb, _ = some (.int .u8 E : Value) := Later.cell r0 0 _ rfl
  have c01 : ∀ x : Later wb, _ = some (.int .u8 M : Value) := Later.cell r0 1 _ rfl
  have c10 : ∀ x : Later wb, _ = some (.int .u8 26 : Value) := Later.cell r1 0 _ rfl
  have c11 : ∀ x : Later wb, _ = some (.int .u8 kD : Value) := Later.cell r1 1 _ rfl
  have c12 : ∀ x : Later wb, _ = some (.int .u8 kA : Value) := Later.cell r1 2 _ rfl
  have c13 : ∀ x : Later wb, _ = some (.int .u8 kB : Value) := Later.cell r1 3 _ rfl
  have c14 : ∀ x : Later wb, _ = some (.int .u64 imm : Value) := Later.cell r1 4 _ rfl
  have c15 : ∀ x : Later wb, _ = some (.string text : Value) := Later.cell r1 5 _ rfl
  have R0 := hide r0
  have R1 := hide r1
  clear r0 r1
  have hne : Nonempty (Later wb) := ⟨x0⟩
  have hm' : ∀ y : Later wb, MX mb R L y.at_ := fun y => h.later (hB y)
  have hon : ∀ y : Later wb, On tb y.at_ := fun y => ho.later (hB y)
  obtain ⟨vo, kov, hov⟩ := h.out
  have hal : ∀ (y : Later wb) (o : Obj), Below y.at_.heap.size y.at_ (y.at_.alloc o) := fun y o => (Below.refl _ _).alloc (Nat.le_refl _) o
  have hmA : ∀ (y : Later wb) (o : Obj), MX mb R L (y.at_.alloc o) := fun y o => (hm' y).later (hal y o)
  have ko : ∀ y : Later wb, y.at_.cell? ⟨mb, 8, none⟩ = some vo := fun y => ((hB y).cell (p := ⟨mb, 8, none⟩) h.own.1).trans kov
  have fo : ∀ y : Later wb, y.at_.frozen? ⟨mb, 8, none⟩ = false := fun y => (hm' y).own.2 8
  have koA : ∀ (y : Later wb) (o : Obj), (y.at_.alloc o).cell? ⟨mb, 8, none⟩ = some vo := fun y o => ((hal y o).cell (p := ⟨mb, 8, none⟩) (hm' y).own.1).trans (ko y)
  have foA : ∀ (y : Later wb) (o : Obj), (y.at_.alloc o).frozen? ⟨mb, 8, none⟩ = false := fun y o => (hmA y o).own.2 8
  have hownA : ∀ (y : Later wb) (o : Obj), OwnL (y.at_.alloc o) (mb + 1) vo L := fun y o => (hov.kept (hB y)).kept (hal y o)
  have hszA : ∀ (y : Later wb) (o : Obj), mb + 1 ≤ (y.at_.alloc o).heap.size := fun y o => (hmA y o).own.1
  have zlt : ∀ y : Later wb, w.heap.size + 1 < y.at_.heap.size := fun y => by have := hZ y; omega
  have dc00 := fun (y : Later wb) (o : Obj) => ((hal y o).cell (p := ⟨w.heap.size, 0, none⟩) (show w.heap.size < _ by have := zlt y; omega)).trans (c00 y)
  have dc01 := fun (y : Later wb) (o : Obj) => ((hal y o).cell (p := ⟨w.heap.size, 1, none⟩) (show w.heap.size < _ by have := zlt y; omega)).trans (c01 y)
  have dc10 := fun (y : Later wb) (o : Obj) => ((hal y o).cell (p := ⟨w.heap.size + 1, 0, none⟩) (show w.heap.size + 1 < _ by have := zlt y; omega)).trans (c10 y)
  have dc11 := fun (y : Later wb) (o : Obj) => ((hal y o).cell (p := ⟨w.heap.size + 1, 1, none⟩) (show w.heap.size + 1 < _ by have := zlt y; omega)).trans (c11 y)
  have dc12 := fun (y : Later wb) (o : Obj) => ((hal y o).cell (p := ⟨w.heap.size + 1, 2, none⟩) (show w.heap.size + 1 < _ by have := zlt y; omega)).trans (c12 y)
  have dc13 := fun (y : Later wb) (o : Obj) => ((hal y o).cell (p := ⟨w.heap.size + 1, 3, none⟩) (show w.heap.size + 1 < _ by have := zlt y; omega)).trans (c13 y)
  have dc14 := fun (y : Later wb) (o : Obj) => ((hal y o).cell (p := ⟨w.heap.size + 1, 4, none⟩) (show w.heap.size + 1 < _ by have := zlt y; omega)).trans (c14 y)
  have dc15 := fun (y : Later wb) (o : Obj) => ((hal y o).cell (p := ⟨w.heap.size + 1, 5, none⟩) (show w.heap.size + 1 < _ by have := zlt y; omega)).trans (c15 y)
  have kdA := fun (y : Later wb) (o : Obj) => (hmA y o).reg di hdi8
  have fdA := fun (y : Later wb) (o : Obj) => (hmA y o).own.2 di
  have kd' : ∀ y : Later wb, y.at_.cell? ⟨mb, di, none⟩ = some (.int .u64 (R di)) := fun y => ((hB y).cell (p := ⟨mb, di, none⟩) h.own.1).trans (h.reg di hdi8)
  have ka : ∀ y : Later wb, y.at_.cell? ⟨mb, ai, none⟩ = some (.int .u64 (R ai)) := fun y => ((hB y).cell (p := ⟨mb, ai, none⟩) h.own.1).trans (h.reg ai hai8)
  have kb : ∀ y : Later wb, y.at_.cell? ⟨mb, bi, none⟩ = some (.int .u64 (R bi)) := fun y => ((hB y).cell (p := ⟨mb, bi, none⟩) h.own.1).trans (h.reg bi hbi8)
  have fd : ∀ y : Later wb, y.at_.frozen? ⟨mb, di, none⟩ = false := fun y => (hm' y).own.2 di
  have nb8 : ∀ y : Later wb, mb < y.at_.heap.size := fun y => (hm' y).own.1
  have hbA : ∀ (y : Later wb) (o : Obj), Below w.heap.size w (y.at_.alloc o) := fun y o => (hB y).trans ((hal y o).mono (hB y).size)
  have hml := h.own.1
  have HON := hide hon
  have HM := hide hm'
  have HMA := hide hmA
  have HBA := hide hbA
  have HSS := hide (hS tb)
  clear hm' hmA hbA hal kov hov h ho hon hS
  go_enter Oaag.func133, Oaag.ntmps133
  go_wp2_with (first
    | ((with_reducible refine at_later 240 ?_); refine DFT.run (unhide HSS) (unhide HON) _ ?_; intro y__
       obtain ⟨nb, hnb⟩ : ∃ nb, y__.at_.heap.size = nb := ⟨_, rfl⟩
       have bw : w.heap.size + 2 ≤ nb := by rw [← hnb]; exact hZ y__
       have nn0 : nb ≠ w.heap.size := by omega
       have nn1 : w.heap.size ≠ nb := by omega
       have nn2 : nb ≠ w.heap.size + 1 := by omega
       have nn3 : w.heap.size + 1 ≠ nb := by omega)
    | (at_builtin; refine wpList_appL rfl _ _ rfl (hownA _ _) rfl (by first | rfl | (rw [World.size_alloc, hnb]; rfl) | (rw [World.size_alloc]; rfl)) (by rfl) (by omega) (hszA _ _) ?_; intro v1 w1 ho1 hb1; obtain ⟨p1, a1, l1, rfl⟩ := ho1.slice; have o1 : w1.cell? ⟨mb, 8, none⟩ = some vo := (hb1.cell (p := ⟨mb, 8, none⟩) (by simp)).trans (koA _ _); have g1 : w1.frozen? ⟨mb, 8, none⟩ = false := (hb1.frozen (p := ⟨mb, 8, none⟩) (by simp)).trans (foA _ _); have HO1 := hide ho1; have HB1 := hide hb1; clear ho1 hb1)
    | ((refine Go.Lax.region_reads _ (by kernel_rfl) (by kernel_rfl) ?_; (repeat (first | go_big_quiet_skip | (go_big_quiet_want; go_big_quiet_op; go_big_quiet_on))); refine wpQuiet_nil ?_); intro y))
  all_goals first
    | (refine bodyPost_box rfl ?_; intro r hr; simp [results, Oaag.results133, go_sem] at hr; subst hr; refine ⟨_, rfl, ?_⟩
       exact unhide HK _ ((unhide HMA _ _).app (unhide HB1) (unhide HO1)) (below_store (((unhide HBA _ _).mono (by omega)).trans ((unhide HB1).mono (by omega))) (Nat.le_refl _) _))
    | fail
end Go.Proofs.YgcoaaGreat.NatW
