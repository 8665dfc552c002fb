/-
  na: the kinds that are handed on; those that do nothing.
-/
import Derived.Test.YgcoaaGreatNaI
import Derived.Test.YgcoaaGreatMxB
set_option linter.unusedVariables false
set_option linter.unusedSimpArgs false
set_option maxRecDepth 20000
namespace Go.Proofs.YgcoaaGreat.NatW
open Go.RowKit
open Go.Proofs.YgcoaaGreat.Det
open Go.Proofs.YgcoaaGreat.Limbs Go.Proofs.YgcoaaGreat.Bits
attribute [local go_sem] Go.Instr.field Go.asAgg

set_option maxHeartbeats 4000000 in
theorem nx_83_13 (E M : Nat) (q : Bool) (hq : NaF E M q) (md kD kA kB imm : Int) (hmd : md = 0 ∨ 4 < md) (text : ByteArray) (di ai bi : Nat) (hdi : bits .and .u8 kD 7 = (di : Int)) (hdi8 : di < 8) (hai : bits .and .u8 kA 7 = (ai : Int)) (hai8 : ai < 8) (hbi : bits .and .u8 kB 7 = (bi : Int)) (hbi8 : bi < 8) (R : Nat → Int) (L : List Value) (R' : Nat → Int) (L' : List Value)
    (hD : SX 155 E M md 13 kD kA kB imm text R L R' L') : SX 83 E M md 13 kD kA kB imm text R L R' L' := by
  intro tb mb w K htb ho h hK
  have hf := hq.fok
  obtain ⟨g1, g2, g3, g4⟩ := fok_bd hf
  have HK := hide hK
  clear hK
  obtain ⟨wb, x0, hwb, r0, r1, hB, hZ⟩ := boxes2 w #[.int .u8 E, .int .u8 M] #[.int .u8 13, .int .u8 kD, .int .u8 kA, .int .u8 kB, .int .u64 imm, .string text] 23 91
  have c00 : ∀ x : Later wb, _ = some (.int .u8 E : Value) := Later.cell r0 0 _ rfl
  have c01 : ∀ x : Later wb, _ = some (.int .u8 M : Value) := Later.cell r0 1 _ rfl
  have c10 : ∀ x : Later wb, _ = some (.int .u8 13 : Value) := Later.cell r1 0 _ rfl
  have c11 : ∀ x : Later wb, _ = some (.int .u8 kD : Value) := Later.cell r1 1 _ rfl
  have c12 : ∀ x : Later wb, _ = some (.int .u8 kA : Value) := Later.cell r1 2 _ rfl
  have c13 : ∀ x : Later wb, _ = some (.int .u8 kB : Value) := Later.cell r1 3 _ rfl
  have c14 : ∀ x : Later wb, _ = some (.int .u64 imm : Value) := Later.cell r1 4 _ rfl
  have c15 : ∀ x : Later wb, _ = some (.string text : Value) := Later.cell r1 5 _ rfl
  have hne : Nonempty (Later wb) := ⟨x0⟩
  have hm' : ∀ y : Later wb, MX mb R L y.at_ := fun y => h.later (hB y)
  have hon : ∀ y : Later wb, On tb y.at_ := fun y => ho.later (hB y)
  have kd : ∀ y : Later wb, y.at_.cell? ⟨mb, di, none⟩ = some (.int .u64 (R di)) := fun y => ((hB y).cell (p := ⟨mb, di, none⟩) h.own.1).trans (h.reg di hdi8)
  have ka : ∀ y : Later wb, y.at_.cell? ⟨mb, ai, none⟩ = some (.int .u64 (R ai)) := fun y => ((hB y).cell (p := ⟨mb, ai, none⟩) h.own.1).trans (h.reg ai hai8)
  have kb : ∀ y : Later wb, y.at_.cell? ⟨mb, bi, none⟩ = some (.int .u64 (R bi)) := fun y => ((hB y).cell (p := ⟨mb, bi, none⟩) h.own.1).trans (h.reg bi hbi8)
  have fd : ∀ y : Later wb, y.at_.frozen? ⟨mb, di, none⟩ = false := fun y => (hm' y).own.2 di
  have hml := h.own.1
  have HON := hide hon
  have HM := hide hm'
  have HDD := hide hD
  clear hD
  refine na_head83 E M q hq md 13 kD kA kB imm text di ai bi hdi hdi8 hai hai8 hbi hbi8 R L tb mb w K h hmd wb x0 hwb r0 r1 hB _ rfl ?_
  clear h ho hon hm' r0 r1
  intro y u14 u15 u16 u17 u18 u19 u20 u21 u22 u23 u24 u25 u26 u27 u28 u29 u30 u31 u32 u33 u34 u35 u36 u37 u38 u39 u40 u41 u42 u43 u44 u45 u46 u47 u48 u49 u50 u51 u52 u53 u54 u55 u56 u57 u58 u59 u60 u61 u62 u63
  generalize hQ : bodyPost Oaag.prog Oaag.f83 K = Q
  dsimp only [sR, bodyOf, Oaag.f83, Option.getD]
  subst hQ
  go_wp2_with (first
    | ((with_reducible refine at_later 155 ?_)
       refine (unhide HDD) tb mb _ _ htb (unhide HON _) (unhide HM _) ?_
       intro w9 hm9 hb9
       have HM9 := hide hm9
       have HB9 := hide (((hB _).mono (by omega)).trans hb9)
       clear hm9 hb9)
    | fail)
  all_goals first
    | (refine bodyPost_box rfl ?_; intro r hr; simp [results, Oaag.results83, go_sem] at hr; subst hr; refine ⟨_, rfl, ?_⟩
       exact unhide HK _ (unhide HM9) (unhide HB9))
    | fail

set_option maxHeartbeats 4000000 in
theorem nx_83_hi (E M : Nat) (q : Bool) (hq : NaF E M q) (md kD kA kB imm : Int) (hmd : md = 0 ∨ 4 < md) (text : ByteArray) (di ai bi : Nat) (hdi : bits .and .u8 kD 7 = (di : Int)) (hdi8 : di < 8) (hai : bits .and .u8 kA 7 = (ai : Int)) (hai8 : ai < 8) (hbi : bits .and .u8 kB 7 = (bi : Int)) (hbi8 : bi < 8) (R : Nat → Int) (L : List Value) (R' : Nat → Int) (L' : List Value) (k0 : Int) (h15 : 15 ≤ k0)
    (hD : SX 157 E M md k0 kD kA kB imm text R L R' L') : SX 83 E M md k0 kD kA kB imm text R L R' L' := by
  have ne0 : ¬ k0 = 0 := by omega
  have ne1 : ¬ k0 = 1 := by omega
  have ne2 : ¬ k0 = 2 := by omega
  have ne3 : ¬ k0 = 3 := by omega
  have ne4 : ¬ k0 = 4 := by omega
  have ne5 : ¬ k0 = 5 := by omega
  have ne6 : ¬ k0 = 6 := by omega
  have ne7 : ¬ k0 = 7 := by omega
  have ne8 : ¬ k0 = 8 := by omega
  have ne9 : ¬ k0 = 9 := by omega
  have ne10 : ¬ k0 = 10 := by omega
  have ne11 : ¬ k0 = 11 := by omega
  have ne12 : ¬ k0 = 12 := by omega
  have ne13 : ¬ k0 = 13 := by omega
  have ne14 : ¬ k0 = 14 := by omega
  clear h15
  intro tb mb w K htb ho h hK
  have hf := hq.fok
  obtain ⟨g1, g2, g3, g4⟩ := fok_bd hf
  have HK := hide hK
  clear hK
  obtain ⟨wb, x0, hwb, r0, r1, hB, hZ⟩ := boxes2 w #[.int .u8 E, .int .u8 M] #[.int .u8 k0, .int .u8 kD, .int .u8 kA, .int .u8 kB, .int .u64 imm, .string text] 23 91
  have c00 : ∀ x : Later wb, _ = some (.int .u8 E : Value) := Later.cell r0 0 _ rfl
  have c01 : ∀ x : Later wb, _ = some (.int .u8 M : Value) := Later.cell r0 1 _ rfl
  have c10 : ∀ x : Later wb, _ = some (.int .u8 k0 : Value) := Later.cell r1 0 _ rfl
  have c11 : ∀ x : Later wb, _ = some (.int .u8 kD : Value) := Later.cell r1 1 _ rfl
  have c12 : ∀ x : Later wb, _ = some (.int .u8 kA : Value) := Later.cell r1 2 _ rfl
  have c13 : ∀ x : Later wb, _ = some (.int .u8 kB : Value) := Later.cell r1 3 _ rfl
  have c14 : ∀ x : Later wb, _ = some (.int .u64 imm : Value) := Later.cell r1 4 _ rfl
  have c15 : ∀ x : Later wb, _ = some (.string text : Value) := Later.cell r1 5 _ rfl
  have hne : Nonempty (Later wb) := ⟨x0⟩
  have hm' : ∀ y : Later wb, MX mb R L y.at_ := fun y => h.later (hB y)
  have hon : ∀ y : Later wb, On tb y.at_ := fun y => ho.later (hB y)
  have kd : ∀ y : Later wb, y.at_.cell? ⟨mb, di, none⟩ = some (.int .u64 (R di)) := fun y => ((hB y).cell (p := ⟨mb, di, none⟩) h.own.1).trans (h.reg di hdi8)
  have ka : ∀ y : Later wb, y.at_.cell? ⟨mb, ai, none⟩ = some (.int .u64 (R ai)) := fun y => ((hB y).cell (p := ⟨mb, ai, none⟩) h.own.1).trans (h.reg ai hai8)
  have kb : ∀ y : Later wb, y.at_.cell? ⟨mb, bi, none⟩ = some (.int .u64 (R bi)) := fun y => ((hB y).cell (p := ⟨mb, bi, none⟩) h.own.1).trans (h.reg bi hbi8)
  have fd : ∀ y : Later wb, y.at_.frozen? ⟨mb, di, none⟩ = false := fun y => (hm' y).own.2 di
  have hml := h.own.1
  have HON := hide hon
  have HM := hide hm'
  have HDD := hide hD
  clear hD
  refine na_head83 E M q hq md k0 kD kA kB imm text di ai bi hdi hdi8 hai hai8 hbi hbi8 R L tb mb w K h hmd wb x0 hwb r0 r1 hB _ rfl ?_
  clear h ho hon hm' r0 r1
  intro y u14 u15 u16 u17 u18 u19 u20 u21 u22 u23 u24 u25 u26 u27 u28 u29 u30 u31 u32 u33 u34 u35 u36 u37 u38 u39 u40 u41 u42 u43 u44 u45 u46 u47 u48 u49 u50 u51 u52 u53 u54 u55 u56 u57 u58 u59 u60 u61 u62 u63
  generalize hQ : bodyPost Oaag.prog Oaag.f83 K = Q
  dsimp only [sR, bodyOf, Oaag.f83, Option.getD]
  subst hQ
  go_wp2_with (first
    | ((with_reducible refine at_later 157 ?_)
       refine (unhide HDD) tb mb _ _ htb (unhide HON _) (unhide HM _) ?_
       intro w9 hm9 hb9
       have HM9 := hide hm9
       have HB9 := hide (((hB _).mono (by omega)).trans hb9)
       clear hm9 hb9)
    | fail)
  all_goals first
    | (refine bodyPost_box rfl ?_; intro r hr; simp [results, Oaag.results83, go_sem] at hr; subst hr; refine ⟨_, rfl, ?_⟩
       exact unhide HK _ (unhide HM9) (unhide HB9))
    | fail

set_option maxHeartbeats 4000000 in
theorem nx_157_27 (E M : Nat) (q : Bool) (hq : NaF E M q) (md kD kA kB imm : Int) (text : ByteArray) (di ai bi : Nat) (hdi : bits .and .u8 kD 7 = (di : Int)) (hdi8 : di < 8) (hai : bits .and .u8 kA 7 = (ai : Int)) (hai8 : ai < 8) (hbi : bits .and .u8 kB 7 = (bi : Int)) (hbi8 : bi < 8) (R : Nat → Int) (L : List Value) (R' : Nat → Int) (L' : List Value)
    (hD : SX 300 E M md 27 kD kA kB imm text R L R' L') : SX 157 E M md 27 kD kA kB imm text R L R' L' := by
  intro tb mb w K htb ho h hK
  have hf := hq.fok
  obtain ⟨g1, g2, g3, g4⟩ := fok_bd hf
  have HK := hide hK
  clear hK
  obtain ⟨wb, x0, hwb, r0, r1, hB, hZ⟩ := boxes2 w #[.int .u8 E, .int .u8 M] #[.int .u8 27, .int .u8 kD, .int .u8 kA, .int .u8 kB, .int .u64 imm, .string text] 23 91
  have c00 : ∀ x : Later wb, _ = some (.int .u8 E : Value) := Later.cell r0 0 _ rfl
  have c01 : ∀ x : Later wb, _ = some (.int .u8 M : Value) := Later.cell r0 1 _ rfl
  have c10 : ∀ x : Later wb, _ = some (.int .u8 27 : Value) := Later.cell r1 0 _ rfl
  have c11 : ∀ x : Later wb, _ = some (.int .u8 kD : Value) := Later.cell r1 1 _ rfl
  have c12 : ∀ x : Later wb, _ = some (.int .u8 kA : Value) := Later.cell r1 2 _ rfl
  have c13 : ∀ x : Later wb, _ = some (.int .u8 kB : Value) := Later.cell r1 3 _ rfl
  have c14 : ∀ x : Later wb, _ = some (.int .u64 imm : Value) := Later.cell r1 4 _ rfl
  have c15 : ∀ x : Later wb, _ = some (.string text : Value) := Later.cell r1 5 _ rfl
  have hne : Nonempty (Later wb) := ⟨x0⟩
  have hm' : ∀ y : Later wb, MX mb R L y.at_ := fun y => h.later (hB y)
  have hon : ∀ y : Later wb, On tb y.at_ := fun y => ho.later (hB y)
  have kd : ∀ y : Later wb, y.at_.cell? ⟨mb, di, none⟩ = some (.int .u64 (R di)) := fun y => ((hB y).cell (p := ⟨mb, di, none⟩) h.own.1).trans (h.reg di hdi8)
  have ka : ∀ y : Later wb, y.at_.cell? ⟨mb, ai, none⟩ = some (.int .u64 (R ai)) := fun y => ((hB y).cell (p := ⟨mb, ai, none⟩) h.own.1).trans (h.reg ai hai8)
  have kb : ∀ y : Later wb, y.at_.cell? ⟨mb, bi, none⟩ = some (.int .u64 (R bi)) := fun y => ((hB y).cell (p := ⟨mb, bi, none⟩) h.own.1).trans (h.reg bi hbi8)
  have fd : ∀ y : Later wb, y.at_.frozen? ⟨mb, di, none⟩ = false := fun y => (hm' y).own.2 di
  have hml := h.own.1
  have HON := hide hon
  have HM := hide hm'
  have HDD := hide hD
  clear hD
  refine na_head157 E M q hq md 27 kD kA kB imm text di ai bi hdi hdi8 hai hai8 hbi hbi8 R L tb mb w K h wb x0 hwb r0 r1 hB _ rfl ?_
  clear h ho hon hm' r0 r1
  intro y u15 u16 u17 u18 u19 u20 u21 u22 u23 u24 u25 u26 u27 u28 u29 u30 u31 u32 u33 u34 u35 u36 u37 u38 u39 u40
  generalize hQ : bodyPost Oaag.prog Oaag.f157 K = Q
  dsimp only [sR, bodyOf, Oaag.f157, Option.getD]
  subst hQ
  go_wp2_with (first
    | ((with_reducible refine at_later 300 ?_)
       refine (unhide HDD) tb mb _ _ htb (unhide HON _) (unhide HM _) ?_
       intro w9 hm9 hb9
       have HM9 := hide hm9
       have HB9 := hide (((hB _).mono (by omega)).trans hb9)
       clear hm9 hb9)
    | fail)
  all_goals first
    | (refine bodyPost_box rfl ?_; intro r hr; simp [results, Oaag.results157, go_sem] at hr; subst hr; refine ⟨_, rfl, ?_⟩
       exact unhide HK _ (unhide HM9) (unhide HB9))
    | fail

set_option maxHeartbeats 4000000 in
theorem nx_157_22 (E M : Nat) (q : Bool) (hq : NaF E M q) (md kD kA kB imm : Int) (text : ByteArray) (di ai bi : Nat) (hdi : bits .and .u8 kD 7 = (di : Int)) (hdi8 : di < 8) (hai : bits .and .u8 kA 7 = (ai : Int)) (hai8 : ai < 8) (hbi : bits .and .u8 kB 7 = (bi : Int)) (hbi8 : bi < 8) (R : Nat → Int) (L : List Value) : SX 157 E M md 22 kD kA kB imm text R L R L := by
  intro tb mb w K htb ho h hK
  have hf := hq.fok
  obtain ⟨g1, g2, g3, g4⟩ := fok_bd hf
  have HK := hide hK
  clear hK
  obtain ⟨wb, x0, hwb, r0, r1, hB, hZ⟩ := boxes2 w #[.int .u8 E, .int .u8 M] #[.int .u8 22, .int .u8 kD, .int .u8 kA, .int .u8 kB, .int .u64 imm, .string text] 23 91
  have c00 : ∀ x : Later wb, _ = some (.int .u8 E : Value) := Later.cell r0 0 _ rfl
  have c01 : ∀ x : Later wb, _ = some (.int .u8 M : Value) := Later.cell r0 1 _ rfl
  have c10 : ∀ x : Later wb, _ = some (.int .u8 22 : Value) := Later.cell r1 0 _ rfl
  have c11 : ∀ x : Later wb, _ = some (.int .u8 kD : Value) := Later.cell r1 1 _ rfl
  have c12 : ∀ x : Later wb, _ = some (.int .u8 kA : Value) := Later.cell r1 2 _ rfl
  have c13 : ∀ x : Later wb, _ = some (.int .u8 kB : Value) := Later.cell r1 3 _ rfl
  have c14 : ∀ x : Later wb, _ = some (.int .u64 imm : Value) := Later.cell r1 4 _ rfl
  have c15 : ∀ x : Later wb, _ = some (.string text : Value) := Later.cell r1 5 _ rfl
  have hne : Nonempty (Later wb) := ⟨x0⟩
  have hm' : ∀ y : Later wb, MX mb R L y.at_ := fun y => h.later (hB y)
  have hon : ∀ y : Later wb, On tb y.at_ := fun y => ho.later (hB y)
  have kd : ∀ y : Later wb, y.at_.cell? ⟨mb, di, none⟩ = some (.int .u64 (R di)) := fun y => ((hB y).cell (p := ⟨mb, di, none⟩) h.own.1).trans (h.reg di hdi8)
  have ka : ∀ y : Later wb, y.at_.cell? ⟨mb, ai, none⟩ = some (.int .u64 (R ai)) := fun y => ((hB y).cell (p := ⟨mb, ai, none⟩) h.own.1).trans (h.reg ai hai8)
  have kb : ∀ y : Later wb, y.at_.cell? ⟨mb, bi, none⟩ = some (.int .u64 (R bi)) := fun y => ((hB y).cell (p := ⟨mb, bi, none⟩) h.own.1).trans (h.reg bi hbi8)
  have fd : ∀ y : Later wb, y.at_.frozen? ⟨mb, di, none⟩ = false := fun y => (hm' y).own.2 di
  have hml := h.own.1
  have HON := hide hon
  have HM := hide hm'
  refine na_head157 E M q hq md 22 kD kA kB imm text di ai bi hdi hdi8 hai hai8 hbi hbi8 R L tb mb w K h wb x0 hwb r0 r1 hB _ rfl ?_
  clear h ho hon hm' r0 r1
  intro y u15 u16 u17 u18 u19 u20 u21 u22 u23 u24 u25 u26 u27 u28 u29 u30 u31 u32 u33 u34 u35 u36 u37 u38 u39 u40
  generalize hQ : bodyPost Oaag.prog Oaag.f157 K = Q
  dsimp only [sR, bodyOf, Oaag.f157, Option.getD]
  subst hQ
  go_wp2_with fail
  all_goals first
    | (refine bodyPost_box rfl ?_; intro r hr; simp [results, Oaag.results157, go_sem] at hr; subst hr; refine ⟨_, rfl, ?_⟩
       exact unhide HK _ (unhide HM _) ((hB _).mono (by omega)))
    | fail

set_option maxHeartbeats 4000000 in
theorem nx_157_28 (E M : Nat) (q : Bool) (hq : NaF E M q) (md kD kA kB imm : Int) (text : ByteArray) (di ai bi : Nat) (hdi : bits .and .u8 kD 7 = (di : Int)) (hdi8 : di < 8) (hai : bits .and .u8 kA 7 = (ai : Int)) (hai8 : ai < 8) (hbi : bits .and .u8 kB 7 = (bi : Int)) (hbi8 : bi < 8) (R : Nat → Int) (L : List Value) : SX 157 E M md 28 kD kA kB imm text R L R L := by
  intro tb mb w K htb ho h hK
  have hf := hq.fok
  obtain ⟨g1, g2, g3, g4⟩ := fok_bd hf
  have HK := hide hK
  clear hK
  obtain ⟨wb, x0, hwb, r0, r1, hB, hZ⟩ := boxes2 w #[.int .u8 E, .int .u8 M] #[.int .u8 28, .int .u8 kD, .int .u8 kA, .int .u8 kB, .int .u64 imm, .string text] 23 91
  have c00 : ∀ x : Later wb, _ = some (.int .u8 E : Value) := Later.cell r0 0 _ rfl
  have c01 : ∀ x : Later wb, _ = some (.int .u8 M : Value) := Later.cell r0 1 _ rfl
  have c10 : ∀ x : Later wb, _ = some (.int .u8 28 : Value) := Later.cell r1 0 _ rfl
  have c11 : ∀ x : Later wb, _ = some (.int .u8 kD : Value) := Later.cell r1 1 _ rfl
  have c12 : ∀ x : Later wb, _ = some (.int .u8 kA : Value) := Later.cell r1 2 _ rfl
  have c13 : ∀ x : Later wb, _ = some (.int .u8 kB : Value) := Later.cell r1 3 _ rfl
  have c14 : ∀ x : Later wb, _ = some (.int .u64 imm : Value) := Later.cell r1 4 _ rfl
  have c15 : ∀ x : Later wb, _ = some (.string text : Value) := Later.cell r1 5 _ rfl
  have hne : Nonempty (Later wb) := ⟨x0⟩
  have hm' : ∀ y : Later wb, MX mb R L y.at_ := fun y => h.later (hB y)
  have hon : ∀ y : Later wb, On tb y.at_ := fun y => ho.later (hB y)
  have kd : ∀ y : Later wb, y.at_.cell? ⟨mb, di, none⟩ = some (.int .u64 (R di)) := fun y => ((hB y).cell (p := ⟨mb, di, none⟩) h.own.1).trans (h.reg di hdi8)
  have ka : ∀ y : Later wb, y.at_.cell? ⟨mb, ai, none⟩ = some (.int .u64 (R ai)) := fun y => ((hB y).cell (p := ⟨mb, ai, none⟩) h.own.1).trans (h.reg ai hai8)
  have kb : ∀ y : Later wb, y.at_.cell? ⟨mb, bi, none⟩ = some (.int .u64 (R bi)) := fun y => ((hB y).cell (p := ⟨mb, bi, none⟩) h.own.1).trans (h.reg bi hbi8)
  have fd : ∀ y : Later wb, y.at_.frozen? ⟨mb, di, none⟩ = false := fun y => (hm' y).own.2 di
  have hml := h.own.1
  have HON := hide hon
  have HM := hide hm'
  refine na_head157 E M q hq md 28 kD kA kB imm text di ai bi hdi hdi8 hai hai8 hbi hbi8 R L tb mb w K h wb x0 hwb r0 r1 hB _ rfl ?_
  clear h ho hon hm' r0 r1
  intro y u15 u16 u17 u18 u19 u20 u21 u22 u23 u24 u25 u26 u27 u28 u29 u30 u31 u32 u33 u34 u35 u36 u37 u38 u39 u40
  generalize hQ : bodyPost Oaag.prog Oaag.f157 K = Q
  dsimp only [sR, bodyOf, Oaag.f157, Option.getD]
  subst hQ
  go_wp2_with fail
  all_goals first
    | (refine bodyPost_box rfl ?_; intro r hr; simp [results, Oaag.results157, go_sem] at hr; subst hr; refine ⟨_, rfl, ?_⟩
       exact unhide HK _ (unhide HM _) ((hB _).mono (by omega)))
    | fail

set_option maxHeartbeats 4000000 in
theorem nx_157_29 (E M : Nat) (q : Bool) (hq : NaF E M q) (md kD kA kB imm : Int) (text : ByteArray) (di ai bi : Nat) (hdi : bits .and .u8 kD 7 = (di : Int)) (hdi8 : di < 8) (hai : bits .and .u8 kA 7 = (ai : Int)) (hai8 : ai < 8) (hbi : bits .and .u8 kB 7 = (bi : Int)) (hbi8 : bi < 8) (R : Nat → Int) (L : List Value) : SX 157 E M md 29 kD kA kB imm text R L R L := by
  intro tb mb w K htb ho h hK
  have hf := hq.fok
  obtain ⟨g1, g2, g3, g4⟩ := fok_bd hf
  have HK := hide hK
  clear hK
  obtain ⟨wb, x0, hwb, r0, r1, hB, hZ⟩ := boxes2 w #[.int .u8 E, .int .u8 M] #[.int .u8 29, .int .u8 kD, .int .u8 kA, .int .u8 kB, .int .u64 imm, .string text] 23 91
  have c00 : ∀ x : Later wb, _ = some (.int .u8 E : Value) := Later.cell r0 0 _ rfl
  have c01 : ∀ x : Later wb, _ = some (.int .u8 M : Value) := Later.cell r0 1 _ rfl
  have c10 : ∀ x : Later wb, _ = some (.int .u8 29 : Value) := Later.cell r1 0 _ rfl
  have c11 : ∀ x : Later wb, _ = some (.int .u8 kD : Value) := Later.cell r1 1 _ rfl
  have c12 : ∀ x : Later wb, _ = some (.int .u8 kA : Value) := Later.cell r1 2 _ rfl
  have c13 : ∀ x : Later wb, _ = some (.int .u8 kB : Value) := Later.cell r1 3 _ rfl
  have c14 : ∀ x : Later wb, _ = some (.int .u64 imm : Value) := Later.cell r1 4 _ rfl
  have c15 : ∀ x : Later wb, _ = some (.string text : Value) := Later.cell r1 5 _ rfl
  have hne : Nonempty (Later wb) := ⟨x0⟩
  have hm' : ∀ y : Later wb, MX mb R L y.at_ := fun y => h.later (hB y)
  have hon : ∀ y : Later wb, On tb y.at_ := fun y => ho.later (hB y)
  have kd : ∀ y : Later wb, y.at_.cell? ⟨mb, di, none⟩ = some (.int .u64 (R di)) := fun y => ((hB y).cell (p := ⟨mb, di, none⟩) h.own.1).trans (h.reg di hdi8)
  have ka : ∀ y : Later wb, y.at_.cell? ⟨mb, ai, none⟩ = some (.int .u64 (R ai)) := fun y => ((hB y).cell (p := ⟨mb, ai, none⟩) h.own.1).trans (h.reg ai hai8)
  have kb : ∀ y : Later wb, y.at_.cell? ⟨mb, bi, none⟩ = some (.int .u64 (R bi)) := fun y => ((hB y).cell (p := ⟨mb, bi, none⟩) h.own.1).trans (h.reg bi hbi8)
  have fd : ∀ y : Later wb, y.at_.frozen? ⟨mb, di, none⟩ = false := fun y => (hm' y).own.2 di
  have hml := h.own.1
  have HON := hide hon
  have HM := hide hm'
  refine na_head157 E M q hq md 29 kD kA kB imm text di ai bi hdi hdi8 hai hai8 hbi hbi8 R L tb mb w K h wb x0 hwb r0 r1 hB _ rfl ?_
  clear h ho hon hm' r0 r1
  intro y u15 u16 u17 u18 u19 u20 u21 u22 u23 u24 u25 u26 u27 u28 u29 u30 u31 u32 u33 u34 u35 u36 u37 u38 u39 u40
  generalize hQ : bodyPost Oaag.prog Oaag.f157 K = Q
  dsimp only [sR, bodyOf, Oaag.f157, Option.getD]
  subst hQ
  go_wp2_with fail
  all_goals first
    | (refine bodyPost_box rfl ?_; intro r hr; simp [results, Oaag.results157, go_sem] at hr; subst hr; refine ⟨_, rfl, ?_⟩
       exact unhide HK _ (unhide HM _) ((hB _).mono (by omega)))
    | fail

set_option maxHeartbeats 4000000 in
theorem nx_157_30 (E M : Nat) (q : Bool) (hq : NaF E M q) (md kD kA kB imm : Int) (text : ByteArray) (di ai bi : Nat) (hdi : bits .and .u8 kD 7 = (di : Int)) (hdi8 : di < 8) (hai : bits .and .u8 kA 7 = (ai : Int)) (hai8 : ai < 8) (hbi : bits .and .u8 kB 7 = (bi : Int)) (hbi8 : bi < 8) (R : Nat → Int) (L : List Value) : SX 157 E M md 30 kD kA kB imm text R L R L := by
  intro tb mb w K htb ho h hK
  have hf := hq.fok
  obtain ⟨g1, g2, g3, g4⟩ := fok_bd hf
  have HK := hide hK
  clear hK
  obtain ⟨wb, x0, hwb, r0, r1, hB, hZ⟩ := boxes2 w #[.int .u8 E, .int .u8 M] #[.int .u8 30, .int .u8 kD, .int .u8 kA, .int .u8 kB, .int .u64 imm, .string text] 23 91
  have c00 : ∀ x : Later wb, _ = some (.int .u8 E : Value) := Later.cell r0 0 _ rfl
  have c01 : ∀ x : Later wb, _ = some (.int .u8 M : Value) := Later.cell r0 1 _ rfl
  have c10 : ∀ x : Later wb, _ = some (.int .u8 30 : Value) := Later.cell r1 0 _ rfl
  have c11 : ∀ x : Later wb, _ = some (.int .u8 kD : Value) := Later.cell r1 1 _ rfl
  have c12 : ∀ x : Later wb, _ = some (.int .u8 kA : Value) := Later.cell r1 2 _ rfl
  have c13 : ∀ x : Later wb, _ = some (.int .u8 kB : Value) := Later.cell r1 3 _ rfl
  have c14 : ∀ x : Later wb, _ = some (.int .u64 imm : Value) := Later.cell r1 4 _ rfl
  have c15 : ∀ x : Later wb, _ = some (.string text : Value) := Later.cell r1 5 _ rfl
  have hne : Nonempty (Later wb) := ⟨x0⟩
  have hm' : ∀ y : Later wb, MX mb R L y.at_ := fun y => h.later (hB y)
  have hon : ∀ y : Later wb, On tb y.at_ := fun y => ho.later (hB y)
  have kd : ∀ y : Later wb, y.at_.cell? ⟨mb, di, none⟩ = some (.int .u64 (R di)) := fun y => ((hB y).cell (p := ⟨mb, di, none⟩) h.own.1).trans (h.reg di hdi8)
  have ka : ∀ y : Later wb, y.at_.cell? ⟨mb, ai, none⟩ = some (.int .u64 (R ai)) := fun y => ((hB y).cell (p := ⟨mb, ai, none⟩) h.own.1).trans (h.reg ai hai8)
  have kb : ∀ y : Later wb, y.at_.cell? ⟨mb, bi, none⟩ = some (.int .u64 (R bi)) := fun y => ((hB y).cell (p := ⟨mb, bi, none⟩) h.own.1).trans (h.reg bi hbi8)
  have fd : ∀ y : Later wb, y.at_.frozen? ⟨mb, di, none⟩ = false := fun y => (hm' y).own.2 di
  have hml := h.own.1
  have HON := hide hon
  have HM := hide hm'
  refine na_head157 E M q hq md 30 kD kA kB imm text di ai bi hdi hdi8 hai hai8 hbi hbi8 R L tb mb w K h wb x0 hwb r0 r1 hB _ rfl ?_
  clear h ho hon hm' r0 r1
  intro y u15 u16 u17 u18 u19 u20 u21 u22 u23 u24 u25 u26 u27 u28 u29 u30 u31 u32 u33 u34 u35 u36 u37 u38 u39 u40
  generalize hQ : bodyPost Oaag.prog Oaag.f157 K = Q
  dsimp only [sR, bodyOf, Oaag.f157, Option.getD]
  subst hQ
  go_wp2_with fail
  all_goals first
    | (refine bodyPost_box rfl ?_; intro r hr; simp [results, Oaag.results157, go_sem] at hr; subst hr; refine ⟨_, rfl, ?_⟩
       exact unhide HK _ (unhide HM _) ((hB _).mono (by omega)))
    | fail

set_option maxHeartbeats 4000000 in
theorem nx_157_33 (E M : Nat) (q : Bool) (hq : NaF E M q) (md kD kA kB imm : Int) (text : ByteArray) (di ai bi : Nat) (hdi : bits .and .u8 kD 7 = (di : Int)) (hdi8 : di < 8) (hai : bits .and .u8 kA 7 = (ai : Int)) (hai8 : ai < 8) (hbi : bits .and .u8 kB 7 = (bi : Int)) (hbi8 : bi < 8) (R : Nat → Int) (L : List Value) : SX 157 E M md 33 kD kA kB imm text R L R L := by
  intro tb mb w K htb ho h hK
  have hf := hq.fok
  obtain ⟨g1, g2, g3, g4⟩ := fok_bd hf
  have HK := hide hK
  clear hK
  obtain ⟨wb, x0, hwb, r0, r1, hB, hZ⟩ := boxes2 w #[.int .u8 E, .int .u8 M] #[.int .u8 33, .int .u8 kD, .int .u8 kA, .int .u8 kB, .int .u64 imm, .string text] 23 91
  have c00 : ∀ x : Later wb, _ = some (.int .u8 E : Value) := Later.cell r0 0 _ rfl
  have c01 : ∀ x : Later wb, _ = some (.int .u8 M : Value) := Later.cell r0 1 _ rfl
  have c10 : ∀ x : Later wb, _ = some (.int .u8 33 : Value) := Later.cell r1 0 _ rfl
  have c11 : ∀ x : Later wb, _ = some (.int .u8 kD : Value) := Later.cell r1 1 _ rfl
  have c12 : ∀ x : Later wb, _ = some (.int .u8 kA : Value) := Later.cell r1 2 _ rfl
  have c13 : ∀ x : Later wb, _ = some (.int .u8 kB : Value) := Later.cell r1 3 _ rfl
  have c14 : ∀ x : Later wb, _ = some (.int .u64 imm : Value) := Later.cell r1 4 _ rfl
  have c15 : ∀ x : Later wb, _ = some (.string text : Value) := Later.cell r1 5 _ rfl
  have hne : Nonempty (Later wb) := ⟨x0⟩
  have hm' : ∀ y : Later wb, MX mb R L y.at_ := fun y => h.later (hB y)
  have hon : ∀ y : Later wb, On tb y.at_ := fun y => ho.later (hB y)
  have kd : ∀ y : Later wb, y.at_.cell? ⟨mb, di, none⟩ = some (.int .u64 (R di)) := fun y => ((hB y).cell (p := ⟨mb, di, none⟩) h.own.1).trans (h.reg di hdi8)
  have ka : ∀ y : Later wb, y.at_.cell? ⟨mb, ai, none⟩ = some (.int .u64 (R ai)) := fun y => ((hB y).cell (p := ⟨mb, ai, none⟩) h.own.1).trans (h.reg ai hai8)
  have kb : ∀ y : Later wb, y.at_.cell? ⟨mb, bi, none⟩ = some (.int .u64 (R bi)) := fun y => ((hB y).cell (p := ⟨mb, bi, none⟩) h.own.1).trans (h.reg bi hbi8)
  have fd : ∀ y : Later wb, y.at_.frozen? ⟨mb, di, none⟩ = false := fun y => (hm' y).own.2 di
  have hml := h.own.1
  have HON := hide hon
  have HM := hide hm'
  refine na_head157 E M q hq md 33 kD kA kB imm text di ai bi hdi hdi8 hai hai8 hbi hbi8 R L tb mb w K h wb x0 hwb r0 r1 hB _ rfl ?_
  clear h ho hon hm' r0 r1
  intro y u15 u16 u17 u18 u19 u20 u21 u22 u23 u24 u25 u26 u27 u28 u29 u30 u31 u32 u33 u34 u35 u36 u37 u38 u39 u40
  generalize hQ : bodyPost Oaag.prog Oaag.f157 K = Q
  dsimp only [sR, bodyOf, Oaag.f157, Option.getD]
  subst hQ
  go_wp2_with fail
  all_goals first
    | (refine bodyPost_box rfl ?_; intro r hr; simp [results, Oaag.results157, go_sem] at hr; subst hr; refine ⟨_, rfl, ?_⟩
       exact unhide HK _ (unhide HM _) ((hB _).mono (by omega)))
    | fail

set_option maxHeartbeats 4000000 in
theorem nx_157_oth (E M : Nat) (q : Bool) (hq : NaF E M q) (md kD kA kB imm : Int) (text : ByteArray) (di ai bi : Nat) (hdi : bits .and .u8 kD 7 = (di : Int)) (hdi8 : di < 8) (hai : bits .and .u8 kA 7 = (ai : Int)) (hai8 : ai < 8) (hbi : bits .and .u8 kB 7 = (bi : Int)) (hbi8 : bi < 8) (R : Nat → Int) (L : List Value) (k0 : Int) (h34 : 34 ≤ k0) : SX 157 E M md k0 kD kA kB imm text R L R L := by
  have ne15 : ¬ k0 = 15 := by omega
  have ne16 : ¬ k0 = 16 := by omega
  have ne17 : ¬ k0 = 17 := by omega
  have ne18 : ¬ k0 = 18 := by omega
  have ne19 : ¬ k0 = 19 := by omega
  have ne20 : ¬ k0 = 20 := by omega
  have ne21 : ¬ k0 = 21 := by omega
  have ne22 : ¬ k0 = 22 := by omega
  have ne23 : ¬ k0 = 23 := by omega
  have ne24 : ¬ k0 = 24 := by omega
  have ne25 : ¬ k0 = 25 := by omega
  have ne26 : ¬ k0 = 26 := by omega
  have ne27 : ¬ k0 = 27 := by omega
  have ne28 : ¬ k0 = 28 := by omega
  have ne29 : ¬ k0 = 29 := by omega
  have ne30 : ¬ k0 = 30 := by omega
  have ne31 : ¬ k0 = 31 := by omega
  have ne32 : ¬ k0 = 32 := by omega
  have ne33 : ¬ k0 = 33 := by omega
  clear h34
  intro tb mb w K htb ho h hK
  have hf := hq.fok
  obtain ⟨g1, g2, g3, g4⟩ := fok_bd hf
  have HK := hide hK
  clear hK
  obtain ⟨wb, x0, hwb, r0, r1, hB, hZ⟩ := boxes2 w #[.int .u8 E, .int .u8 M] #[.int .u8 k0, .int .u8 kD, .int .u8 kA, .int .u8 kB, .int .u64 imm, .string text] 23 91
  have c00 : ∀ x : Later wb, _ = some (.int .u8 E : Value) := Later.cell r0 0 _ rfl
  have c01 : ∀ x : Later wb, _ = some (.int .u8 M : Value) := Later.cell r0 1 _ rfl
  have c10 : ∀ x : Later wb, _ = some (.int .u8 k0 : Value) := Later.cell r1 0 _ rfl
  have c11 : ∀ x : Later wb, _ = some (.int .u8 kD : Value) := Later.cell r1 1 _ rfl
  have c12 : ∀ x : Later wb, _ = some (.int .u8 kA : Value) := Later.cell r1 2 _ rfl
  have c13 : ∀ x : Later wb, _ = some (.int .u8 kB : Value) := Later.cell r1 3 _ rfl
  have c14 : ∀ x : Later wb, _ = some (.int .u64 imm : Value) := Later.cell r1 4 _ rfl
  have c15 : ∀ x : Later wb, _ = some (.string text : Value) := Later.cell r1 5 _ rfl
  have hne : Nonempty (Later wb) := ⟨x0⟩
  have hm' : ∀ y : Later wb, MX mb R L y.at_ := fun y => h.later (hB y)
  have hon : ∀ y : Later wb, On tb y.at_ := fun y => ho.later (hB y)
  have kd : ∀ y : Later wb, y.at_.cell? ⟨mb, di, none⟩ = some (.int .u64 (R di)) := fun y => ((hB y).cell (p := ⟨mb, di, none⟩) h.own.1).trans (h.reg di hdi8)
  have ka : ∀ y : Later wb, y.at_.cell? ⟨mb, ai, none⟩ = some (.int .u64 (R ai)) := fun y => ((hB y).cell (p := ⟨mb, ai, none⟩) h.own.1).trans (h.reg ai hai8)
  have kb : ∀ y : Later wb, y.at_.cell? ⟨mb, bi, none⟩ = some (.int .u64 (R bi)) := fun y => ((hB y).cell (p := ⟨mb, bi, none⟩) h.own.1).trans (h.reg bi hbi8)
  have fd : ∀ y : Later wb, y.at_.frozen? ⟨mb, di, none⟩ = false := fun y => (hm' y).own.2 di
  have hml := h.own.1
  have HON := hide hon
  have HM := hide hm'
  refine na_head157 E M q hq md k0 kD kA kB imm text di ai bi hdi hdi8 hai hai8 hbi hbi8 R L tb mb w K h wb x0 hwb r0 r1 hB _ rfl ?_
  clear h ho hon hm' r0 r1
  intro y u15 u16 u17 u18 u19 u20 u21 u22 u23 u24 u25 u26 u27 u28 u29 u30 u31 u32 u33 u34 u35 u36 u37 u38 u39 u40
  generalize hQ : bodyPost Oaag.prog Oaag.f157 K = Q
  dsimp only [sR, bodyOf, Oaag.f157, Option.getD]
  subst hQ
  go_wp2_with fail
  all_goals first
    | (refine bodyPost_box rfl ?_; intro r hr; simp [results, Oaag.results157, go_sem] at hr; subst hr; refine ⟨_, rfl, ?_⟩
       exact unhide HK _ (unhide HM _) ((hB _).mono (by omega)))
    | fail
end Go.Proofs.YgcoaaGreat.NatW
