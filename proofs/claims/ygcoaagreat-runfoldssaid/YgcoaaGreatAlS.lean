/-
  so.Step, ex.Step: every kind.
-/
import Derived.Test.YgcoaaGreatSoN
import Derived.Test.YgcoaaGreatExO
import Derived.Test.YgcoaaGreatSxZ
import Derived.Test.YgcoaaGreatSxT
set_option linter.unusedVariables false
set_option linter.unusedSimpArgs false
set_option maxRecDepth 20000
namespace Go.Proofs.YgcoaaGreat.NatW
open Go.RowKit
open Go.Proofs.YgcoaaGreat.Det
open Go.Proofs.YgcoaaGreat.Limbs Go.Proofs.YgcoaaGreat.Bits
attribute [local go_sem] Go.Instr.field Go.asAgg

theorem so_more (E M : Nat) (hf : fok E M = true) (md kd kD kA kB imm : Int) (hm0 : 0 ≤ md) (hm1 : md ≤ 255) (hk0 : 0 ≤ kd) (ok : OpOk kD kA kB imm) (text : ByteArray) (R : Nat → Int) (hR : ∀ i, i < 8 → U64 (R i)) (L : List Value) (hL : L.length ≤ 1000) (h15 : 15 ≤ kd) : Goes 147 E M md kd kD kA kB imm text R L := by
  by_cases h33 : kd ≤ 33
  · rcases (show kd = 15 ∨ kd = 16 ∨ kd = 17 ∨ kd = 18 ∨ kd = 19 ∨ kd = 20 ∨ kd = 21 ∨ kd = 22 ∨ kd = 23 ∨ kd = 24 ∨ kd = 25 ∨ kd = 26 ∨ kd = 27 ∨ kd = 28 ∨ kd = 29 ∨ kd = 30 ∨ kd = 31 ∨ kd = 32 ∨ kd = 33 by omega) with rfl | rfl | rfl | rfl | rfl | rfl | rfl | rfl | rfl | rfl | rfl | rfl | rfl | rfl | rfl | rfl | rfl | rfl | rfl
    · first | exact so_15 E M hf md kD kA kB imm ok text R hR L hL | exact so_15 E M hf md kD kA kB imm hm0 ok text R hR L hL | exact so_15 E M hf md kD kA kB imm hm0 hm1 ok text R hR L hL
    · first | exact so_16 E M hf md kD kA kB imm ok text R hR L hL | exact so_16 E M hf md kD kA kB imm hm0 ok text R hR L hL | exact so_16 E M hf md kD kA kB imm hm0 hm1 ok text R hR L hL
    · first | exact so_17 E M hf md kD kA kB imm ok text R hR L hL | exact so_17 E M hf md kD kA kB imm hm0 ok text R hR L hL | exact so_17 E M hf md kD kA kB imm hm0 hm1 ok text R hR L hL
    · first | exact so_18 E M hf md kD kA kB imm ok text R hR L hL | exact so_18 E M hf md kD kA kB imm hm0 ok text R hR L hL | exact so_18 E M hf md kD kA kB imm hm0 hm1 ok text R hR L hL
    · first | exact so_19 E M hf md kD kA kB imm ok text R hR L hL | exact so_19 E M hf md kD kA kB imm hm0 ok text R hR L hL | exact so_19 E M hf md kD kA kB imm hm0 hm1 ok text R hR L hL
    · first | exact so_20 E M hf md kD kA kB imm ok text R hR L hL | exact so_20 E M hf md kD kA kB imm hm0 ok text R hR L hL | exact so_20 E M hf md kD kA kB imm hm0 hm1 ok text R hR L hL
    · first | exact so_21 E M hf md kD kA kB imm ok text R hR L hL | exact so_21 E M hf md kD kA kB imm hm0 ok text R hR L hL | exact so_21 E M hf md kD kA kB imm hm0 hm1 ok text R hR L hL
    · first | exact so_22 E M hf md kD kA kB imm ok text R hR L hL | exact so_22 E M hf md kD kA kB imm hm0 ok text R hR L hL | exact so_22 E M hf md kD kA kB imm hm0 hm1 ok text R hR L hL
    · first | exact so_23 E M hf md kD kA kB imm ok text R hR L hL | exact so_23 E M hf md kD kA kB imm hm0 ok text R hR L hL | exact so_23 E M hf md kD kA kB imm hm0 hm1 ok text R hR L hL
    · first | exact so_24 E M hf md kD kA kB imm ok text R hR L hL | exact so_24 E M hf md kD kA kB imm hm0 ok text R hR L hL | exact so_24 E M hf md kD kA kB imm hm0 hm1 ok text R hR L hL
    · first | exact so_25 E M hf md kD kA kB imm ok text R hR L hL | exact so_25 E M hf md kD kA kB imm hm0 ok text R hR L hL | exact so_25 E M hf md kD kA kB imm hm0 hm1 ok text R hR L hL
    · first | exact so_26 E M hf md kD kA kB imm ok text R hR L hL | exact so_26 E M hf md kD kA kB imm hm0 ok text R hR L hL | exact so_26 E M hf md kD kA kB imm hm0 hm1 ok text R hR L hL
    · first | exact so_27 E M hf md kD kA kB imm ok text R hR L hL | exact so_27 E M hf md kD kA kB imm hm0 ok text R hR L hL | exact so_27 E M hf md kD kA kB imm hm0 hm1 ok text R hR L hL
    · first | exact so_28 E M hf md kD kA kB imm ok text R hR L hL | exact so_28 E M hf md kD kA kB imm hm0 ok text R hR L hL | exact so_28 E M hf md kD kA kB imm hm0 hm1 ok text R hR L hL
    · first | exact so_29 E M hf md kD kA kB imm ok text R hR L hL | exact so_29 E M hf md kD kA kB imm hm0 ok text R hR L hL | exact so_29 E M hf md kD kA kB imm hm0 hm1 ok text R hR L hL
    · first | exact so_30 E M hf md kD kA kB imm ok text R hR L hL | exact so_30 E M hf md kD kA kB imm hm0 ok text R hR L hL | exact so_30 E M hf md kD kA kB imm hm0 hm1 ok text R hR L hL
    · first | exact so_31 E M hf md kD kA kB imm ok text R hR L hL | exact so_31 E M hf md kD kA kB imm hm0 ok text R hR L hL | exact so_31 E M hf md kD kA kB imm hm0 hm1 ok text R hR L hL
    · first | exact so_32 E M hf md kD kA kB imm ok text R hR L hL | exact so_32 E M hf md kD kA kB imm hm0 ok text R hR L hL | exact so_32 E M hf md kD kA kB imm hm0 hm1 ok text R hR L hL
    · first | exact so_33 E M hf md kD kA kB imm ok text R hR L hL | exact so_33 E M hf md kD kA kB imm hm0 ok text R hR L hL | exact so_33 E M hf md kD kA kB imm hm0 hm1 ok text R hR L hL
  · obtain ⟨di, hdi, hdi8⟩ := and7 kD ok.d.1 ok.d.2
    obtain ⟨ai, hai, hai8⟩ := and7 kA ok.a.1 ok.a.2
    obtain ⟨bi, hbi, hbi8⟩ := and7 kB ok.b.1 ok.b.2
    exact ⟨R, L, hR, .inl rfl, sx_147_oth E M hf kd (by omega) md kD kA kB imm text di ai bi hdi hdi8 hai hai8 hbi hbi8 R L⟩
theorem so_all (E M : Nat) (hf : fok E M = true) (md kd kD kA kB imm : Int) (hm0 : 0 ≤ md) (hm1 : md ≤ 255) (hk0 : 0 ≤ kd) (ok : OpOk kD kA kB imm) (text : ByteArray) (R : Nat → Int) (hR : ∀ i, i < 8 → U64 (R i)) (L : List Value) (hL : L.length ≤ 1000) : Goes 82 E M md kd kD kA kB imm text R L := by
  by_cases h14 : kd ≤ 14
  · rcases (show kd = 0 ∨ kd = 1 ∨ kd = 2 ∨ kd = 3 ∨ kd = 4 ∨ kd = 5 ∨ kd = 6 ∨ kd = 7 ∨ kd = 8 ∨ kd = 9 ∨ kd = 10 ∨ kd = 11 ∨ kd = 12 ∨ kd = 13 ∨ kd = 14 by omega) with rfl | rfl | rfl | rfl | rfl | rfl | rfl | rfl | rfl | rfl | rfl | rfl | rfl | rfl | rfl
    · first | exact so_0 E M hf md kD kA kB imm ok text R hR L hL | exact so_0 E M hf md kD kA kB imm hm0 ok text R hR L hL | exact so_0 E M hf md kD kA kB imm hm0 hm1 ok text R hR L hL
    · first | exact so_1 E M hf md kD kA kB imm ok text R hR L hL | exact so_1 E M hf md kD kA kB imm hm0 ok text R hR L hL | exact so_1 E M hf md kD kA kB imm hm0 hm1 ok text R hR L hL
    · first | exact so_2 E M hf md kD kA kB imm ok text R hR L hL | exact so_2 E M hf md kD kA kB imm hm0 ok text R hR L hL | exact so_2 E M hf md kD kA kB imm hm0 hm1 ok text R hR L hL
    · first | exact so_3 E M hf md kD kA kB imm ok text R hR L hL | exact so_3 E M hf md kD kA kB imm hm0 ok text R hR L hL | exact so_3 E M hf md kD kA kB imm hm0 hm1 ok text R hR L hL
    · first | exact so_4 E M hf md kD kA kB imm ok text R hR L hL | exact so_4 E M hf md kD kA kB imm hm0 ok text R hR L hL | exact so_4 E M hf md kD kA kB imm hm0 hm1 ok text R hR L hL
    · first | exact so_5 E M hf md kD kA kB imm ok text R hR L hL | exact so_5 E M hf md kD kA kB imm hm0 ok text R hR L hL | exact so_5 E M hf md kD kA kB imm hm0 hm1 ok text R hR L hL
    · first | exact so_6 E M hf md kD kA kB imm ok text R hR L hL | exact so_6 E M hf md kD kA kB imm hm0 ok text R hR L hL | exact so_6 E M hf md kD kA kB imm hm0 hm1 ok text R hR L hL
    · first | exact so_7 E M hf md kD kA kB imm ok text R hR L hL | exact so_7 E M hf md kD kA kB imm hm0 ok text R hR L hL | exact so_7 E M hf md kD kA kB imm hm0 hm1 ok text R hR L hL
    · first | exact so_8 E M hf md kD kA kB imm ok text R hR L hL | exact so_8 E M hf md kD kA kB imm hm0 ok text R hR L hL | exact so_8 E M hf md kD kA kB imm hm0 hm1 ok text R hR L hL
    · first | exact so_9 E M hf md kD kA kB imm ok text R hR L hL | exact so_9 E M hf md kD kA kB imm hm0 ok text R hR L hL | exact so_9 E M hf md kD kA kB imm hm0 hm1 ok text R hR L hL
    · first | exact so_10 E M hf md kD kA kB imm ok text R hR L hL | exact so_10 E M hf md kD kA kB imm hm0 ok text R hR L hL | exact so_10 E M hf md kD kA kB imm hm0 hm1 ok text R hR L hL
    · first | exact so_11 E M hf md kD kA kB imm ok text R hR L hL | exact so_11 E M hf md kD kA kB imm hm0 ok text R hR L hL | exact so_11 E M hf md kD kA kB imm hm0 hm1 ok text R hR L hL
    · first | exact so_12 E M hf md kD kA kB imm ok text R hR L hL | exact so_12 E M hf md kD kA kB imm hm0 ok text R hR L hL | exact so_12 E M hf md kD kA kB imm hm0 hm1 ok text R hR L hL
    · first | exact so_13 E M hf md kD kA kB imm ok text R hR L hL | exact so_13 E M hf md kD kA kB imm hm0 ok text R hR L hL | exact so_13 E M hf md kD kA kB imm hm0 hm1 ok text R hR L hL
    · first | exact so_14 E M hf md kD kA kB imm ok text R hR L hL | exact so_14 E M hf md kD kA kB imm hm0 ok text R hR L hL | exact so_14 E M hf md kD kA kB imm hm0 hm1 ok text R hR L hL
  · have h := so_more E M hf md kd kD kA kB imm hm0 hm1 hk0 ok text R hR L hL (by omega)
    obtain ⟨di, hdi, hdi8⟩ := and7 kD ok.d.1 ok.d.2
    obtain ⟨ai, hai, hai8⟩ := and7 kA ok.a.1 ok.a.2
    obtain ⟨bi, hbi, hbi8⟩ := and7 kB ok.b.1 ok.b.2
    obtain ⟨R', L', h1, h2, h3⟩ := h
    exact ⟨R', L', h1, h2, sx_82_hi E M hf kd (by omega) md kD kA kB imm text di ai bi hdi hdi8 hai hai8 hbi hbi8 R R' L L' h3⟩

theorem ex_more (E M : Nat) (hf : fok E M = true) (md kd kD kA kB imm : Int) (hm0 : 0 ≤ md) (hm1 : md ≤ 255) (hk0 : 0 ≤ kd) (ok : OpOk kD kA kB imm) (text : ByteArray) (R : Nat → Int) (hR : ∀ i, i < 8 → U64 (R i)) (L : List Value) (hL : L.length ≤ 1000) (h15 : 15 ≤ kd) : GoesM 133 E M md kd kD kA kB imm text R L := by
  by_cases h33 : kd ≤ 33
  · rcases (show kd = 15 ∨ kd = 16 ∨ kd = 17 ∨ kd = 18 ∨ kd = 19 ∨ kd = 20 ∨ kd = 21 ∨ kd = 22 ∨ kd = 23 ∨ kd = 24 ∨ kd = 25 ∨ kd = 26 ∨ kd = 27 ∨ kd = 28 ∨ kd = 29 ∨ kd = 30 ∨ kd = 31 ∨ kd = 32 ∨ kd = 33 by omega) with rfl | rfl | rfl | rfl | rfl | rfl | rfl | rfl | rfl | rfl | rfl | rfl | rfl | rfl | rfl | rfl | rfl | rfl | rfl
    · first | exact ex_15 E M hf md kD kA kB imm ok text R hR L hL | exact ex_15 E M hf md kD kA kB imm hm0 ok text R hR L hL | exact ex_15 E M hf md kD kA kB imm hm0 hm1 ok text R hR L hL
    · first | exact ex_16 E M hf md kD kA kB imm ok text R hR L hL | exact ex_16 E M hf md kD kA kB imm hm0 ok text R hR L hL | exact ex_16 E M hf md kD kA kB imm hm0 hm1 ok text R hR L hL
    · first | exact ex_17 E M hf md kD kA kB imm ok text R hR L hL | exact ex_17 E M hf md kD kA kB imm hm0 ok text R hR L hL | exact ex_17 E M hf md kD kA kB imm hm0 hm1 ok text R hR L hL
    · first | exact ex_18 E M hf md kD kA kB imm ok text R hR L hL | exact ex_18 E M hf md kD kA kB imm hm0 ok text R hR L hL | exact ex_18 E M hf md kD kA kB imm hm0 hm1 ok text R hR L hL
    · first | exact ex_19 E M hf md kD kA kB imm ok text R hR L hL | exact ex_19 E M hf md kD kA kB imm hm0 ok text R hR L hL | exact ex_19 E M hf md kD kA kB imm hm0 hm1 ok text R hR L hL
    · first | exact ex_20 E M hf md kD kA kB imm ok text R hR L hL | exact ex_20 E M hf md kD kA kB imm hm0 ok text R hR L hL | exact ex_20 E M hf md kD kA kB imm hm0 hm1 ok text R hR L hL
    · first | exact ex_21 E M hf md kD kA kB imm ok text R hR L hL | exact ex_21 E M hf md kD kA kB imm hm0 ok text R hR L hL | exact ex_21 E M hf md kD kA kB imm hm0 hm1 ok text R hR L hL
    · first | exact ex_22 E M hf md kD kA kB imm ok text R hR L hL | exact ex_22 E M hf md kD kA kB imm hm0 ok text R hR L hL | exact ex_22 E M hf md kD kA kB imm hm0 hm1 ok text R hR L hL
    · first | exact ex_23 E M hf md kD kA kB imm ok text R hR L hL | exact ex_23 E M hf md kD kA kB imm hm0 ok text R hR L hL | exact ex_23 E M hf md kD kA kB imm hm0 hm1 ok text R hR L hL
    · first | exact ex_24 E M hf md kD kA kB imm ok text R hR L hL | exact ex_24 E M hf md kD kA kB imm hm0 ok text R hR L hL | exact ex_24 E M hf md kD kA kB imm hm0 hm1 ok text R hR L hL
    · first | exact ex_25 E M hf md kD kA kB imm ok text R hR L hL | exact ex_25 E M hf md kD kA kB imm hm0 ok text R hR L hL | exact ex_25 E M hf md kD kA kB imm hm0 hm1 ok text R hR L hL
    · first | exact ex_26 E M hf md kD kA kB imm ok text R hR L hL | exact ex_26 E M hf md kD kA kB imm hm0 ok text R hR L hL | exact ex_26 E M hf md kD kA kB imm hm0 hm1 ok text R hR L hL
    · first | exact ex_27 E M hf md kD kA kB imm ok text R hR L hL | exact ex_27 E M hf md kD kA kB imm hm0 ok text R hR L hL | exact ex_27 E M hf md kD kA kB imm hm0 hm1 ok text R hR L hL
    · first | exact ex_28 E M hf md kD kA kB imm ok text R hR L hL | exact ex_28 E M hf md kD kA kB imm hm0 ok text R hR L hL | exact ex_28 E M hf md kD kA kB imm hm0 hm1 ok text R hR L hL
    · first | exact ex_29 E M hf md kD kA kB imm ok text R hR L hL | exact ex_29 E M hf md kD kA kB imm hm0 ok text R hR L hL | exact ex_29 E M hf md kD kA kB imm hm0 hm1 ok text R hR L hL
    · first | exact ex_30 E M hf md kD kA kB imm ok text R hR L hL | exact ex_30 E M hf md kD kA kB imm hm0 ok text R hR L hL | exact ex_30 E M hf md kD kA kB imm hm0 hm1 ok text R hR L hL
    · first | exact ex_31 E M hf md kD kA kB imm ok text R hR L hL | exact ex_31 E M hf md kD kA kB imm hm0 ok text R hR L hL | exact ex_31 E M hf md kD kA kB imm hm0 hm1 ok text R hR L hL
    · first | exact ex_32 E M hf md kD kA kB imm ok text R hR L hL | exact ex_32 E M hf md kD kA kB imm hm0 ok text R hR L hL | exact ex_32 E M hf md kD kA kB imm hm0 hm1 ok text R hR L hL
    · first | exact ex_33 E M hf md kD kA kB imm ok text R hR L hL | exact ex_33 E M hf md kD kA kB imm hm0 ok text R hR L hL | exact ex_33 E M hf md kD kA kB imm hm0 hm1 ok text R hR L hL
  · obtain ⟨di, hdi, hdi8⟩ := and7 kD ok.d.1 ok.d.2
    obtain ⟨ai, hai, hai8⟩ := and7 kA ok.a.1 ok.a.2
    obtain ⟨bi, hbi, hbi8⟩ := and7 kB ok.b.1 ok.b.2
    exact ⟨R, L, hR, .inl rfl, sx_133_oth E M hf kd (by omega) md kD kA kB imm text di ai bi hdi hdi8 hai hai8 hbi hbi8 R L⟩
theorem ex_all (E M : Nat) (hf : fok E M = true) (md kd kD kA kB imm : Int) (hm0 : 0 ≤ md) (hm1 : md ≤ 255) (hk0 : 0 ≤ kd) (ok : OpOk kD kA kB imm) (text : ByteArray) (R : Nat → Int) (hR : ∀ i, i < 8 → U64 (R i)) (L : List Value) (hL : L.length ≤ 1000) : GoesE 81 E M md kd kD kA kB imm text R L := by
  by_cases h14 : kd ≤ 14
  · rcases (show kd = 0 ∨ kd = 1 ∨ kd = 2 ∨ kd = 3 ∨ kd = 4 ∨ kd = 5 ∨ kd = 6 ∨ kd = 7 ∨ kd = 8 ∨ kd = 9 ∨ kd = 10 ∨ kd = 11 ∨ kd = 12 ∨ kd = 13 ∨ kd = 14 by omega) with rfl | rfl | rfl | rfl | rfl | rfl | rfl | rfl | rfl | rfl | rfl | rfl | rfl | rfl | rfl
    · first | exact ex_0 E M hf md kD kA kB imm ok text R hR L hL | exact ex_0 E M hf md kD kA kB imm hm0 ok text R hR L hL | exact ex_0 E M hf md kD kA kB imm hm0 hm1 ok text R hR L hL
    · first | exact ex_1 E M hf md kD kA kB imm ok text R hR L hL | exact ex_1 E M hf md kD kA kB imm hm0 ok text R hR L hL | exact ex_1 E M hf md kD kA kB imm hm0 hm1 ok text R hR L hL
    · first | exact ex_2 E M hf md kD kA kB imm ok text R hR L hL | exact ex_2 E M hf md kD kA kB imm hm0 ok text R hR L hL | exact ex_2 E M hf md kD kA kB imm hm0 hm1 ok text R hR L hL
    · first | exact ex_3 E M hf md kD kA kB imm ok text R hR L hL | exact ex_3 E M hf md kD kA kB imm hm0 ok text R hR L hL | exact ex_3 E M hf md kD kA kB imm hm0 hm1 ok text R hR L hL
    · first | exact ex_4 E M hf md kD kA kB imm ok text R hR L hL | exact ex_4 E M hf md kD kA kB imm hm0 ok text R hR L hL | exact ex_4 E M hf md kD kA kB imm hm0 hm1 ok text R hR L hL
    · first | exact ex_5 E M hf md kD kA kB imm ok text R hR L hL | exact ex_5 E M hf md kD kA kB imm hm0 ok text R hR L hL | exact ex_5 E M hf md kD kA kB imm hm0 hm1 ok text R hR L hL
    · first | exact ex_6 E M hf md kD kA kB imm ok text R hR L hL | exact ex_6 E M hf md kD kA kB imm hm0 ok text R hR L hL | exact ex_6 E M hf md kD kA kB imm hm0 hm1 ok text R hR L hL
    · first | exact ex_7 E M hf md kD kA kB imm ok text R hR L hL | exact ex_7 E M hf md kD kA kB imm hm0 ok text R hR L hL | exact ex_7 E M hf md kD kA kB imm hm0 hm1 ok text R hR L hL
    · first | exact ex_8 E M hf md kD kA kB imm ok text R hR L hL | exact ex_8 E M hf md kD kA kB imm hm0 ok text R hR L hL | exact ex_8 E M hf md kD kA kB imm hm0 hm1 ok text R hR L hL
    · first | exact ex_9 E M hf md kD kA kB imm ok text R hR L hL | exact ex_9 E M hf md kD kA kB imm hm0 ok text R hR L hL | exact ex_9 E M hf md kD kA kB imm hm0 hm1 ok text R hR L hL
    · first | exact ex_10 E M hf md kD kA kB imm ok text R hR L hL | exact ex_10 E M hf md kD kA kB imm hm0 ok text R hR L hL | exact ex_10 E M hf md kD kA kB imm hm0 hm1 ok text R hR L hL
    · first | exact ex_11 E M hf md kD kA kB imm ok text R hR L hL | exact ex_11 E M hf md kD kA kB imm hm0 ok text R hR L hL | exact ex_11 E M hf md kD kA kB imm hm0 hm1 ok text R hR L hL
    · first | exact ex_12 E M hf md kD kA kB imm ok text R hR L hL | exact ex_12 E M hf md kD kA kB imm hm0 ok text R hR L hL | exact ex_12 E M hf md kD kA kB imm hm0 hm1 ok text R hR L hL
    · first | exact ex_13 E M hf md kD kA kB imm ok text R hR L hL | exact ex_13 E M hf md kD kA kB imm hm0 ok text R hR L hL | exact ex_13 E M hf md kD kA kB imm hm0 hm1 ok text R hR L hL
    · first | exact ex_14 E M hf md kD kA kB imm ok text R hR L hL | exact ex_14 E M hf md kD kA kB imm hm0 ok text R hR L hL | exact ex_14 E M hf md kD kA kB imm hm0 hm1 ok text R hR L hL
  · have h := ex_more E M hf md kd kD kA kB imm hm0 hm1 hk0 ok text R hR L hL (by omega)
    exact ex_hi E M hf kd md kD kA kB imm (by omega) ok text R L h
end Go.Proofs.YgcoaaGreat.NatW
