/-
  digits, exactly.
-/
import Derived.Test.YgcoaaGreatSxV
import Derived.Test.YgcoaaGreatSoF
set_option linter.unusedVariables false
set_option linter.unusedSimpArgs false
set_option maxRecDepth 20000
namespace Go.Proofs.YgcoaaGreat.NatW
open Go.RowKit
open Go.Proofs.YgcoaaGreat.Det
open Go.Proofs.YgcoaaGreat.Limbs Go.Proofs.YgcoaaGreat.Bits
attribute [local go_sem] Go.Instr.field Go.asAgg

set_option maxHeartbeats 4000000 in
theorem dig_265_24 (E M : Nat) (hf : fok E M = true) (a kD kA kB imm : Int) (hi : U64 imm) (text : ByteArray) (nb : Bool) (hnb : (bits .and .u64 a (2 ^ (E + M)) != 0) = nb) (sA sB s0 : ByteArray) (hD0 : ∀ tb, DFT tb 179 #[fmt E M, .int .u64 a, .int .u16 (imm % 2001)] (.string sA)) (hD1 : ∀ tb, DFT tb 366 #[.bool nb, .string sA, .int .u16 (imm % 2001)] (.string sB)) (hD2 : ∀ tb, DFT tb 256 #[fmt E M, .int .u64 a, .string sB] (.string s0)) (tb : Nat) : DFT tb 265 #[fmt E M, .int .u64 a, .agg #[.int .u8 24, .int .u8 kD, .int .u8 kA, .int .u8 kB, .int .u64 imm, .string text]] (.string s0) := by
  obtain ⟨g1, g2, g3, g4⟩ := fok_bd hf
  intro w K ho hK
  have HK := hide hK
  clear hK
  obtain ⟨wb, x0, hwb, r0, r1, hB, hZ⟩ := boxes2 w #[.int .u8 E, .int .u8 M] #[.int .u8 24, .int .u8 kD, .int .u8 kA, .int .u8 kB, .int .u64 imm, .string text] 23 91
  have c00 : ∀ x : Later wb, _ = some (.int .u8 E : Value) := Later.cell r0 0 _ rfl
  have c01 : ∀ x : Later wb, _ = some (.int .u8 M : Value) := Later.cell r0 1 _ rfl
  have c10 : ∀ x : Later wb, _ = some (.int .u8 24 : Value) := Later.cell r1 0 _ rfl
  have c11 : ∀ x : Later wb, _ = some (.int .u8 kD : Value) := Later.cell r1 1 _ rfl
  have c12 : ∀ x : Later wb, _ = some (.int .u8 kA : Value) := Later.cell r1 2 _ rfl
  have c13 : ∀ x : Later wb, _ = some (.int .u8 kB : Value) := Later.cell r1 3 _ rfl
  have c14 : ∀ x : Later wb, _ = some (.int .u64 imm : Value) := Later.cell r1 4 _ rfl
  have c15 : ∀ x : Later wb, _ = some (.string text : Value) := Later.cell r1 5 _ rfl
  have R0 := hide r0
  have R1 := hide r1
  clear r0 r1
  have hne : Nonempty (Later wb) := ⟨x0⟩
  have HTL := hide (fun y : Later wb => ho.later (hB y))
  have HD0 := hide (hD0 tb)
  have HD1 := hide (hD1 tb)
  have HD2 := hide (hD2 tb)
  clear hD0 hD1 hD2 ho
  go_enter Oaag.func265, Oaag.ntmps265
  have hi0 := hi.1
  have hi1 := hi.2
  go_wp2_with (first
    | (
      (with_reducible refine Go.Proofs.YgcoaaGreat.NatW.at_reg 1 ?_)
      (repeat (first | (rewrite [Go.Proofs.YgcoaaGreat.NatW.frz_ite]; generalize Go.Proofs.YgcoaaGreat.NatW.frzI _ = x__) | (rewrite [Go.Proofs.YgcoaaGreat.NatW.frz_dec]; generalize Go.Proofs.YgcoaaGreat.NatW.frzB _ = x__) | (rewrite [Go.Proofs.YgcoaaGreat.NatW.frz_beq]; generalize Go.Proofs.YgcoaaGreat.NatW.frzB _ = x__) | (rewrite [Go.Proofs.YgcoaaGreat.NatW.frz_not]; generalize Go.Proofs.YgcoaaGreat.NatW.frzB _ = x__) | (rewrite [Go.Proofs.YgcoaaGreat.NatW.frz_and]; generalize Go.Proofs.YgcoaaGreat.NatW.frzB _ = x__) | (rewrite [Go.Proofs.YgcoaaGreat.NatW.frz_or]; generalize Go.Proofs.YgcoaaGreat.NatW.frzB _ = x__) | (rewrite [show ∀ (a b : Int), Value.bool (a != b) = Value.bool (Go.Proofs.YgcoaaGreat.NatW.frzB (a != b)) from fun _ _ => rfl]; generalize Go.Proofs.YgcoaaGreat.NatW.frzB _ = x__)))
      refine Go.Lax.region_calls _ 10 3 [(6, fun v => v = .int .u64 ((2 ^ (E + M) : Nat) : Int))] (by kernel_rfl) (by kernel_rfl) (by kernel_rfl) (List.forall_mem_cons.2 ⟨⟨_, rfl⟩, fun _ h => by cases h⟩) ?_
      iterate 6 (refine Go.Lax.walk_det rfl rfl rfl ?_; go_big_quiet_want; go_big_quiet_op; go_big_quiet_on; refine wpQuiet_nil ?_)
      refine Go.Lax.call_at rfl ?_ (fun y__ K__ hK__ => by (go_wp2_with fail; refine (signBit_ret E M hf) _ _ ?_; intro v__ w__ hv__ hb__; have hh__ := Go.Proofs.YgcoaaGreat.NatW.hide (hK__ v__ w__ hv__ hb__); clear hK__ hv__; go_wp2_with fail; exact Eq.mp (by kernel_rfl) (Go.Proofs.YgcoaaGreat.NatW.unhide hh__)))
      rintro v rfl
      ((try dsimp only); go_big_quiet_want; go_big_quiet_op; go_big_quiet_on; refine wpQuiet_nil ?_)
      iterate 3 (refine Go.Lax.walk_det rfl rfl rfl ?_; go_big_quiet_want; go_big_quiet_op; go_big_quiet_on; refine wpQuiet_nil ?_)
      refine Go.Lax.end_at ?_
      intro y)
    | (
      (with_reducible refine Go.Proofs.YgcoaaGreat.NatW.at_reg 3 ?_)
      (repeat (first | (rewrite [Go.Proofs.YgcoaaGreat.NatW.frz_ite]; generalize Go.Proofs.YgcoaaGreat.NatW.frzI _ = x__) | (rewrite [Go.Proofs.YgcoaaGreat.NatW.frz_dec]; generalize Go.Proofs.YgcoaaGreat.NatW.frzB _ = x__) | (rewrite [Go.Proofs.YgcoaaGreat.NatW.frz_beq]; generalize Go.Proofs.YgcoaaGreat.NatW.frzB _ = x__) | (rewrite [Go.Proofs.YgcoaaGreat.NatW.frz_not]; generalize Go.Proofs.YgcoaaGreat.NatW.frzB _ = x__) | (rewrite [Go.Proofs.YgcoaaGreat.NatW.frz_and]; generalize Go.Proofs.YgcoaaGreat.NatW.frzB _ = x__) | (rewrite [Go.Proofs.YgcoaaGreat.NatW.frz_or]; generalize Go.Proofs.YgcoaaGreat.NatW.frzB _ = x__) | (rewrite [show ∀ (a b : Int), Value.bool (a != b) = Value.bool (Go.Proofs.YgcoaaGreat.NatW.frzB (a != b)) from fun _ _ => rfl]; generalize Go.Proofs.YgcoaaGreat.NatW.frzB _ = x__)))
      refine Go.Lax.region_calls _ 10 3 [(6, fun v => v = .string sA), (8, fun v => v = .string sB), (9, fun v => v = .string s0)] (by kernel_rfl) (by kernel_rfl) (by kernel_rfl) (List.forall_mem_cons.2 ⟨⟨_, rfl⟩, List.forall_mem_cons.2 ⟨⟨_, rfl⟩, List.forall_mem_cons.2 ⟨⟨_, rfl⟩, fun _ h => by cases h⟩⟩⟩) ?_
      iterate 6 (refine Go.Lax.walk_det rfl rfl rfl ?_; go_big_quiet_want; go_big_quiet_op; go_big_quiet_on; refine wpQuiet_nil ?_)
      refine Go.Lax.call_at rfl ?_ (fun y__ K__ hK__ => by (go_wp2_with fail; refine (unhide HD0) _ _ (unhide HTL _) ?_; intro w__ hb__; have hh__ := Go.Proofs.YgcoaaGreat.NatW.hide (hK__ _ w__ rfl hb__); clear hK__; go_wp2_with fail; exact Eq.mp (by kernel_rfl) (Go.Proofs.YgcoaaGreat.NatW.unhide hh__)))
      rintro v rfl
      ((try dsimp only); go_big_quiet_want; go_big_quiet_op; go_big_quiet_on; refine wpQuiet_nil ?_)
      (refine Go.Lax.walk_det rfl rfl rfl ?_; go_big_quiet_want; go_big_quiet_op; go_big_quiet_on; refine wpQuiet_nil ?_)
      refine Go.Lax.call_at rfl ?_ (fun y__ K__ hK__ => by (go_wp2_with fail; refine (unhide HD1) _ _ (unhide HTL _) ?_; intro w__ hb__; have hh__ := Go.Proofs.YgcoaaGreat.NatW.hide (hK__ _ w__ rfl hb__); clear hK__; go_wp2_with fail; exact Eq.mp (by kernel_rfl) (Go.Proofs.YgcoaaGreat.NatW.unhide hh__)))
      rintro v rfl
      ((try dsimp only); go_big_quiet_want; go_big_quiet_op; go_big_quiet_on; refine wpQuiet_nil ?_)
      refine Go.Lax.call_at rfl ?_ (fun y__ K__ hK__ => by (go_wp2_with fail; refine (unhide HD2) _ _ (unhide HTL _) ?_; intro w__ hb__; have hh__ := Go.Proofs.YgcoaaGreat.NatW.hide (hK__ _ w__ rfl hb__); clear hK__; go_wp2_with fail; exact Eq.mp (by kernel_rfl) (Go.Proofs.YgcoaaGreat.NatW.unhide hh__)))
      rintro v rfl
      ((try dsimp only); go_big_quiet_want; go_big_quiet_op; go_big_quiet_on; refine wpQuiet_nil ?_)
      refine Go.Lax.end_at ?_
      intro y))
  all_goals first | exact unhide HK _ (hB _) | fail


set_option maxHeartbeats 4000000 in
theorem dig_265_23 (E M : Nat) (hf : fok E M = true) (a kD kA kB imm : Int) (hi : U64 imm) (text : ByteArray) (nb : Bool) (hnb : (bits .and .u64 a (2 ^ (E + M)) != 0) = nb) (sA sB s0 : ByteArray) (ex : Int) (hD0 : ∀ tb, DFT tb 177 #[fmt E M, .int .u64 a, .int .u16 (imm % 2001)] (.tuple #[.string sA, .int .i16 ex])) (hD1 : ∀ tb, DFT tb 367 #[.bool nb, .string sA, .int .i16 ex] (.string sB)) (hD2 : ∀ tb, DFT tb 256 #[fmt E M, .int .u64 a, .string sB] (.string s0)) (tb : Nat) : DFT tb 265 #[fmt E M, .int .u64 a, .agg #[.int .u8 23, .int .u8 kD, .int .u8 kA, .int .u8 kB, .int .u64 imm, .string text]] (.string s0) := by
  obtain ⟨g1, g2, g3, g4⟩ := fok_bd hf
  intro w K ho hK
  have HK := hide hK
  clear hK
  obtain ⟨wb, x0, hwb, r0, r1, hB, hZ⟩ := boxes2 w #[.int .u8 E, .int .u8 M] #[.int .u8 23, .int .u8 kD, .int .u8 kA, .int .u8 kB, .int .u64 imm, .string text] 23 91
  have c00 : ∀ x : Later wb, _ = some (.int .u8 E : Value) := Later.cell r0 0 _ rfl
  have c01 : ∀ x : Later wb, _ = some (.int .u8 M : Value) := Later.cell r0 1 _ rfl
  have c10 : ∀ x : Later wb, _ = some (.int .u8 23 : Value) := Later.cell r1 0 _ rfl
  have c11 : ∀ x : Later wb, _ = some (.int .u8 kD : Value) := Later.cell r1 1 _ rfl
  have c12 : ∀ x : Later wb, _ = some (.int .u8 kA : Value) := Later.cell r1 2 _ rfl
  have c13 : ∀ x : Later wb, _ = some (.int .u8 kB : Value) := Later.cell r1 3 _ rfl
  have c14 : ∀ x : Later wb, _ = some (.int .u64 imm : Value) := Later.cell r1 4 _ rfl
  have c15 : ∀ x : Later wb, _ = some (.string text : Value) := Later.cell r1 5 _ rfl
  have R0 := hide r0
  have R1 := hide r1
  clear r0 r1
  have hne : Nonempty (Later wb) := ⟨x0⟩
  have HTL := hide (fun y : Later wb => ho.later (hB y))
  have HD0 := hide (hD0 tb)
  have HD1 := hide (hD1 tb)
  have HD2 := hide (hD2 tb)
  clear hD0 hD1 hD2 ho
  go_enter Oaag.func265, Oaag.ntmps265
  have hi0 := hi.1
  have hi1 := hi.2
  go_wp2_with (first
    | (
      (with_reducible refine Go.Proofs.YgcoaaGreat.NatW.at_reg 1 ?_)
      (repeat (first | (rewrite [Go.Proofs.YgcoaaGreat.NatW.frz_ite]; generalize Go.Proofs.YgcoaaGreat.NatW.frzI _ = x__) | (rewrite [Go.Proofs.YgcoaaGreat.NatW.frz_dec]; generalize Go.Proofs.YgcoaaGreat.NatW.frzB _ = x__) | (rewrite [Go.Proofs.YgcoaaGreat.NatW.frz_beq]; generalize Go.Proofs.YgcoaaGreat.NatW.frzB _ = x__) | (rewrite [Go.Proofs.YgcoaaGreat.NatW.frz_not]; generalize Go.Proofs.YgcoaaGreat.NatW.frzB _ = x__) | (rewrite [Go.Proofs.YgcoaaGreat.NatW.frz_and]; generalize Go.Proofs.YgcoaaGreat.NatW.frzB _ = x__) | (rewrite [Go.Proofs.YgcoaaGreat.NatW.frz_or]; generalize Go.Proofs.YgcoaaGreat.NatW.frzB _ = x__) | (rewrite [show ∀ (a b : Int), Value.bool (a != b) = Value.bool (Go.Proofs.YgcoaaGreat.NatW.frzB (a != b)) from fun _ _ => rfl]; generalize Go.Proofs.YgcoaaGreat.NatW.frzB _ = x__)))
      refine Go.Lax.region_calls _ 10 3 [(6, fun v => v = .int .u64 ((2 ^ (E + M) : Nat) : Int))] (by kernel_rfl) (by kernel_rfl) (by kernel_rfl) (List.forall_mem_cons.2 ⟨⟨_, rfl⟩, fun _ h => by cases h⟩) ?_
      iterate 6 (refine Go.Lax.walk_det rfl rfl rfl ?_; go_big_quiet_want; go_big_quiet_op; go_big_quiet_on; refine wpQuiet_nil ?_)
      refine Go.Lax.call_at rfl ?_ (fun y__ K__ hK__ => by (go_wp2_with fail; refine (signBit_ret E M hf) _ _ ?_; intro v__ w__ hv__ hb__; have hh__ := Go.Proofs.YgcoaaGreat.NatW.hide (hK__ v__ w__ hv__ hb__); clear hK__ hv__; go_wp2_with fail; exact Eq.mp (by kernel_rfl) (Go.Proofs.YgcoaaGreat.NatW.unhide hh__)))
      rintro v rfl
      ((try dsimp only); go_big_quiet_want; go_big_quiet_op; go_big_quiet_on; refine wpQuiet_nil ?_)
      iterate 3 (refine Go.Lax.walk_det rfl rfl rfl ?_; go_big_quiet_want; go_big_quiet_op; go_big_quiet_on; refine wpQuiet_nil ?_)
      refine Go.Lax.end_at ?_
      intro y)
    | (
      (with_reducible refine Go.Proofs.YgcoaaGreat.NatW.at_reg 5 ?_)
      (repeat (first | (rewrite [Go.Proofs.YgcoaaGreat.NatW.frz_ite]; generalize Go.Proofs.YgcoaaGreat.NatW.frzI _ = x__) | (rewrite [Go.Proofs.YgcoaaGreat.NatW.frz_dec]; generalize Go.Proofs.YgcoaaGreat.NatW.frzB _ = x__) | (rewrite [Go.Proofs.YgcoaaGreat.NatW.frz_beq]; generalize Go.Proofs.YgcoaaGreat.NatW.frzB _ = x__) | (rewrite [Go.Proofs.YgcoaaGreat.NatW.frz_not]; generalize Go.Proofs.YgcoaaGreat.NatW.frzB _ = x__) | (rewrite [Go.Proofs.YgcoaaGreat.NatW.frz_and]; generalize Go.Proofs.YgcoaaGreat.NatW.frzB _ = x__) | (rewrite [Go.Proofs.YgcoaaGreat.NatW.frz_or]; generalize Go.Proofs.YgcoaaGreat.NatW.frzB _ = x__) | (rewrite [show ∀ (a b : Int), Value.bool (a != b) = Value.bool (Go.Proofs.YgcoaaGreat.NatW.frzB (a != b)) from fun _ _ => rfl]; generalize Go.Proofs.YgcoaaGreat.NatW.frzB _ = x__)))
      refine Go.Lax.region_calls _ 7 3 [(5, fun v => v = .string sB), (6, fun v => v = .string s0)] (by kernel_rfl) (by kernel_rfl) (by kernel_rfl) (List.forall_mem_cons.2 ⟨⟨_, rfl⟩, List.forall_mem_cons.2 ⟨⟨_, rfl⟩, fun _ h => by cases h⟩⟩) ?_
      iterate 5 (refine Go.Lax.walk_det rfl rfl rfl ?_; go_big_quiet_want; go_big_quiet_op; go_big_quiet_on; refine wpQuiet_nil ?_)
      refine Go.Lax.call_at rfl ?_ (fun y__ K__ hK__ => by (go_wp2_with fail; refine (unhide HD1) _ _ (unhide HTL _) ?_; intro w__ hb__; have hh__ := Go.Proofs.YgcoaaGreat.NatW.hide (hK__ _ w__ rfl hb__); clear hK__; go_wp2_with fail; exact Eq.mp (by kernel_rfl) (Go.Proofs.YgcoaaGreat.NatW.unhide hh__)))
      rintro v rfl
      ((try dsimp only); go_big_quiet_want; go_big_quiet_op; go_big_quiet_on; refine wpQuiet_nil ?_)
      refine Go.Lax.call_at rfl ?_ (fun y__ K__ hK__ => by (go_wp2_with fail; refine (unhide HD2) _ _ (unhide HTL _) ?_; intro w__ hb__; have hh__ := Go.Proofs.YgcoaaGreat.NatW.hide (hK__ _ w__ rfl hb__); clear hK__; go_wp2_with fail; exact Eq.mp (by kernel_rfl) (Go.Proofs.YgcoaaGreat.NatW.unhide hh__)))
      rintro v rfl
      ((try dsimp only); go_big_quiet_want; go_big_quiet_op; go_big_quiet_on; refine wpQuiet_nil ?_)
      refine Go.Lax.end_at ?_
      intro y)
    | ((with_reducible refine at_later 177 ?_); refine DFT.run (unhide HD0) (unhide HTL) _ ?_; intro y__))
  all_goals first | exact unhide HK _ (hB _) | fail


set_option maxHeartbeats 4000000 in
theorem dig_299_24 (E M : Nat) (hf : fok E M = true) (a kD kA kB imm : Int) (hi : U64 imm) (text : ByteArray) (nb : Bool) (hnb : (bits .and .u64 a (2 ^ (E + M)) != 0) = nb) (sA sB s0 : ByteArray) (hD0 : ∀ tb, DFT tb 179 #[fmt E M, .int .u64 a, .int .u16 (imm % 2001)] (.string sA)) (hD1 : ∀ tb, DFT tb 366 #[.bool nb, .string sA, .int .u16 (imm % 2001)] (.string sB)) (hD2 : ∀ tb, DFT tb 292 #[fmt E M, .int .u64 a, .string sB] (.string s0)) (tb : Nat) : DFT tb 299 #[fmt E M, .int .u64 a, .agg #[.int .u8 24, .int .u8 kD, .int .u8 kA, .int .u8 kB, .int .u64 imm, .string text]] (.string s0) := by
  obtain ⟨g1, g2, g3, g4⟩ := fok_bd hf
  intro w K ho hK
  have HK := hide hK
  clear hK
  obtain ⟨wb, x0, hwb, r0, r1, hB, hZ⟩ := boxes2 w #[.int .u8 E, .int .u8 M] #[.int .u8 24, .int .u8 kD, .int .u8 kA, .int .u8 kB, .int .u64 imm, .string text] 23 91
  have c00 : ∀ x : Later wb, _ = some (.int .u8 E : Value) := Later.cell r0 0 _ rfl
  have c01 : ∀ x : Later wb, _ = some (.int .u8 M : Value) := Later.cell r0 1 _ rfl
  have c10 : ∀ x : Later wb, _ = some (.int .u8 24 : Value) := Later.cell r1 0 _ rfl
  have c11 : ∀ x : Later wb, _ = some (.int .u8 kD : Value) := Later.cell r1 1 _ rfl
  have c12 : ∀ x : Later wb, _ = some (.int .u8 kA : Value) := Later.cell r1 2 _ rfl
  have c13 : ∀ x : Later wb, _ = some (.int .u8 kB : Value) := Later.cell r1 3 _ rfl
  have c14 : ∀ x : Later wb, _ = some (.int .u64 imm : Value) := Later.cell r1 4 _ rfl
  have c15 : ∀ x : Later wb, _ = some (.string text : Value) := Later.cell r1 5 _ rfl
  have R0 := hide r0
  have R1 := hide r1
  clear r0 r1
  have hne : Nonempty (Later wb) := ⟨x0⟩
  have HTL := hide (fun y : Later wb => ho.later (hB y))
  have HD0 := hide (hD0 tb)
  have HD1 := hide (hD1 tb)
  have HD2 := hide (hD2 tb)
  clear hD0 hD1 hD2 ho
  go_enter Oaag.func299, Oaag.ntmps299
  have hi0 := hi.1
  have hi1 := hi.2
  go_wp2_with (first
    | (
      (with_reducible refine Go.Proofs.YgcoaaGreat.NatW.at_reg 1 ?_)
      (repeat (first | (rewrite [Go.Proofs.YgcoaaGreat.NatW.frz_ite]; generalize Go.Proofs.YgcoaaGreat.NatW.frzI _ = x__) | (rewrite [Go.Proofs.YgcoaaGreat.NatW.frz_dec]; generalize Go.Proofs.YgcoaaGreat.NatW.frzB _ = x__) | (rewrite [Go.Proofs.YgcoaaGreat.NatW.frz_beq]; generalize Go.Proofs.YgcoaaGreat.NatW.frzB _ = x__) | (rewrite [Go.Proofs.YgcoaaGreat.NatW.frz_not]; generalize Go.Proofs.YgcoaaGreat.NatW.frzB _ = x__) | (rewrite [Go.Proofs.YgcoaaGreat.NatW.frz_and]; generalize Go.Proofs.YgcoaaGreat.NatW.frzB _ = x__) | (rewrite [Go.Proofs.YgcoaaGreat.NatW.frz_or]; generalize Go.Proofs.YgcoaaGreat.NatW.frzB _ = x__) | (rewrite [show ∀ (a b : Int), Value.bool (a != b) = Value.bool (Go.Proofs.YgcoaaGreat.NatW.frzB (a != b)) from fun _ _ => rfl]; generalize Go.Proofs.YgcoaaGreat.NatW.frzB _ = x__)))
      refine Go.Lax.region_calls _ 10 3 [(6, fun v => v = .int .u64 ((2 ^ (E + M) : Nat) : Int))] (by kernel_rfl) (by kernel_rfl) (by kernel_rfl) (List.forall_mem_cons.2 ⟨⟨_, rfl⟩, fun _ h => by cases h⟩) ?_
      iterate 6 (refine Go.Lax.walk_det rfl rfl rfl ?_; go_big_quiet_want; go_big_quiet_op; go_big_quiet_on; refine wpQuiet_nil ?_)
      refine Go.Lax.call_at rfl ?_ (fun y__ K__ hK__ => by (go_wp2_with fail; refine (signBit_ret E M hf) _ _ ?_; intro v__ w__ hv__ hb__; have hh__ := Go.Proofs.YgcoaaGreat.NatW.hide (hK__ v__ w__ hv__ hb__); clear hK__ hv__; go_wp2_with fail; exact Eq.mp (by kernel_rfl) (Go.Proofs.YgcoaaGreat.NatW.unhide hh__)))
      rintro v rfl
      ((try dsimp only); go_big_quiet_want; go_big_quiet_op; go_big_quiet_on; refine wpQuiet_nil ?_)
      iterate 3 (refine Go.Lax.walk_det rfl rfl rfl ?_; go_big_quiet_want; go_big_quiet_op; go_big_quiet_on; refine wpQuiet_nil ?_)
      refine Go.Lax.end_at ?_
      intro y)
    | (
      (with_reducible refine Go.Proofs.YgcoaaGreat.NatW.at_reg 3 ?_)
      (repeat (first | (rewrite [Go.Proofs.YgcoaaGreat.NatW.frz_ite]; generalize Go.Proofs.YgcoaaGreat.NatW.frzI _ = x__) | (rewrite [Go.Proofs.YgcoaaGreat.NatW.frz_dec]; generalize Go.Proofs.YgcoaaGreat.NatW.frzB _ = x__) | (rewrite [Go.Proofs.YgcoaaGreat.NatW.frz_beq]; generalize Go.Proofs.YgcoaaGreat.NatW.frzB _ = x__) | (rewrite [Go.Proofs.YgcoaaGreat.NatW.frz_not]; generalize Go.Proofs.YgcoaaGreat.NatW.frzB _ = x__) | (rewrite [Go.Proofs.YgcoaaGreat.NatW.frz_and]; generalize Go.Proofs.YgcoaaGreat.NatW.frzB _ = x__) | (rewrite [Go.Proofs.YgcoaaGreat.NatW.frz_or]; generalize Go.Proofs.YgcoaaGreat.NatW.frzB _ = x__) | (rewrite [show ∀ (a b : Int), Value.bool (a != b) = Value.bool (Go.Proofs.YgcoaaGreat.NatW.frzB (a != b)) from fun _ _ => rfl]; generalize Go.Proofs.YgcoaaGreat.NatW.frzB _ = x__)))
      refine Go.Lax.region_calls _ 10 3 [(6, fun v => v = .string sA), (8, fun v => v = .string sB), (9, fun v => v = .string s0)] (by kernel_rfl) (by kernel_rfl) (by kernel_rfl) (List.forall_mem_cons.2 ⟨⟨_, rfl⟩, List.forall_mem_cons.2 ⟨⟨_, rfl⟩, List.forall_mem_cons.2 ⟨⟨_, rfl⟩, fun _ h => by cases h⟩⟩⟩) ?_
      iterate 6 (refine Go.Lax.walk_det rfl rfl rfl ?_; go_big_quiet_want; go_big_quiet_op; go_big_quiet_on; refine wpQuiet_nil ?_)
      refine Go.Lax.call_at rfl ?_ (fun y__ K__ hK__ => by (go_wp2_with fail; refine (unhide HD0) _ _ (unhide HTL _) ?_; intro w__ hb__; have hh__ := Go.Proofs.YgcoaaGreat.NatW.hide (hK__ _ w__ rfl hb__); clear hK__; go_wp2_with fail; exact Eq.mp (by kernel_rfl) (Go.Proofs.YgcoaaGreat.NatW.unhide hh__)))
      rintro v rfl
      ((try dsimp only); go_big_quiet_want; go_big_quiet_op; go_big_quiet_on; refine wpQuiet_nil ?_)
      (refine Go.Lax.walk_det rfl rfl rfl ?_; go_big_quiet_want; go_big_quiet_op; go_big_quiet_on; refine wpQuiet_nil ?_)
      refine Go.Lax.call_at rfl ?_ (fun y__ K__ hK__ => by (go_wp2_with fail; refine (unhide HD1) _ _ (unhide HTL _) ?_; intro w__ hb__; have hh__ := Go.Proofs.YgcoaaGreat.NatW.hide (hK__ _ w__ rfl hb__); clear hK__; go_wp2_with fail; exact Eq.mp (by kernel_rfl) (Go.Proofs.YgcoaaGreat.NatW.unhide hh__)))
      rintro v rfl
      ((try dsimp only); go_big_quiet_want; go_big_quiet_op; go_big_quiet_on; refine wpQuiet_nil ?_)
      refine Go.Lax.call_at rfl ?_ (fun y__ K__ hK__ => by (go_wp2_with fail; refine (unhide HD2) _ _ (unhide HTL _) ?_; intro w__ hb__; have hh__ := Go.Proofs.YgcoaaGreat.NatW.hide (hK__ _ w__ rfl hb__); clear hK__; go_wp2_with fail; exact Eq.mp (by kernel_rfl) (Go.Proofs.YgcoaaGreat.NatW.unhide hh__)))
      rintro v rfl
      ((try dsimp only); go_big_quiet_want; go_big_quiet_op; go_big_quiet_on; refine wpQuiet_nil ?_)
      refine Go.Lax.end_at ?_
      intro y))
  all_goals first | exact unhide HK _ (hB _) | fail


set_option maxHeartbeats 4000000 in
theorem dig_299_23 (E M : Nat) (hf : fok E M = true) (a kD kA kB imm : Int) (hi : U64 imm) (text : ByteArray) (nb : Bool) (hnb : (bits .and .u64 a (2 ^ (E + M)) != 0) = nb) (sA sB s0 : ByteArray) (ex : Int) (hD0 : ∀ tb, DFT tb 177 #[fmt E M, .int .u64 a, .int .u16 (imm % 2001)] (.tuple #[.string sA, .int .i16 ex])) (hD1 : ∀ tb, DFT tb 367 #[.bool nb, .string sA, .int .i16 ex] (.string sB)) (hD2 : ∀ tb, DFT tb 292 #[fmt E M, .int .u64 a, .string sB] (.string s0)) (tb : Nat) : DFT tb 299 #[fmt E M, .int .u64 a, .agg #[.int .u8 23, .int .u8 kD, .int .u8 kA, .int .u8 kB, .int .u64 imm, .string text]] (.string s0) := by
  obtain ⟨g1, g2, g3, g4⟩ := fok_bd hf
  intro w K ho hK
  have HK := hide hK
  clear hK
  obtain ⟨wb, x0, hwb, r0, r1, hB, hZ⟩ := boxes2 w #[.int .u8 E, .int .u8 M] #[.int .u8 23, .int .u8 kD, .int .u8 kA, .int .u8 kB, .int .u64 imm, .string text] 23 91
  have c00 : ∀ x : Later wb, _ = some (.int .u8 E : Value) := Later.cell r0 0 _ rfl
  have c01 : ∀ x : Later wb, _ = some (.int .u8 M : Value) := Later.cell r0 1 _ rfl
  have c10 : ∀ x : Later wb, _ = some (.int .u8 23 : Value) := Later.cell r1 0 _ rfl
  have c11 : ∀ x : Later wb, _ = some (.int .u8 kD : Value) := Later.cell r1 1 _ rfl
  have c12 : ∀ x : Later wb, _ = some (.int .u8 kA : Value) := Later.cell r1 2 _ rfl
  have c13 : ∀ x : Later wb, _ = some (.int .u8 kB : Value) := Later.cell r1 3 _ rfl
  have c14 : ∀ x : Later wb, _ = some (.int .u64 imm : Value) := Later.cell r1 4 _ rfl
  have c15 : ∀ x : Later wb, _ = some (.string text : Value) := Later.cell r1 5 _ rfl
  have R0 := hide r0
  have R1 := hide r1
  clear r0 r1
  have hne : Nonempty (Later wb) := ⟨x0⟩
  have HTL := hide (fun y : Later wb => ho.later (hB y))
  have HD0 := hide (hD0 tb)
  have HD1 := hide (hD1 tb)
  have HD2 := hide (hD2 tb)
  clear hD0 hD1 hD2 ho
  go_enter Oaag.func299, Oaag.ntmps299
  have hi0 := hi.1
  have hi1 := hi.2
  go_wp2_with (first
    | (
      (with_reducible refine Go.Proofs.YgcoaaGreat.NatW.at_reg 1 ?_)
      (repeat (first | (rewrite [Go.Proofs.YgcoaaGreat.NatW.frz_ite]; generalize Go.Proofs.YgcoaaGreat.NatW.frzI _ = x__) | (rewrite [Go.Proofs.YgcoaaGreat.NatW.frz_dec]; generalize Go.Proofs.YgcoaaGreat.NatW.frzB _ = x__) | (rewrite [Go.Proofs.YgcoaaGreat.NatW.frz_beq]; generalize Go.Proofs.YgcoaaGreat.NatW.frzB _ = x__) | (rewrite [Go.Proofs.YgcoaaGreat.NatW.frz_not]; generalize Go.Proofs.YgcoaaGreat.NatW.frzB _ = x__) | (rewrite [Go.Proofs.YgcoaaGreat.NatW.frz_and]; generalize Go.Proofs.YgcoaaGreat.NatW.frzB _ = x__) | (rewrite [Go.Proofs.YgcoaaGreat.NatW.frz_or]; generalize Go.Proofs.YgcoaaGreat.NatW.frzB _ = x__) | (rewrite [show ∀ (a b : Int), Value.bool (a != b) = Value.bool (Go.Proofs.YgcoaaGreat.NatW.frzB (a != b)) from fun _ _ => rfl]; generalize Go.Proofs.YgcoaaGreat.NatW.frzB _ = x__)))
      refine Go.Lax.region_calls _ 10 3 [(6, fun v => v = .int .u64 ((2 ^ (E + M) : Nat) : Int))] (by kernel_rfl) (by kernel_rfl) (by kernel_rfl) (List.forall_mem_cons.2 ⟨⟨_, rfl⟩, fun _ h => by cases h⟩) ?_
      iterate 6 (refine Go.Lax.walk_det rfl rfl rfl ?_; go_big_quiet_want; go_big_quiet_op; go_big_quiet_on; refine wpQuiet_nil ?_)
      refine Go.Lax.call_at rfl ?_ (fun y__ K__ hK__ => by (go_wp2_with fail; refine (signBit_ret E M hf) _ _ ?_; intro v__ w__ hv__ hb__; have hh__ := Go.Proofs.YgcoaaGreat.NatW.hide (hK__ v__ w__ hv__ hb__); clear hK__ hv__; go_wp2_with fail; exact Eq.mp (by kernel_rfl) (Go.Proofs.YgcoaaGreat.NatW.unhide hh__)))
      rintro v rfl
      ((try dsimp only); go_big_quiet_want; go_big_quiet_op; go_big_quiet_on; refine wpQuiet_nil ?_)
      iterate 3 (refine Go.Lax.walk_det rfl rfl rfl ?_; go_big_quiet_want; go_big_quiet_op; go_big_quiet_on; refine wpQuiet_nil ?_)
      refine Go.Lax.end_at ?_
      intro y)
    | (
      (with_reducible refine Go.Proofs.YgcoaaGreat.NatW.at_reg 5 ?_)
      (repeat (first | (rewrite [Go.Proofs.YgcoaaGreat.NatW.frz_ite]; generalize Go.Proofs.YgcoaaGreat.NatW.frzI _ = x__) | (rewrite [Go.Proofs.YgcoaaGreat.NatW.frz_dec]; generalize Go.Proofs.YgcoaaGreat.NatW.frzB _ = x__) | (rewrite [Go.Proofs.YgcoaaGreat.NatW.frz_beq]; generalize Go.Proofs.YgcoaaGreat.NatW.frzB _ = x__) | (rewrite [Go.Proofs.YgcoaaGreat.NatW.frz_not]; generalize Go.Proofs.YgcoaaGreat.NatW.frzB _ = x__) | (rewrite [Go.Proofs.YgcoaaGreat.NatW.frz_and]; generalize Go.Proofs.YgcoaaGreat.NatW.frzB _ = x__) | (rewrite [Go.Proofs.YgcoaaGreat.NatW.frz_or]; generalize Go.Proofs.YgcoaaGreat.NatW.frzB _ = x__) | (rewrite [show ∀ (a b : Int), Value.bool (a != b) = Value.bool (Go.Proofs.YgcoaaGreat.NatW.frzB (a != b)) from fun _ _ => rfl]; generalize Go.Proofs.YgcoaaGreat.NatW.frzB _ = x__)))
      refine Go.Lax.region_calls _ 7 3 [(5, fun v => v = .string sB), (6, fun v => v = .string s0)] (by kernel_rfl) (by kernel_rfl) (by kernel_rfl) (List.forall_mem_cons.2 ⟨⟨_, rfl⟩, List.forall_mem_cons.2 ⟨⟨_, rfl⟩, fun _ h => by cases h⟩⟩) ?_
      iterate 5 (refine Go.Lax.walk_det rfl rfl rfl ?_; go_big_quiet_want; go_big_quiet_op; go_big_quiet_on; refine wpQuiet_nil ?_)
      refine Go.Lax.call_at rfl ?_ (fun y__ K__ hK__ => by (go_wp2_with fail; refine (unhide HD1) _ _ (unhide HTL _) ?_; intro w__ hb__; have hh__ := Go.Proofs.YgcoaaGreat.NatW.hide (hK__ _ w__ rfl hb__); clear hK__; go_wp2_with fail; exact Eq.mp (by kernel_rfl) (Go.Proofs.YgcoaaGreat.NatW.unhide hh__)))
      rintro v rfl
      ((try dsimp only); go_big_quiet_want; go_big_quiet_op; go_big_quiet_on; refine wpQuiet_nil ?_)
      refine Go.Lax.call_at rfl ?_ (fun y__ K__ hK__ => by (go_wp2_with fail; refine (unhide HD2) _ _ (unhide HTL _) ?_; intro w__ hb__; have hh__ := Go.Proofs.YgcoaaGreat.NatW.hide (hK__ _ w__ rfl hb__); clear hK__; go_wp2_with fail; exact Eq.mp (by kernel_rfl) (Go.Proofs.YgcoaaGreat.NatW.unhide hh__)))
      rintro v rfl
      ((try dsimp only); go_big_quiet_want; go_big_quiet_op; go_big_quiet_on; refine wpQuiet_nil ?_)
      refine Go.Lax.end_at ?_
      intro y)
    | ((with_reducible refine at_later 177 ?_); refine DFT.run (unhide HD0) (unhide HTL) _ ?_; intro y__))
  all_goals first | exact unhide HK _ (hB _) | fail


set_option maxHeartbeats 4000000 in
theorem dig_239_24 (E M : Nat) (hf : fok E M = true) (a kD kA kB imm : Int) (hi : U64 imm) (text : ByteArray) (nb : Bool) (hnb : (bits .and .u64 a (2 ^ (E + M)) != 0) = nb) (sA sB s0 : ByteArray) (hD0 : ∀ tb, DFT tb 178 #[fmt E M, .int .u64 a, .int .u16 (imm % 2001)] (.string sA)) (hD1 : ∀ tb, DFT tb 366 #[.bool nb, .string sA, .int .u16 (imm % 2001)] (.string sB)) (hD2 : ∀ tb, DFT tb 229 #[fmt E M, .int .u64 a, .string sB] (.string s0)) (tb : Nat) : DFT tb 239 #[fmt E M, .int .u64 a, .agg #[.int .u8 24, .int .u8 kD, .int .u8 kA, .int .u8 kB, .int .u64 imm, .string text]] (.string s0) := by
  obtain ⟨g1, g2, g3, g4⟩ := fok_bd hf
  intro w K ho hK
  have HK := hide hK
  clear hK
  obtain ⟨wb, x0, hwb, r0, r1, hB, hZ⟩ := boxes2 w #[.int .u8 E, .int .u8 M] #[.int .u8 24, .int .u8 kD, .int .u8 kA, .int .u8 kB, .int .u64 imm, .string text] 23 91
  have c00 : ∀ x : Later wb, _ = some (.int .u8 E : Value) := Later.cell r0 0 _ rfl
  have c01 : ∀ x : Later wb, _ = some (.int .u8 M : Value) := Later.cell r0 1 _ rfl
  have c10 : ∀ x : Later wb, _ = some (.int .u8 24 : Value) := Later.cell r1 0 _ rfl
  have c11 : ∀ x : Later wb, _ = some (.int .u8 kD : Value) := Later.cell r1 1 _ rfl
  have c12 : ∀ x : Later wb, _ = some (.int .u8 kA : Value) := Later.cell r1 2 _ rfl
  have c13 : ∀ x : Later wb, _ = some (.int .u8 kB : Value) := Later.cell r1 3 _ rfl
  have c14 : ∀ x : Later wb, _ = some (.int .u64 imm : Value) := Later.cell r1 4 _ rfl
  have c15 : ∀ x : Later wb, _ = some (.string text : Value) := Later.cell r1 5 _ rfl
  have R0 := hide r0
  have R1 := hide r1
  clear r0 r1
  have hne : Nonempty (Later wb) := ⟨x0⟩
  have HTL := hide (fun y : Later wb => ho.later (hB y))
  have HD0 := hide (hD0 tb)
  have HD1 := hide (hD1 tb)
  have HD2 := hide (hD2 tb)
  clear hD0 hD1 hD2 ho
  go_enter Oaag.func239, Oaag.ntmps239
  have hi0 := hi.1
  have hi1 := hi.2
  go_wp2_with (first
    | (
      (with_reducible refine Go.Proofs.YgcoaaGreat.NatW.at_reg 1 ?_)
      (repeat (first | (rewrite [Go.Proofs.YgcoaaGreat.NatW.frz_ite]; generalize Go.Proofs.YgcoaaGreat.NatW.frzI _ = x__) | (rewrite [Go.Proofs.YgcoaaGreat.NatW.frz_dec]; generalize Go.Proofs.YgcoaaGreat.NatW.frzB _ = x__) | (rewrite [Go.Proofs.YgcoaaGreat.NatW.frz_beq]; generalize Go.Proofs.YgcoaaGreat.NatW.frzB _ = x__) | (rewrite [Go.Proofs.YgcoaaGreat.NatW.frz_not]; generalize Go.Proofs.YgcoaaGreat.NatW.frzB _ = x__) | (rewrite [Go.Proofs.YgcoaaGreat.NatW.frz_and]; generalize Go.Proofs.YgcoaaGreat.NatW.frzB _ = x__) | (rewrite [Go.Proofs.YgcoaaGreat.NatW.frz_or]; generalize Go.Proofs.YgcoaaGreat.NatW.frzB _ = x__) | (rewrite [show ∀ (a b : Int), Value.bool (a != b) = Value.bool (Go.Proofs.YgcoaaGreat.NatW.frzB (a != b)) from fun _ _ => rfl]; generalize Go.Proofs.YgcoaaGreat.NatW.frzB _ = x__)))
      refine Go.Lax.region_calls _ 10 3 [(6, fun v => v = .int .u64 ((2 ^ (E + M) : Nat) : Int))] (by kernel_rfl) (by kernel_rfl) (by kernel_rfl) (List.forall_mem_cons.2 ⟨⟨_, rfl⟩, fun _ h => by cases h⟩) ?_
      iterate 6 (refine Go.Lax.walk_det rfl rfl rfl ?_; go_big_quiet_want; go_big_quiet_op; go_big_quiet_on; refine wpQuiet_nil ?_)
      refine Go.Lax.call_at rfl ?_ (fun y__ K__ hK__ => by (go_wp2_with fail; refine (signBit_ret E M hf) _ _ ?_; intro v__ w__ hv__ hb__; have hh__ := Go.Proofs.YgcoaaGreat.NatW.hide (hK__ v__ w__ hv__ hb__); clear hK__ hv__; go_wp2_with fail; exact Eq.mp (by kernel_rfl) (Go.Proofs.YgcoaaGreat.NatW.unhide hh__)))
      rintro v rfl
      ((try dsimp only); go_big_quiet_want; go_big_quiet_op; go_big_quiet_on; refine wpQuiet_nil ?_)
      iterate 3 (refine Go.Lax.walk_det rfl rfl rfl ?_; go_big_quiet_want; go_big_quiet_op; go_big_quiet_on; refine wpQuiet_nil ?_)
      refine Go.Lax.end_at ?_
      intro y)
    | (
      (with_reducible refine Go.Proofs.YgcoaaGreat.NatW.at_reg 3 ?_)
      (repeat (first | (rewrite [Go.Proofs.YgcoaaGreat.NatW.frz_ite]; generalize Go.Proofs.YgcoaaGreat.NatW.frzI _ = x__) | (rewrite [Go.Proofs.YgcoaaGreat.NatW.frz_dec]; generalize Go.Proofs.YgcoaaGreat.NatW.frzB _ = x__) | (rewrite [Go.Proofs.YgcoaaGreat.NatW.frz_beq]; generalize Go.Proofs.YgcoaaGreat.NatW.frzB _ = x__) | (rewrite [Go.Proofs.YgcoaaGreat.NatW.frz_not]; generalize Go.Proofs.YgcoaaGreat.NatW.frzB _ = x__) | (rewrite [Go.Proofs.YgcoaaGreat.NatW.frz_and]; generalize Go.Proofs.YgcoaaGreat.NatW.frzB _ = x__) | (rewrite [Go.Proofs.YgcoaaGreat.NatW.frz_or]; generalize Go.Proofs.YgcoaaGreat.NatW.frzB _ = x__) | (rewrite [show ∀ (a b : Int), Value.bool (a != b) = Value.bool (Go.Proofs.YgcoaaGreat.NatW.frzB (a != b)) from fun _ _ => rfl]; generalize Go.Proofs.YgcoaaGreat.NatW.frzB _ = x__)))
      refine Go.Lax.region_calls _ 10 3 [(6, fun v => v = .string sA), (8, fun v => v = .string sB), (9, fun v => v = .string s0)] (by kernel_rfl) (by kernel_rfl) (by kernel_rfl) (List.forall_mem_cons.2 ⟨⟨_, rfl⟩, List.forall_mem_cons.2 ⟨⟨_, rfl⟩, List.forall_mem_cons.2 ⟨⟨_, rfl⟩, fun _ h => by cases h⟩⟩⟩) ?_
      iterate 6 (refine Go.Lax.walk_det rfl rfl rfl ?_; go_big_quiet_want; go_big_quiet_op; go_big_quiet_on; refine wpQuiet_nil ?_)
      refine Go.Lax.call_at rfl ?_ (fun y__ K__ hK__ => by (go_wp2_with fail; refine (unhide HD0) _ _ (unhide HTL _) ?_; intro w__ hb__; have hh__ := Go.Proofs.YgcoaaGreat.NatW.hide (hK__ _ w__ rfl hb__); clear hK__; go_wp2_with fail; exact Eq.mp (by kernel_rfl) (Go.Proofs.YgcoaaGreat.NatW.unhide hh__)))
      rintro v rfl
      ((try dsimp only); go_big_quiet_want; go_big_quiet_op; go_big_quiet_on; refine wpQuiet_nil ?_)
      (refine Go.Lax.walk_det rfl rfl rfl ?_; go_big_quiet_want; go_big_quiet_op; go_big_quiet_on; refine wpQuiet_nil ?_)
      refine Go.Lax.call_at rfl ?_ (fun y__ K__ hK__ => by (go_wp2_with fail; refine (unhide HD1) _ _ (unhide HTL _) ?_; intro w__ hb__; have hh__ := Go.Proofs.YgcoaaGreat.NatW.hide (hK__ _ w__ rfl hb__); clear hK__; go_wp2_with fail; exact Eq.mp (by kernel_rfl) (Go.Proofs.YgcoaaGreat.NatW.unhide hh__)))
      rintro v rfl
      ((try dsimp only); go_big_quiet_want; go_big_quiet_op; go_big_quiet_on; refine wpQuiet_nil ?_)
      refine Go.Lax.call_at rfl ?_ (fun y__ K__ hK__ => by (go_wp2_with fail; refine (unhide HD2) _ _ (unhide HTL _) ?_; intro w__ hb__; have hh__ := Go.Proofs.YgcoaaGreat.NatW.hide (hK__ _ w__ rfl hb__); clear hK__; go_wp2_with fail; exact Eq.mp (by kernel_rfl) (Go.Proofs.YgcoaaGreat.NatW.unhide hh__)))
      rintro v rfl
      ((try dsimp only); go_big_quiet_want; go_big_quiet_op; go_big_quiet_on; refine wpQuiet_nil ?_)
      refine Go.Lax.end_at ?_
      intro y))
  all_goals first | exact unhide HK _ (hB _) | fail


set_option maxHeartbeats 4000000 in
theorem dig_239_23 (E M : Nat) (hf : fok E M = true) (a kD kA kB imm : Int) (hi : U64 imm) (text : ByteArray) (nb : Bool) (hnb : (bits .and .u64 a (2 ^ (E + M)) != 0) = nb) (sA sB s0 : ByteArray) (ex : Int) (hD0 : ∀ tb, DFT tb 176 #[fmt E M, .int .u64 a, .int .u16 (imm % 2001)] (.tuple #[.string sA, .int .i16 ex])) (hD1 : ∀ tb, DFT tb 367 #[.bool nb, .string sA, .int .i16 ex] (.string sB)) (hD2 : ∀ tb, DFT tb 229 #[fmt E M, .int .u64 a, .string sB] (.string s0)) (tb : Nat) : DFT tb 239 #[fmt E M, .int .u64 a, .agg #[.int .u8 23, .int .u8 kD, .int .u8 kA, .int .u8 kB, .int .u64 imm, .string text]] (.string s0) := by
  obtain ⟨g1, g2, g3, g4⟩ := fok_bd hf
  intro w K ho hK
  have HK := hide hK
  clear hK
  obtain ⟨wb, x0, hwb, r0, r1, hB, hZ⟩ := boxes2 w #[.int .u8 E, .int .u8 M] #[.int .u8 23, .int .u8 kD, .int .u8 kA, .int .u8 kB, .int .u64 imm, .string text] 23 91
  have c00 : ∀ x : Later wb, _ = some (.int .u8 E : Value) := Later.cell r0 0 _ rfl
  have c01 : ∀ x : Later wb, _ = some (.int .u8 M : Value) := Later.cell r0 1 _ rfl
  have c10 : ∀ x : Later wb, _ = some (.int .u8 23 : Value) := Later.cell r1 0 _ rfl
  have c11 : ∀ x : Later wb, _ = some (.int .u8 kD : Value) := Later.cell r1 1 _ rfl
  have c12 : ∀ x : Later wb, _ = some (.int .u8 kA : Value) := Later.cell r1 2 _ rfl
  have c13 : ∀ x : Later wb, _ = some (.int .u8 kB : Value) := Later.cell r1 3 _ rfl
  have c14 : ∀ x : Later wb, _ = some (.int .u64 imm : Value) := Later.cell r1 4 _ rfl
  have c15 : ∀ x : Later wb, _ = some (.string text : Value) := Later.cell r1 5 _ rfl
  have R0 := hide r0
  have R1 := hide r1
  clear r0 r1
  have hne : Nonempty (Later wb) := ⟨x0⟩
  have HTL := hide (fun y : Later wb => ho.later (hB y))
  have HD0 := hide (hD0 tb)
  have HD1 := hide (hD1 tb)
  have HD2 := hide (hD2 tb)
  clear hD0 hD1 hD2 ho
  go_enter Oaag.func239, Oaag.ntmps239
  have hi0 := hi.1
  have hi1 := hi.2
  go_wp2_with (first
    | (
      (with_reducible refine Go.Proofs.YgcoaaGreat.NatW.at_reg 1 ?_)
      (repeat (first | (rewrite [Go.Proofs.YgcoaaGreat.NatW.frz_ite]; generalize Go.Proofs.YgcoaaGreat.NatW.frzI _ = x__) | (rewrite [Go.Proofs.YgcoaaGreat.NatW.frz_dec]; generalize Go.Proofs.YgcoaaGreat.NatW.frzB _ = x__) | (rewrite [Go.Proofs.YgcoaaGreat.NatW.frz_beq]; generalize Go.Proofs.YgcoaaGreat.NatW.frzB _ = x__) | (rewrite [Go.Proofs.YgcoaaGreat.NatW.frz_not]; generalize Go.Proofs.YgcoaaGreat.NatW.frzB _ = x__) | (rewrite [Go.Proofs.YgcoaaGreat.NatW.frz_and]; generalize Go.Proofs.YgcoaaGreat.NatW.frzB _ = x__) | (rewrite [Go.Proofs.YgcoaaGreat.NatW.frz_or]; generalize Go.Proofs.YgcoaaGreat.NatW.frzB _ = x__) | (rewrite [show ∀ (a b : Int), Value.bool (a != b) = Value.bool (Go.Proofs.YgcoaaGreat.NatW.frzB (a != b)) from fun _ _ => rfl]; generalize Go.Proofs.YgcoaaGreat.NatW.frzB _ = x__)))
      refine Go.Lax.region_calls _ 10 3 [(6, fun v => v = .int .u64 ((2 ^ (E + M) : Nat) : Int))] (by kernel_rfl) (by kernel_rfl) (by kernel_rfl) (List.forall_mem_cons.2 ⟨⟨_, rfl⟩, fun _ h => by cases h⟩) ?_
      iterate 6 (refine Go.Lax.walk_det rfl rfl rfl ?_; go_big_quiet_want; go_big_quiet_op; go_big_quiet_on; refine wpQuiet_nil ?_)
      refine Go.Lax.call_at rfl ?_ (fun y__ K__ hK__ => by (go_wp2_with fail; refine (signBit_ret E M hf) _ _ ?_; intro v__ w__ hv__ hb__; have hh__ := Go.Proofs.YgcoaaGreat.NatW.hide (hK__ v__ w__ hv__ hb__); clear hK__ hv__; go_wp2_with fail; exact Eq.mp (by kernel_rfl) (Go.Proofs.YgcoaaGreat.NatW.unhide hh__)))
      rintro v rfl
      ((try dsimp only); go_big_quiet_want; go_big_quiet_op; go_big_quiet_on; refine wpQuiet_nil ?_)
      iterate 3 (refine Go.Lax.walk_det rfl rfl rfl ?_; go_big_quiet_want; go_big_quiet_op; go_big_quiet_on; refine wpQuiet_nil ?_)
      refine Go.Lax.end_at ?_
      intro y)
    | (
      (with_reducible refine Go.Proofs.YgcoaaGreat.NatW.at_reg 5 ?_)
      (repeat (first | (rewrite [Go.Proofs.YgcoaaGreat.NatW.frz_ite]; generalize Go.Proofs.YgcoaaGreat.NatW.frzI _ = x__) | (rewrite [Go.Proofs.YgcoaaGreat.NatW.frz_dec]; generalize Go.Proofs.YgcoaaGreat.NatW.frzB _ = x__) | (rewrite [Go.Proofs.YgcoaaGreat.NatW.frz_beq]; generalize Go.Proofs.YgcoaaGreat.NatW.frzB _ = x__) | (rewrite [Go.Proofs.YgcoaaGreat.NatW.frz_not]; generalize Go.Proofs.YgcoaaGreat.NatW.frzB _ = x__) | (rewrite [Go.Proofs.YgcoaaGreat.NatW.frz_and]; generalize Go.Proofs.YgcoaaGreat.NatW.frzB _ = x__) | (rewrite [Go.Proofs.YgcoaaGreat.NatW.frz_or]; generalize Go.Proofs.YgcoaaGreat.NatW.frzB _ = x__) | (rewrite [show ∀ (a b : Int), Value.bool (a != b) = Value.bool (Go.Proofs.YgcoaaGreat.NatW.frzB (a != b)) from fun _ _ => rfl]; generalize Go.Proofs.YgcoaaGreat.NatW.frzB _ = x__)))
      refine Go.Lax.region_calls _ 7 3 [(5, fun v => v = .string sB), (6, fun v => v = .string s0)] (by kernel_rfl) (by kernel_rfl) (by kernel_rfl) (List.forall_mem_cons.2 ⟨⟨_, rfl⟩, List.forall_mem_cons.2 ⟨⟨_, rfl⟩, fun _ h => by cases h⟩⟩) ?_
      iterate 5 (refine Go.Lax.walk_det rfl rfl rfl ?_; go_big_quiet_want; go_big_quiet_op; go_big_quiet_on; refine wpQuiet_nil ?_)
      refine Go.Lax.call_at rfl ?_ (fun y__ K__ hK__ => by (go_wp2_with fail; refine (unhide HD1) _ _ (unhide HTL _) ?_; intro w__ hb__; have hh__ := Go.Proofs.YgcoaaGreat.NatW.hide (hK__ _ w__ rfl hb__); clear hK__; go_wp2_with fail; exact Eq.mp (by kernel_rfl) (Go.Proofs.YgcoaaGreat.NatW.unhide hh__)))
      rintro v rfl
      ((try dsimp only); go_big_quiet_want; go_big_quiet_op; go_big_quiet_on; refine wpQuiet_nil ?_)
      refine Go.Lax.call_at rfl ?_ (fun y__ K__ hK__ => by (go_wp2_with fail; refine (unhide HD2) _ _ (unhide HTL _) ?_; intro w__ hb__; have hh__ := Go.Proofs.YgcoaaGreat.NatW.hide (hK__ _ w__ rfl hb__); clear hK__; go_wp2_with fail; exact Eq.mp (by kernel_rfl) (Go.Proofs.YgcoaaGreat.NatW.unhide hh__)))
      rintro v rfl
      ((try dsimp only); go_big_quiet_want; go_big_quiet_op; go_big_quiet_on; refine wpQuiet_nil ?_)
      refine Go.Lax.end_at ?_
      intro y)
    | ((with_reducible refine at_later 176 ?_); refine DFT.run (unhide HD0) (unhide HTL) _ ?_; intro y__))
  all_goals first | exact unhide HK _ (hB _) | fail

end Go.Proofs.YgcoaaGreat.NatW
