/-
  show, exactly.
-/
import Derived.Test.YgcoaaGreatSxV
set_option linter.unusedVariables false
set_option linter.unusedSimpArgs false
set_option maxRecDepth 20000
namespace Go.Proofs.YgcoaaGreat.NatW
open Go.RowKit
open Go.Proofs.YgcoaaGreat.Det
open Go.Proofs.YgcoaaGreat.Limbs Go.Proofs.YgcoaaGreat.Bits
attribute [local go_sem] Go.Instr.field Go.asAgg

set_option maxHeartbeats 2000000 in
theorem show_146 (E M : Nat) (hf : fok E M = true) (a : Int) (nn : Bool) (dd : ByteArray) (ee : Int) (sA s0 : ByteArray) (tb : Nat) (hD0 : DFT tb 171 #[.pointer (some ⟨tb, 0, none⟩), fmt E M, .int .u64 a] (.agg #[.bool nn, .string dd, .int .i16 ee])) (hD1 : DFT tb 56 #[.agg #[.bool nn, .string dd, .int .i16 ee]] (.string sA)) (hD2 : DFT tb 256 #[fmt E M, .int .u64 a, .string sA] (.string s0)) : DFT tb 146 #[.pointer (some ⟨tb, 0, none⟩), fmt E M, .int .u64 a] (.string s0) := by
  obtain ⟨g1, g2, g3, g4⟩ := fok_bd hf
  intro w K ho hK
  have HK := hide hK
  clear hK
  obtain ⟨wb, x0, hwb, r0, hB, hZ⟩ := boxes1 w #[.int .u8 E, .int .u8 M] 23
  have c00 : ∀ x : Later wb, _ = some (.int .u8 E : Value) := Later.cell r0 0 _ rfl
  have c01 : ∀ x : Later wb, _ = some (.int .u8 M : Value) := Later.cell r0 1 _ rfl
  have R0 := hide r0
  clear r0
  have hne : Nonempty (Later wb) := ⟨x0⟩
  have HTL := hide (fun y : Later wb => ho.later (hB y))
  have HD0 := hide hD0
  have HD1 := hide hD1
  have HD2 := hide hD2
  clear hD0 hD1 hD2 ho
  go_enter Oaag.func146, Oaag.ntmps146
  go_wp2_with (first
    | (
      (with_reducible refine at_reg 1 ?_)
      (repeat (first | (rewrite [Go.Proofs.YgcoaaGreat.NatW.frz_ite]; generalize Go.Proofs.YgcoaaGreat.NatW.frzI _ = x__) | (rewrite [Go.Proofs.YgcoaaGreat.NatW.frz_dec]; generalize Go.Proofs.YgcoaaGreat.NatW.frzB _ = x__) | (rewrite [Go.Proofs.YgcoaaGreat.NatW.frz_beq]; generalize Go.Proofs.YgcoaaGreat.NatW.frzB _ = x__) | (rewrite [Go.Proofs.YgcoaaGreat.NatW.frz_not]; generalize Go.Proofs.YgcoaaGreat.NatW.frzB _ = x__) | (rewrite [Go.Proofs.YgcoaaGreat.NatW.frz_and]; generalize Go.Proofs.YgcoaaGreat.NatW.frzB _ = x__) | (rewrite [Go.Proofs.YgcoaaGreat.NatW.frz_or]; generalize Go.Proofs.YgcoaaGreat.NatW.frzB _ = x__) | (rewrite [show ∀ (a b : Int), Value.bool (a != b) = Value.bool (Go.Proofs.YgcoaaGreat.NatW.frzB (a != b)) from fun _ _ => rfl]; generalize Go.Proofs.YgcoaaGreat.NatW.frzB _ = x__)))
      refine Go.Lax.region_calls _ 8 3 [(5, fun v => v = .agg #[.bool nn, .string dd, .int .i16 ee]), (6, fun v => v = .string sA), (7, fun v => v = .string s0)] (by kernel_rfl) (by kernel_rfl) (by kernel_rfl) (List.forall_mem_cons.2 ⟨⟨_, rfl⟩, List.forall_mem_cons.2 ⟨⟨_, rfl⟩, List.forall_mem_cons.2 ⟨⟨_, rfl⟩, fun _ h => by cases h⟩⟩⟩) ?_
      iterate 5 (refine Go.Lax.walk_det rfl rfl rfl ?_; go_big_quiet_want; go_big_quiet_op; go_big_quiet_on; refine wpQuiet_nil ?_)
      refine Go.Lax.call_at rfl ?_ (fun y__ K__ hK__ => by (go_wp2_with fail; refine (unhide HD0) _ _ (unhide HTL _) ?_; intro w__ hb__; have hh__ := hide (hK__ _ w__ rfl hb__); clear hK__; go_wp2_with fail; exact Eq.mp (by kernel_rfl) (unhide hh__)))
      rintro v rfl
      ((try dsimp only); go_big_quiet_want; go_big_quiet_op; go_big_quiet_on; refine wpQuiet_nil ?_)
      refine Go.Lax.call_at rfl ?_ (fun y__ K__ hK__ => by (go_wp2_with fail; refine (unhide HD1) _ _ (unhide HTL _) ?_; intro w__ hb__; have hh__ := hide (hK__ _ w__ rfl hb__); clear hK__; go_wp2_with fail; exact Eq.mp (by kernel_rfl) (unhide hh__)))
      rintro v rfl
      ((try dsimp only); go_big_quiet_want; go_big_quiet_op; go_big_quiet_on; refine wpQuiet_nil ?_)
      refine Go.Lax.call_at rfl ?_ (fun y__ K__ hK__ => by (go_wp2_with fail; refine (unhide HD2) _ _ (unhide HTL _) ?_; intro w__ hb__; have hh__ := hide (hK__ _ w__ rfl hb__); clear hK__; go_wp2_with fail; exact Eq.mp (by kernel_rfl) (unhide hh__)))
      rintro v rfl
      ((try dsimp only); go_big_quiet_want; go_big_quiet_op; go_big_quiet_on; refine wpQuiet_nil ?_)
      refine Go.Lax.end_at ?_
      intro y))
  all_goals first | exact unhide HK _ (hB _) | fail

set_option maxHeartbeats 2000000 in
theorem show_156 (E M : Nat) (hf : fok E M = true) (a : Int) (nn : Bool) (dd : ByteArray) (ee : Int) (sA s0 : ByteArray) (tb : Nat) (hD0 : DFT tb 171 #[.pointer (some ⟨tb, 0, none⟩), fmt E M, .int .u64 a] (.agg #[.bool nn, .string dd, .int .i16 ee])) (hD1 : DFT tb 56 #[.agg #[.bool nn, .string dd, .int .i16 ee]] (.string sA)) (hD2 : DFT tb 292 #[fmt E M, .int .u64 a, .string sA] (.string s0)) : DFT tb 156 #[.pointer (some ⟨tb, 0, none⟩), fmt E M, .int .u64 a] (.string s0) := by
  obtain ⟨g1, g2, g3, g4⟩ := fok_bd hf
  intro w K ho hK
  have HK := hide hK
  clear hK
  obtain ⟨wb, x0, hwb, r0, hB, hZ⟩ := boxes1 w #[.int .u8 E, .int .u8 M] 23
  have c00 : ∀ x : Later wb, _ = some (.int .u8 E : Value) := Later.cell r0 0 _ rfl
  have c01 : ∀ x : Later wb, _ = some (.int .u8 M : Value) := Later.cell r0 1 _ rfl
  have R0 := hide r0
  clear r0
  have hne : Nonempty (Later wb) := ⟨x0⟩
  have HTL := hide (fun y : Later wb => ho.later (hB y))
  have HD0 := hide hD0
  have HD1 := hide hD1
  have HD2 := hide hD2
  clear hD0 hD1 hD2 ho
  go_enter Oaag.func156, Oaag.ntmps156
  go_wp2_with (first
    | (
      (with_reducible refine at_reg 1 ?_)
      (repeat (first | (rewrite [Go.Proofs.YgcoaaGreat.NatW.frz_ite]; generalize Go.Proofs.YgcoaaGreat.NatW.frzI _ = x__) | (rewrite [Go.Proofs.YgcoaaGreat.NatW.frz_dec]; generalize Go.Proofs.YgcoaaGreat.NatW.frzB _ = x__) | (rewrite [Go.Proofs.YgcoaaGreat.NatW.frz_beq]; generalize Go.Proofs.YgcoaaGreat.NatW.frzB _ = x__) | (rewrite [Go.Proofs.YgcoaaGreat.NatW.frz_not]; generalize Go.Proofs.YgcoaaGreat.NatW.frzB _ = x__) | (rewrite [Go.Proofs.YgcoaaGreat.NatW.frz_and]; generalize Go.Proofs.YgcoaaGreat.NatW.frzB _ = x__) | (rewrite [Go.Proofs.YgcoaaGreat.NatW.frz_or]; generalize Go.Proofs.YgcoaaGreat.NatW.frzB _ = x__) | (rewrite [show ∀ (a b : Int), Value.bool (a != b) = Value.bool (Go.Proofs.YgcoaaGreat.NatW.frzB (a != b)) from fun _ _ => rfl]; generalize Go.Proofs.YgcoaaGreat.NatW.frzB _ = x__)))
      refine Go.Lax.region_calls _ 8 3 [(5, fun v => v = .agg #[.bool nn, .string dd, .int .i16 ee]), (6, fun v => v = .string sA), (7, fun v => v = .string s0)] (by kernel_rfl) (by kernel_rfl) (by kernel_rfl) (List.forall_mem_cons.2 ⟨⟨_, rfl⟩, List.forall_mem_cons.2 ⟨⟨_, rfl⟩, List.forall_mem_cons.2 ⟨⟨_, rfl⟩, fun _ h => by cases h⟩⟩⟩) ?_
      iterate 5 (refine Go.Lax.walk_det rfl rfl rfl ?_; go_big_quiet_want; go_big_quiet_op; go_big_quiet_on; refine wpQuiet_nil ?_)
      refine Go.Lax.call_at rfl ?_ (fun y__ K__ hK__ => by (go_wp2_with fail; refine (unhide HD0) _ _ (unhide HTL _) ?_; intro w__ hb__; have hh__ := hide (hK__ _ w__ rfl hb__); clear hK__; go_wp2_with fail; exact Eq.mp (by kernel_rfl) (unhide hh__)))
      rintro v rfl
      ((try dsimp only); go_big_quiet_want; go_big_quiet_op; go_big_quiet_on; refine wpQuiet_nil ?_)
      refine Go.Lax.call_at rfl ?_ (fun y__ K__ hK__ => by (go_wp2_with fail; refine (unhide HD1) _ _ (unhide HTL _) ?_; intro w__ hb__; have hh__ := hide (hK__ _ w__ rfl hb__); clear hK__; go_wp2_with fail; exact Eq.mp (by kernel_rfl) (unhide hh__)))
      rintro v rfl
      ((try dsimp only); go_big_quiet_want; go_big_quiet_op; go_big_quiet_on; refine wpQuiet_nil ?_)
      refine Go.Lax.call_at rfl ?_ (fun y__ K__ hK__ => by (go_wp2_with fail; refine (unhide HD2) _ _ (unhide HTL _) ?_; intro w__ hb__; have hh__ := hide (hK__ _ w__ rfl hb__); clear hK__; go_wp2_with fail; exact Eq.mp (by kernel_rfl) (unhide hh__)))
      rintro v rfl
      ((try dsimp only); go_big_quiet_want; go_big_quiet_op; go_big_quiet_on; refine wpQuiet_nil ?_)
      refine Go.Lax.end_at ?_
      intro y))
  all_goals first | exact unhide HK _ (hB _) | fail

set_option maxHeartbeats 2000000 in
theorem show_132 (E M : Nat) (hf : fok E M = true) (a : Int) (nn : Bool) (dd : ByteArray) (ee : Int) (sA s0 : ByteArray) (tb : Nat) (hD0 : DFT tb 167 #[fmt E M, .int .u64 a] (.agg #[.bool nn, .string dd, .int .i16 ee])) (hD1 : DFT tb 56 #[.agg #[.bool nn, .string dd, .int .i16 ee]] (.string sA)) (hD2 : DFT tb 229 #[fmt E M, .int .u64 a, .string sA] (.string s0)) : DFT tb 132 #[fmt E M, .int .u64 a] (.string s0) := by
  obtain ⟨g1, g2, g3, g4⟩ := fok_bd hf
  intro w K ho hK
  have HK := hide hK
  clear hK
  obtain ⟨wb, x0, hwb, r0, hB, hZ⟩ := boxes1 w #[.int .u8 E, .int .u8 M] 23
  have c00 : ∀ x : Later wb, _ = some (.int .u8 E : Value) := Later.cell r0 0 _ rfl
  have c01 : ∀ x : Later wb, _ = some (.int .u8 M : Value) := Later.cell r0 1 _ rfl
  have R0 := hide r0
  clear r0
  have hne : Nonempty (Later wb) := ⟨x0⟩
  have HTL := hide (fun y : Later wb => ho.later (hB y))
  have HD0 := hide hD0
  have HD1 := hide hD1
  have HD2 := hide hD2
  clear hD0 hD1 hD2 ho
  go_enter Oaag.func132, Oaag.ntmps132
  go_wp2_with (first
    | (
      (with_reducible refine at_reg 1 ?_)
      (repeat (first | (rewrite [Go.Proofs.YgcoaaGreat.NatW.frz_ite]; generalize Go.Proofs.YgcoaaGreat.NatW.frzI _ = x__) | (rewrite [Go.Proofs.YgcoaaGreat.NatW.frz_dec]; generalize Go.Proofs.YgcoaaGreat.NatW.frzB _ = x__) | (rewrite [Go.Proofs.YgcoaaGreat.NatW.frz_beq]; generalize Go.Proofs.YgcoaaGreat.NatW.frzB _ = x__) | (rewrite [Go.Proofs.YgcoaaGreat.NatW.frz_not]; generalize Go.Proofs.YgcoaaGreat.NatW.frzB _ = x__) | (rewrite [Go.Proofs.YgcoaaGreat.NatW.frz_and]; generalize Go.Proofs.YgcoaaGreat.NatW.frzB _ = x__) | (rewrite [Go.Proofs.YgcoaaGreat.NatW.frz_or]; generalize Go.Proofs.YgcoaaGreat.NatW.frzB _ = x__) | (rewrite [show ∀ (a b : Int), Value.bool (a != b) = Value.bool (Go.Proofs.YgcoaaGreat.NatW.frzB (a != b)) from fun _ _ => rfl]; generalize Go.Proofs.YgcoaaGreat.NatW.frzB _ = x__)))
      refine Go.Lax.region_calls _ 7 3 [(4, fun v => v = .agg #[.bool nn, .string dd, .int .i16 ee]), (5, fun v => v = .string sA), (6, fun v => v = .string s0)] (by kernel_rfl) (by kernel_rfl) (by kernel_rfl) (List.forall_mem_cons.2 ⟨⟨_, rfl⟩, List.forall_mem_cons.2 ⟨⟨_, rfl⟩, List.forall_mem_cons.2 ⟨⟨_, rfl⟩, fun _ h => by cases h⟩⟩⟩) ?_
      iterate 4 (refine Go.Lax.walk_det rfl rfl rfl ?_; go_big_quiet_want; go_big_quiet_op; go_big_quiet_on; refine wpQuiet_nil ?_)
      refine Go.Lax.call_at rfl ?_ (fun y__ K__ hK__ => by (go_wp2_with fail; refine (unhide HD0) _ _ (unhide HTL _) ?_; intro w__ hb__; have hh__ := hide (hK__ _ w__ rfl hb__); clear hK__; go_wp2_with fail; exact Eq.mp (by kernel_rfl) (unhide hh__)))
      rintro v rfl
      ((try dsimp only); go_big_quiet_want; go_big_quiet_op; go_big_quiet_on; refine wpQuiet_nil ?_)
      refine Go.Lax.call_at rfl ?_ (fun y__ K__ hK__ => by (go_wp2_with fail; refine (unhide HD1) _ _ (unhide HTL _) ?_; intro w__ hb__; have hh__ := hide (hK__ _ w__ rfl hb__); clear hK__; go_wp2_with fail; exact Eq.mp (by kernel_rfl) (unhide hh__)))
      rintro v rfl
      ((try dsimp only); go_big_quiet_want; go_big_quiet_op; go_big_quiet_on; refine wpQuiet_nil ?_)
      refine Go.Lax.call_at rfl ?_ (fun y__ K__ hK__ => by (go_wp2_with fail; refine (unhide HD2) _ _ (unhide HTL _) ?_; intro w__ hb__; have hh__ := hide (hK__ _ w__ rfl hb__); clear hK__; go_wp2_with fail; exact Eq.mp (by kernel_rfl) (unhide hh__)))
      rintro v rfl
      ((try dsimp only); go_big_quiet_want; go_big_quiet_op; go_big_quiet_on; refine wpQuiet_nil ?_)
      refine Go.Lax.end_at ?_
      intro y))
  all_goals first | exact unhide HK _ (hB _) | fail
end Go.Proofs.YgcoaaGreat.NatW
