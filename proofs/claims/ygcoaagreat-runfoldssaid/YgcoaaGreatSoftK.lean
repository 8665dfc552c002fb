/-
  Package soft: addFinite, AddFlags.
-/
import Derived.Test.YgcoaaGreatRebaseB
import Derived.Test.YgcoaaGreatSoftJ
set_option linter.unusedVariables false
set_option linter.unusedSimpArgs false
namespace Go.Proofs.YgcoaaGreat.NatW
attribute [local go_sem] Go.Instr.field Go.asAgg
open Go.RowKit
open Go.Proofs.YgcoaaGreat.Limbs Go.Proofs.YgcoaaGreat.Bits

set_option maxRecDepth 20000 in
set_option maxHeartbeats 4000000 in
theorem addFinite_ret (E M : Nat) (hf : fok E M = true) (m : Int) (an bn : Bool) (ac ae am bc be bm : Int) (hae0 : -2000 ≤ ae) (hae1 : ae ≤ 2000) (hbe0 : -2000 ≤ be) (hbe1 : be ≤ 2000) (ham : U64 am) (hbm : U64 bm) : Ret 372 #[fmt E M, .int .u8 m, prt an ac ae am, prt bn bc be bm] (fun v => ∃ r f, v = .tuple #[.int .u64 r, .int .u8 f] ∧ Snd E M r) := by
  obtain ⟨g1, g2, g3, g4⟩ := fok_bd hf
  intro w K hK
  have HK := hide hK
  clear hK
  obtain ⟨wb, x0, hwb, r0, r1, r2, hB, hZ⟩ := boxes3 w #[.int .u8 E, .int .u8 M] #[.bool an, .int .i8 ac, .int .i16 ae, .int .u64 am] #[.bool bn, .int .i8 bc, .int .i16 be, .int .u64 bm] 23 113 113
  have c00 : ∀ x : Later wb, _ = some (.int .u8 E : Value) := Later.cell r0 0 _ rfl
  have c01 : ∀ x : Later wb, _ = some (.int .u8 M : Value) := Later.cell r0 1 _ rfl
  have c10 : ∀ x : Later wb, _ = some (.bool an : Value) := Later.cell r1 0 _ rfl
  have c11 : ∀ x : Later wb, _ = some (.int .i8 ac : Value) := Later.cell r1 1 _ rfl
  have c12 : ∀ x : Later wb, _ = some (.int .i16 ae : Value) := Later.cell r1 2 _ rfl
  have c13 : ∀ x : Later wb, _ = some (.int .u64 am : Value) := Later.cell r1 3 _ rfl
  have c20 : ∀ x : Later wb, _ = some (.bool bn : Value) := Later.cell r2 0 _ rfl
  have c21 : ∀ x : Later wb, _ = some (.int .i8 bc : Value) := Later.cell r2 1 _ rfl
  have c22 : ∀ x : Later wb, _ = some (.int .i16 be : Value) := Later.cell r2 2 _ rfl
  have c23 : ∀ x : Later wb, _ = some (.int .u64 bm : Value) := Later.cell r2 3 _ rfl
  have R0 := hide r0
  have R1 := hide r1
  have R2 := hide r2
  clear r0 r1 r2
  have hne : Nonempty (Later wb) := ⟨x0⟩
  go_enter Oaag.func372, Oaag.ntmps372
  go_wp2_with (first
    | (go_at_call 373; refine Go.Proofs.YgcoaaGreat.NatW.Ret.run (zero_ret E M hf _) _ ?_; rintro _ y__ rfl)
    | (go_at_call 340; refine Go.Proofs.YgcoaaGreat.NatW.Ret.run (roundPack_ret E M hf _ _ _ _ (by omega) (by omega) (by (first | assumption | exact U64.wrap _ | exact U64.bits _ _ _ | exact U64.div (by first | assumption | exact U64.wrap _ | exact U64.bits _ _ _ | exact U64.div (by first | assumption | exact U64.wrap _ | exact U64.bits _ _ _ | exact U64.lit (by omega) (by omega)) _ | exact U64.ediv (by first | assumption | exact U64.wrap _ | exact U64.bits _ _ _ | exact U64.lit (by omega) (by omega)) _ (by omega) | exact U64.lit (by omega) (by omega) | exact U64.one _ (by first | assumption | exact U64.wrap _ | exact U64.bits _ _ _ | exact U64.lit (by omega) (by omega)) (by first | assumption | exact U64.wrap _ | exact U64.bits _ _ _ | exact U64.lit (by omega) (by omega))) _ | exact U64.ediv (by first | assumption | exact U64.wrap _ | exact U64.bits _ _ _ | exact U64.div (by first | assumption | exact U64.wrap _ | exact U64.bits _ _ _ | exact U64.lit (by omega) (by omega)) _ | exact U64.ediv (by first | assumption | exact U64.wrap _ | exact U64.bits _ _ _ | exact U64.lit (by omega) (by omega)) _ (by omega) | exact U64.lit (by omega) (by omega) | exact U64.one _ (by first | assumption | exact U64.wrap _ | exact U64.bits _ _ _ | exact U64.lit (by omega) (by omega)) (by first | assumption | exact U64.wrap _ | exact U64.bits _ _ _ | exact U64.lit (by omega) (by omega))) _ (by omega) | exact U64.lit (by omega) (by omega) | exact U64.one _ (by first | assumption | exact U64.wrap _ | exact U64.bits _ _ _ | exact U64.div (by first | assumption | exact U64.wrap _ | exact U64.bits _ _ _ | exact U64.lit (by omega) (by omega)) _ | exact U64.ediv (by first | assumption | exact U64.wrap _ | exact U64.bits _ _ _ | exact U64.lit (by omega) (by omega)) _ (by omega) | exact U64.lit (by omega) (by omega) | exact U64.one _ (by first | assumption | exact U64.wrap _ | exact U64.bits _ _ _ | exact U64.lit (by omega) (by omega)) (by first | assumption | exact U64.wrap _ | exact U64.bits _ _ _ | exact U64.lit (by omega) (by omega))) (by first | assumption | exact U64.wrap _ | exact U64.bits _ _ _ | exact U64.div (by first | assumption | exact U64.wrap _ | exact U64.bits _ _ _ | exact U64.lit (by omega) (by omega)) _ | exact U64.ediv (by first | assumption | exact U64.wrap _ | exact U64.bits _ _ _ | exact U64.lit (by omega) (by omega)) _ (by omega) | exact U64.lit (by omega) (by omega) | exact U64.one _ (by first | assumption | exact U64.wrap _ | exact U64.bits _ _ _ | exact U64.lit (by omega) (by omega)) (by first | assumption | exact U64.wrap _ | exact U64.bits _ _ _ | exact U64.lit (by omega) (by omega)))))) _ ?_; rintro _ y__ ⟨rr, ff, rfl, hrr⟩)
    | (
      with_reducible refine Go.Proofs.YgcoaaGreat.NatW.at_reg 7 ?_
      (repeat (first | (rewrite [Go.Proofs.YgcoaaGreat.NatW.frz_ite]; generalize Go.Proofs.YgcoaaGreat.NatW.frzI _ = x__) | (rewrite [Go.Proofs.YgcoaaGreat.NatW.frz_dec]; generalize Go.Proofs.YgcoaaGreat.NatW.frzB _ = x__) | (rewrite [Go.Proofs.YgcoaaGreat.NatW.frz_beq]; generalize Go.Proofs.YgcoaaGreat.NatW.frzB _ = x__) | (rewrite [Go.Proofs.YgcoaaGreat.NatW.frz_not]; generalize Go.Proofs.YgcoaaGreat.NatW.frzB _ = x__) | (rewrite [Go.Proofs.YgcoaaGreat.NatW.frz_and]; generalize Go.Proofs.YgcoaaGreat.NatW.frzB _ = x__) | (rewrite [Go.Proofs.YgcoaaGreat.NatW.frz_or]; generalize Go.Proofs.YgcoaaGreat.NatW.frzB _ = x__)))
      refine Go.Lax.region_calls _ 13 2 [(4, fun v => ∃ n e h l, v = num n e h l ∧ ae - 126 ≤ e ∧ e ≤ ae - 63 ∧ U64 h ∧ U64 l), (7, fun v => ∃ n e h l, v = num n e h l ∧ be - 126 ≤ e ∧ e ≤ be - 63 ∧ U64 h ∧ U64 l), (8, fun v => ∃ r f, v = .tuple #[.int .u64 r, .int .u8 f] ∧ Snd E M r)] (by kernel_rfl) (by kernel_rfl) (by kernel_rfl) (List.forall_mem_cons.2 ⟨(numberOf_ret E M hf an ac ae am hae0 hae1 ham).ex, List.forall_mem_cons.2 ⟨(numberOf_ret E M hf bn bc be bm hbe0 hbe1 hbm).ex, List.forall_mem_cons.2 ⟨(roundPack_ret E M hf 0 false 0 0 (by omega) (by omega) (by (first | assumption | exact U64.wrap _ | exact U64.bits _ _ _ | exact U64.div (by first | assumption | exact U64.wrap _ | exact U64.bits _ _ _ | exact U64.div (by first | assumption | exact U64.wrap _ | exact U64.bits _ _ _ | exact U64.lit (by omega) (by omega)) _ | exact U64.ediv (by first | assumption | exact U64.wrap _ | exact U64.bits _ _ _ | exact U64.lit (by omega) (by omega)) _ (by omega) | exact U64.lit (by omega) (by omega) | exact U64.one _ (by first | assumption | exact U64.wrap _ | exact U64.bits _ _ _ | exact U64.lit (by omega) (by omega)) (by first | assumption | exact U64.wrap _ | exact U64.bits _ _ _ | exact U64.lit (by omega) (by omega))) _ | exact U64.ediv (by first | assumption | exact U64.wrap _ | exact U64.bits _ _ _ | exact U64.div (by first | assumption | exact U64.wrap _ | exact U64.bits _ _ _ | exact U64.lit (by omega) (by omega)) _ | exact U64.ediv (by first | assumption | exact U64.wrap _ | exact U64.bits _ _ _ | exact U64.lit (by omega) (by omega)) _ (by omega) | exact U64.lit (by omega) (by omega) | exact U64.one _ (by first | assumption | exact U64.wrap _ | exact U64.bits _ _ _ | exact U64.lit (by omega) (by omega)) (by first | assumption | exact U64.wrap _ | exact U64.bits _ _ _ | exact U64.lit (by omega) (by omega))) _ (by omega) | exact U64.lit (by omega) (by omega) | exact U64.one _ (by first | assumption | exact U64.wrap _ | exact U64.bits _ _ _ | exact U64.div (by first | assumption | exact U64.wrap _ | exact U64.bits _ _ _ | exact U64.lit (by omega) (by omega)) _ | exact U64.ediv (by first | assumption | exact U64.wrap _ | exact U64.bits _ _ _ | exact U64.lit (by omega) (by omega)) _ (by omega) | exact U64.lit (by omega) (by omega) | exact U64.one _ (by first | assumption | exact U64.wrap _ | exact U64.bits _ _ _ | exact U64.lit (by omega) (by omega)) (by first | assumption | exact U64.wrap _ | exact U64.bits _ _ _ | exact U64.lit (by omega) (by omega))) (by first | assumption | exact U64.wrap _ | exact U64.bits _ _ _ | exact U64.div (by first | assumption | exact U64.wrap _ | exact U64.bits _ _ _ | exact U64.lit (by omega) (by omega)) _ | exact U64.ediv (by first | assumption | exact U64.wrap _ | exact U64.bits _ _ _ | exact U64.lit (by omega) (by omega)) _ (by omega) | exact U64.lit (by omega) (by omega) | exact U64.one _ (by first | assumption | exact U64.wrap _ | exact U64.bits _ _ _ | exact U64.lit (by omega) (by omega)) (by first | assumption | exact U64.wrap _ | exact U64.bits _ _ _ | exact U64.lit (by omega) (by omega)))))).ex, fun _ h => by cases h⟩⟩⟩) ?_
      iterate 4 (refine Go.Lax.walk_det rfl rfl rfl ?_; go_big_quiet_want; go_big_quiet_op; go_big_quiet_on; refine wpQuiet_nil ?_)
      refine Go.Lax.call_at rfl ?_ (fun y__ K__ hK__ => by (go_wp2_with fail; refine (numberOf_ret E M hf an ac ae am hae0 hae1 ham) _ _ ?_; intro v__ w__ hv__ hb__; have hh__ := Go.Proofs.YgcoaaGreat.NatW.hide (hK__ v__ w__ hv__ hb__); clear hK__ hv__; go_wp2_with fail; exact Eq.mp (by kernel_rfl) (Go.Proofs.YgcoaaGreat.NatW.unhide hh__)))
      rintro v ⟨n1, e1, h1, l1, rfl, e10, e11, u1, u2⟩
      ((try dsimp only); go_big_quiet_want; go_big_quiet_op; go_big_quiet_on; refine wpQuiet_nil ?_)
      iterate 2 (refine Go.Lax.walk_det rfl rfl rfl ?_; go_big_quiet_want; go_big_quiet_op; go_big_quiet_on; refine wpQuiet_nil ?_)
      refine Go.Lax.call_at rfl ?_ (fun y__ K__ hK__ => by (go_wp2_with fail; refine (numberOf_ret E M hf bn bc be bm hbe0 hbe1 hbm) _ _ ?_; intro v__ w__ hv__ hb__; have hh__ := Go.Proofs.YgcoaaGreat.NatW.hide (hK__ v__ w__ hv__ hb__); clear hK__ hv__; go_wp2_with fail; exact Eq.mp (by kernel_rfl) (Go.Proofs.YgcoaaGreat.NatW.unhide hh__)))
      rintro v ⟨n2, e2, h2, l2, rfl, e20, e21, u3, u4⟩
      ((try dsimp only); go_big_quiet_want; go_big_quiet_op; go_big_quiet_on; refine wpQuiet_nil ?_)
      refine Go.Lax.call_at rfl ?_ (fun y__ K__ hK__ => by (go_wp2_with fail; refine (sum_ret E M hf m n1 n2 e1 h1 l1 e2 h2 l2 (by omega) (by omega) (by omega) (by omega) u1 u2 u3 u4) _ _ ?_; intro v__ w__ hv__ hb__; have hh__ := Go.Proofs.YgcoaaGreat.NatW.hide (hK__ v__ w__ hv__ hb__); clear hK__ hv__; go_wp2_with fail; exact Eq.mp (by kernel_rfl) (Go.Proofs.YgcoaaGreat.NatW.unhide hh__)))
      rintro v ⟨r9, f9, rfl, hr9⟩
      ((try dsimp only); go_big_quiet_want; go_big_quiet_op; go_big_quiet_on; refine wpQuiet_nil ?_)
      iterate 4 (refine Go.Lax.walk_det rfl rfl rfl ?_; go_big_quiet_want; go_big_quiet_op; go_big_quiet_on; refine wpQuiet_nil ?_)
      refine Go.Lax.end_at ?_
      intro y))
  all_goals first
    | exact unhide HK _ _ ⟨_, _, rfl, by assumption⟩ (hB _)
    | exact unhide HK _ _ ⟨_, _, rfl, snd_nan E M (by omega)⟩ (hB _)
    | exact unhide HK _ _ ⟨_, _, rfl, snd_zero E M _ (by omega)⟩ (hB _)
    | exact unhide HK _ _ ⟨_, _, rfl, snd_inf E M _ (by omega)⟩ (hB _)
    | skip


end Go.Proofs.YgcoaaGreat.NatW
