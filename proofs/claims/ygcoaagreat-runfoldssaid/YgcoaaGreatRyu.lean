/-
  Package ryu: Log10Pow2; expand: classOf.
-/
import Derived.Test.YgcoaaGreatTacB
set_option linter.unusedVariables false
set_option linter.unusedSimpArgs false
namespace Go.Proofs.YgcoaaGreat.NatW
attribute [local go_sem] Go.Instr.field Go.asAgg
open Go.RowKit
open Go.Proofs.YgcoaaGreat.Limbs Go.Proofs.YgcoaaGreat.Bits

set_option maxRecDepth 20000 in
set_option maxHeartbeats 2000000 in
theorem log10_ret (e : Int) (he0 : -32768 ≤ e) (he1 : e ≤ 32767) : Ret 308 #[.int .i16 e] (fun v => ∃ r, v = .int .i16 r ∧ -400 ≤ r ∧ r ≤ 400) := by
  intro w K hK
  have HK := hide hK
  clear hK
  obtain ⟨wb, x0, hwb, hB⟩ := boxes0 w
  subst hwb
  have hne : Nonempty (Later wb) := ⟨x0⟩
  go_enter Oaag.func308, Oaag.ntmps308
  go_wp2_with (refine Go.Lax.region_reads _ (by kernel_rfl) (by kernel_rfl) ?_; (repeat (first | go_big_quiet_skip | (go_big_quiet_want; go_big_quiet_op; go_big_quiet_on))); refine wpQuiet_nil ?_; intro y__)
  all_goals first
    | exact unhide HK _ _ ⟨_, rfl, by omega, by omega⟩ (hB _)
    | skip

set_option maxRecDepth 20000 in
set_option maxHeartbeats 2000000 in
theorem classOf_ret (E M : Nat) (hf : fok E M = true) (a p : Int) (ha : U64 a) (hp0 : 0 ≤ p) (hp1 : p ≤ 65535) : Ret 328 #[fmt E M, .int .u64 a, .int .u16 p] (fun v => ∃ c, v = .int .i8 c ∧ (c = 4 ∨ c = cls E M a.toNat)) := by
  obtain ⟨g1, g2, g3, g4⟩ := fok_bd hf
  intro w K hK
  have HK := hide hK
  clear hK
  obtain ⟨wb, x0, hwb, r0, hB, hZ⟩ := boxes1 w #[.int .u8 E, .int .u8 M] 23
  have c00 : ∀ x : Later wb, _ = some (.int .u8 E : Value) := Later.cell r0 0 _ rfl
  have c01 : ∀ x : Later wb, _ = some (.int .u8 M : Value) := Later.cell r0 1 _ rfl
  have R0 := hide r0
  clear r0
  have hne : Nonempty (Later wb) := ⟨x0⟩
  go_enter Oaag.func328, Oaag.ntmps328
  go_wp2_with (first
    | (with_reducible refine Go.Proofs.YgcoaaGreat.NatW.at_later 67 ?_; refine Go.Proofs.YgcoaaGreat.NatW.Ret.run (fmtOk_ret E M hf) _ ?_; rintro _ y__ rfl)
    | (with_reducible refine Go.Proofs.YgcoaaGreat.NatW.at_later 68 ?_; refine Go.Proofs.YgcoaaGreat.NatW.Ret.run (unpack_i E M hf a ha) _ ?_; rintro _ y__ ⟨xn, xc, xe, xm, rfl, xp, xq⟩; have XP := hide xp; have XQ := hide xq; clear xp xq))
  all_goals first
    | exact unhide HK _ _ ⟨_, rfl, .inl rfl⟩ (hB _)
    | exact unhide HK _ _ ⟨_, rfl, .inr (unhide XQ)⟩ (hB _)
    | skip


end Go.Proofs.YgcoaaGreat.NatW
