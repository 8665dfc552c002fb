/-
  Package so: Step, kinds 0 to 5.
-/
import Derived.Test.YgcoaaGreatSoI
import Derived.Test.YgcoaaGreatSoftY
import Derived.Test.YgcoaaGreatSoftZ
import Derived.Test.YgcoaaGreatSoftV
import Derived.Test.YgcoaaGreatSoftW
set_option linter.unusedVariables false
set_option linter.unusedSimpArgs false
namespace Go.Proofs.YgcoaaGreat.NatW
attribute [local go_sem] Go.Instr.field Go.asAgg
open Go.RowKit
open Go.Proofs.YgcoaaGreat.Limbs Go.Proofs.YgcoaaGreat.Bits

set_option maxRecDepth 20000 in
set_option maxHeartbeats 4000000 in
theorem step_0 (E M : Nat) (hf : fok E M = true) (tb mb n : Nat) (hn : n ≤ 1000) (md kD kA kB imm : Int) (hD0 : 0 ≤ kD) (hD1 : kD ≤ 255) (hA0 : 0 ≤ kA) (hA1 : kA ≤ 255) (hB0 : 0 ≤ kB) (hB1 : kB ≤ 255) (hI : U64 imm) (w : World) (h : Mach E M mb n w) (hT : TabZ tb w) (K : Ending → World → Prop)
    (hK : ∀ n' w', n' ≤ n + 1 → Mach E M mb n' w' → Below mb w w' → K (.returned (.tuple #[])) w') : Calls Oaag.prog 82 #[.pointer (some ⟨tb, 0, none⟩), fmt E M, .int .u8 md, .pointer (some ⟨mb, 0, none⟩), .agg #[.int .u8 0, .int .u8 kD, .int .u8 kA, .int .u8 kB, .int .u64 imm, .string ⟨#[]⟩] ] w K := by
  obtain ⟨g1, g2, g3, g4⟩ := fok_bd hf
  have HK := hide hK
  clear hK
  obtain ⟨wb, x0, hwb, r0, r1, hB, hZ⟩ := boxes2 w #[.int .u8 E, .int .u8 M] #[.int .u8 0, .int .u8 kD, .int .u8 kA, .int .u8 kB, .int .u64 imm, .string ⟨#[]⟩] 23 91
  have c00 : ∀ x : Later wb, _ = some (.int .u8 E : Value) := Later.cell r0 0 _ rfl
  have c01 : ∀ x : Later wb, _ = some (.int .u8 M : Value) := Later.cell r0 1 _ rfl
  have c10 : ∀ x : Later wb, _ = some (.int .u8 0 : Value) := Later.cell r1 0 _ rfl
  have c11 : ∀ x : Later wb, _ = some (.int .u8 kD : Value) := Later.cell r1 1 _ rfl
  have c12 : ∀ x : Later wb, _ = some (.int .u8 kA : Value) := Later.cell r1 2 _ rfl
  have c13 : ∀ x : Later wb, _ = some (.int .u8 kB : Value) := Later.cell r1 3 _ rfl
  have c14 : ∀ x : Later wb, _ = some (.int .u64 imm : Value) := Later.cell r1 4 _ rfl
  have c15 : ∀ x : Later wb, _ = some (.string ⟨#[]⟩ : Value) := Later.cell r1 5 _ rfl
  have R0 := hide r0
  have R1 := hide r1
  clear r0 r1
  have hne : Nonempty (Later wb) := ⟨x0⟩
  have hm' : ∀ y : Later wb, Mach E M mb n y.at_ := fun y => h.later (hB y)
  obtain ⟨di, hdi, hdi8⟩ := and7 kD hD0 hD1
  obtain ⟨ai, hai, hai8⟩ := and7 kA hA0 hA1
  obtain ⟨bi, hbi, hbi8⟩ := and7 kB hB0 hB1
  obtain ⟨rd, krd, srd⟩ := h.reg di hdi8
  obtain ⟨ra, kra, sra⟩ := h.reg ai hai8
  obtain ⟨rb, krb, srb⟩ := h.reg bi hbi8
  have kd : ∀ y : Later wb, y.at_.cell? ⟨mb, di, none⟩ = some (.int .u64 rd) := fun y => ((hB y).cell (p := ⟨mb, di, none⟩) h.own.1).trans krd
  have ka : ∀ y : Later wb, y.at_.cell? ⟨mb, ai, none⟩ = some (.int .u64 ra) := fun y => ((hB y).cell (p := ⟨mb, ai, none⟩) h.own.1).trans kra
  have kb : ∀ y : Later wb, y.at_.cell? ⟨mb, bi, none⟩ = some (.int .u64 rb) := fun y => ((hB y).cell (p := ⟨mb, bi, none⟩) h.own.1).trans krb
  have fd : ∀ y : Later wb, y.at_.frozen? ⟨mb, di, none⟩ = false := fun y => (hm' y).own.2 di
  have ua := Snd.u64 hf sra
  have ub := Snd.u64 hf srb
  have hml := h.own.1
  have UA := hide ua
  have UB := hide ub
  have UI := hide hI
  clear krd kra krb srd sra srb h ua ub hI
  have HM := hide hm'
  clear hm'
  go_enter Oaag.func82, Oaag.ntmps82
  go_wp2_with (first
    | ((with_reducible refine Go.Proofs.YgcoaaGreat.NatW.at_later 67 ?_); refine Go.Proofs.YgcoaaGreat.NatW.Ret.run (fmtOk_ret E M hf) _ ?_; rintro _ y__ rfl)
    | ((with_reducible refine Go.Proofs.YgcoaaGreat.NatW.at_reg 2 ?_); (refine Go.Lax.region_reads _ (by kernel_rfl) (by kernel_rfl) ?_; (repeat (first | go_big_quiet_skip | (go_big_quiet_want; go_big_quiet_op; go_big_quiet_on))); refine wpQuiet_nil ?_); intro y)
    | ((with_reducible refine Go.Proofs.YgcoaaGreat.NatW.at_later 134 ?_); refine Go.Proofs.YgcoaaGreat.NatW.Ret.run (clean_ret E M hf imm (unhide UI)) _ ?_; rintro _ y__ ⟨rr, rfl, hrr⟩))
  all_goals first
    | (refine bodyPost_box rfl ?_; intro r hr; simp [results, Oaag.results82, go_sem] at hr; subst hr; refine ⟨_, rfl, ?_⟩
       exact unhide HK n _ (by omega) ((unhide HM _).set di hdi8 (by assumption)) (below_store ((hB _).mono (by omega)) (Nat.le_refl _) _))
    | skip

set_option maxRecDepth 20000 in
set_option maxHeartbeats 4000000 in
theorem step_1 (E M : Nat) (hf : fok E M = true) (tb mb n : Nat) (hn : n ≤ 1000) (md kD kA kB imm : Int) (hD0 : 0 ≤ kD) (hD1 : kD ≤ 255) (hA0 : 0 ≤ kA) (hA1 : kA ≤ 255) (hB0 : 0 ≤ kB) (hB1 : kB ≤ 255) (hI : U64 imm) (w : World) (h : Mach E M mb n w) (hT : TabZ tb w) (K : Ending → World → Prop)
    (hK : ∀ n' w', n' ≤ n + 1 → Mach E M mb n' w' → Below mb w w' → K (.returned (.tuple #[])) w') : Calls Oaag.prog 82 #[.pointer (some ⟨tb, 0, none⟩), fmt E M, .int .u8 md, .pointer (some ⟨mb, 0, none⟩), .agg #[.int .u8 1, .int .u8 kD, .int .u8 kA, .int .u8 kB, .int .u64 imm, .string ⟨#[]⟩] ] w K := by
  obtain ⟨g1, g2, g3, g4⟩ := fok_bd hf
  have HK := hide hK
  clear hK
  obtain ⟨wb, x0, hwb, r0, r1, hB, hZ⟩ := boxes2 w #[.int .u8 E, .int .u8 M] #[.int .u8 1, .int .u8 kD, .int .u8 kA, .int .u8 kB, .int .u64 imm, .string ⟨#[]⟩] 23 91
  have c00 : ∀ x : Later wb, _ = some (.int .u8 E : Value) := Later.cell r0 0 _ rfl
  have c01 : ∀ x : Later wb, _ = some (.int .u8 M : Value) := Later.cell r0 1 _ rfl
  have c10 : ∀ x : Later wb, _ = some (.int .u8 1 : Value) := Later.cell r1 0 _ rfl
  have c11 : ∀ x : Later wb, _ = some (.int .u8 kD : Value) := Later.cell r1 1 _ rfl
  have c12 : ∀ x : Later wb, _ = some (.int .u8 kA : Value) := Later.cell r1 2 _ rfl
  have c13 : ∀ x : Later wb, _ = some (.int .u8 kB : Value) := Later.cell r1 3 _ rfl
  have c14 : ∀ x : Later wb, _ = some (.int .u64 imm : Value) := Later.cell r1 4 _ rfl
  have c15 : ∀ x : Later wb, _ = some (.string ⟨#[]⟩ : Value) := Later.cell r1 5 _ rfl
  have R0 := hide r0
  have R1 := hide r1
  clear r0 r1
  have hne : Nonempty (Later wb) := ⟨x0⟩
  have hm' : ∀ y : Later wb, Mach E M mb n y.at_ := fun y => h.later (hB y)
  obtain ⟨di, hdi, hdi8⟩ := and7 kD hD0 hD1
  obtain ⟨ai, hai, hai8⟩ := and7 kA hA0 hA1
  obtain ⟨bi, hbi, hbi8⟩ := and7 kB hB0 hB1
  obtain ⟨rd, krd, srd⟩ := h.reg di hdi8
  obtain ⟨ra, kra, sra⟩ := h.reg ai hai8
  obtain ⟨rb, krb, srb⟩ := h.reg bi hbi8
  have kd : ∀ y : Later wb, y.at_.cell? ⟨mb, di, none⟩ = some (.int .u64 rd) := fun y => ((hB y).cell (p := ⟨mb, di, none⟩) h.own.1).trans krd
  have ka : ∀ y : Later wb, y.at_.cell? ⟨mb, ai, none⟩ = some (.int .u64 ra) := fun y => ((hB y).cell (p := ⟨mb, ai, none⟩) h.own.1).trans kra
  have kb : ∀ y : Later wb, y.at_.cell? ⟨mb, bi, none⟩ = some (.int .u64 rb) := fun y => ((hB y).cell (p := ⟨mb, bi, none⟩) h.own.1).trans krb
  have fd : ∀ y : Later wb, y.at_.frozen? ⟨mb, di, none⟩ = false := fun y => (hm' y).own.2 di
  have ua := Snd.u64 hf sra
  have ub := Snd.u64 hf srb
  have hml := h.own.1
  have UA := hide ua
  have UB := hide ub
  have UI := hide hI
  clear krd kra krb srd sra srb h ua ub hI
  have HM := hide hm'
  clear hm'
  go_enter Oaag.func82, Oaag.ntmps82
  go_wp2_with (first
    | ((with_reducible refine Go.Proofs.YgcoaaGreat.NatW.at_later 67 ?_); refine Go.Proofs.YgcoaaGreat.NatW.Ret.run (fmtOk_ret E M hf) _ ?_; rintro _ y__ rfl)
    | ((with_reducible refine Go.Proofs.YgcoaaGreat.NatW.at_reg 2 ?_); (refine Go.Lax.region_reads _ (by kernel_rfl) (by kernel_rfl) ?_; (repeat (first | go_big_quiet_skip | (go_big_quiet_want; go_big_quiet_op; go_big_quiet_on))); refine wpQuiet_nil ?_); intro y)
    | ((with_reducible refine Go.Proofs.YgcoaaGreat.NatW.at_later 135 ?_); refine Go.Proofs.YgcoaaGreat.NatW.Ret.run (add_ret E M hf md ra rb (unhide UA) (unhide UB)) _ ?_; rintro _ y__ ⟨rr, rfl, hrr⟩))
  all_goals first
    | (refine bodyPost_box rfl ?_; intro r hr; simp [results, Oaag.results82, go_sem] at hr; subst hr; refine ⟨_, rfl, ?_⟩
       exact unhide HK n _ (by omega) ((unhide HM _).set di hdi8 (by assumption)) (below_store ((hB _).mono (by omega)) (Nat.le_refl _) _))
    | skip


end Go.Proofs.YgcoaaGreat.NatW
