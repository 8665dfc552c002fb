/-
  Package law: engineStep; calc.Sound at nil, at a bad format.
-/
import Derived.Test.YgcoaaGreatSdA
set_option linter.unusedVariables false
set_option linter.unusedSimpArgs false
namespace Go.Proofs.YgcoaaGreat.NatW
attribute [local go_sem] Go.Instr.field Go.asAgg
open Go.RowKit
open Go.Proofs.YgcoaaGreat.Limbs Go.Proofs.YgcoaaGreat.Bits

set_option maxRecDepth 20000 in
set_option maxHeartbeats 4000000 in
theorem engine_any (k0 : Int) (hst : Stp 82 k0) (E M : Nat) (hf : fok E M = true) (tb mb n : Nat) (hn : n ≤ 1000) (md kD kA kB imm : Int) (hD0 : 0 ≤ kD) (hD1 : kD ≤ 255) (hA0 : 0 ≤ kA) (hA1 : kA ≤ 255) (hB0 : 0 ≤ kB) (hB1 : kB ≤ 255) (hI : U64 imm) (w : World) (h : Mach E M mb n w) (hT : TabZ tb w) (htb : tb ≤ mb) (K : Ending → World → Prop)
    (hK : ∀ n' w', n' ≤ n + 1 → Mach E M mb n' w' → Below mb w w' → K (.returned (.tuple #[])) w') : Calls Oaag.prog 43 #[.pointer (some ⟨tb, 0, none⟩), .int .u8 1, fmt E M, .int .u8 md, .pointer (some ⟨mb, 0, none⟩), .agg #[.int .u8 k0, .int .u8 kD, .int .u8 kA, .int .u8 kB, .int .u64 imm, .string ⟨#[]⟩] ] w K := by
  obtain ⟨g1, g2, g3, g4⟩ := fok_bd hf
  have HK := hide hK
  clear hK
  obtain ⟨wb, x0, hwb, r0, r1, hB, hZ⟩ := boxes2 w #[.int .u8 E, .int .u8 M] #[.int .u8 k0, .int .u8 kD, .int .u8 kA, .int .u8 kB, .int .u64 imm, .string ⟨#[]⟩] 23 91
  have c00 : ∀ x : Later wb, _ = some (.int .u8 E : Value) := Later.cell r0 0 _ rfl
  have c01 : ∀ x : Later wb, _ = some (.int .u8 M : Value) := Later.cell r0 1 _ rfl
  have c10 : ∀ x : Later wb, _ = some (.int .u8 k0 : Value) := Later.cell r1 0 _ rfl
  have c11 : ∀ x : Later wb, _ = some (.int .u8 kD : Value) := Later.cell r1 1 _ rfl
  have c12 : ∀ x : Later wb, _ = some (.int .u8 kA : Value) := Later.cell r1 2 _ rfl
  have c13 : ∀ x : Later wb, _ = some (.int .u8 kB : Value) := Later.cell r1 3 _ rfl
  have c14 : ∀ x : Later wb, _ = some (.int .u64 imm : Value) := Later.cell r1 4 _ rfl
  have c15 : ∀ x : Later wb, _ = some (.string ⟨#[]⟩ : Value) := Later.cell r1 5 _ rfl
  have R0 := hide r0
  have R1 := hide r1
  clear r0 r1
  have hne : Nonempty (Later wb) := ⟨x0⟩
  have hml := h.own.1
  have HM := hide (fun y : Later wb => h.later (hB y))
  have HT := hide (fun y : Later wb => hT.kept (hB y) hT.lt)
  have HS := hide hst
  have UI := hide hI
  clear h hT hst hI
  go_enter Oaag.func43, Oaag.ntmps43
  go_wp2_with (
      (with_reducible refine Go.Proofs.YgcoaaGreat.NatW.at_later 82 ?_)
      refine (unhide HS) E M hf tb mb n hn md kD kA kB imm hD0 hD1 hA0 hA1 hB0 hB1 (unhide UI) _ (unhide HM _) (unhide HT _) htb _ ?_
      intro n9 w9 hn9 hm9 hb9
      have HM9 := hide hm9
      have HB9 := hide (((hB _).mono (by omega)).trans hb9)
      clear hm9 hb9)
  all_goals first
    | (refine bodyPost_box rfl ?_; intro r hr; simp [results, Oaag.results43, go_sem] at hr; subst hr; refine ⟨_, rfl, ?_⟩
       exact unhide HK n9 _ (by omega) (unhide HM9) (unhide HB9))
    | skip

set_option maxRecDepth 20000 in
set_option maxHeartbeats 4000000 in
theorem sound_nil (G N : Nat) : Ret 44 #[fmt G N, .pointer none] (fun v => v = .bool false) := by
  intro w K hK
  have HK := hide hK
  clear hK
  obtain ⟨wb, x0, hwb, r0, hB, hZ⟩ := boxes1 w #[.int .u8 G, .int .u8 N] 23
  have c00 : ∀ x : Later wb, _ = some (.int .u8 G : Value) := Later.cell r0 0 _ rfl
  have c01 : ∀ x : Later wb, _ = some (.int .u8 N : Value) := Later.cell r0 1 _ rfl
  have R0 := hide r0
  clear r0
  have hne : Nonempty (Later wb) := ⟨x0⟩
  go_enter Oaag.func44, Oaag.ntmps44
  go_wp2_with ((with_reducible refine Go.Proofs.YgcoaaGreat.NatW.at_later 84 ?_); refine Go.Proofs.YgcoaaGreat.NatW.Ret.run (mcheck_nil) _ ?_; rintro _ y__ rfl)
  all_goals first
    | exact unhide HK _ _ rfl (hB _)
    | skip

set_option maxRecDepth 20000 in
set_option maxHeartbeats 4000000 in
theorem sound_bad (G N : Nat) (hg : fok G N = false) (mb : Nat) : Ret 44 #[fmt G N, .pointer (some ⟨mb, 0, none⟩)] (fun v => v = .bool false) := by
  intro w K hK
  have HK := hide hK
  clear hK
  obtain ⟨wb, x0, hwb, r0, hB, hZ⟩ := boxes1 w #[.int .u8 G, .int .u8 N] 23
  have c00 : ∀ x : Later wb, _ = some (.int .u8 G : Value) := Later.cell r0 0 _ rfl
  have c01 : ∀ x : Later wb, _ = some (.int .u8 N : Value) := Later.cell r0 1 _ rfl
  have R0 := hide r0
  clear r0
  have hne : Nonempty (Later wb) := ⟨x0⟩
  have hok67 : Ret 67 #[fmt G N] (fun u => u = .bool false) := by
    have := fmtOk_i (G : Int) (N : Int) (by omega) (by omega)
    simpa [hg] using this
  go_enter Oaag.func44, Oaag.ntmps44
  go_wp2_with (first
    | ((with_reducible refine Go.Proofs.YgcoaaGreat.NatW.at_later 84 ?_); refine Go.Proofs.YgcoaaGreat.NatW.Ret.run (mcheck_ret mb) _ ?_; rintro _ y__ rfl)
    | ((with_reducible refine Go.Proofs.YgcoaaGreat.NatW.at_later 67 ?_); refine Go.Proofs.YgcoaaGreat.NatW.Ret.run (hok67) _ ?_; rintro _ y__ rfl))
  all_goals first
    | exact unhide HK _ _ rfl (hB _)
    | skip


end Go.Proofs.YgcoaaGreat.NatW
