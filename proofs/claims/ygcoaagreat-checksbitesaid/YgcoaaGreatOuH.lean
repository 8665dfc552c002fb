/-
  Package so: Step, kinds from 15 on; all kinds.
-/
import Derived.Test.YgcoaaGreatStA
import Derived.Test.YgcoaaGreatStB
import Derived.Test.YgcoaaGreatStC
import Derived.Test.YgcoaaGreatStD
import Derived.Test.YgcoaaGreatMoA
import Derived.Test.YgcoaaGreatMoB
import Derived.Test.YgcoaaGreatMoC
import Derived.Test.YgcoaaGreatMoD
import Derived.Test.YgcoaaGreatOuA
import Derived.Test.YgcoaaGreatOuB
import Derived.Test.YgcoaaGreatOuC
import Derived.Test.YgcoaaGreatOuD
import Derived.Test.YgcoaaGreatOuE
import Derived.Test.YgcoaaGreatOuF
import Derived.Test.YgcoaaGreatOuG
set_option linter.unusedVariables false
set_option linter.unusedSimpArgs false
namespace Go.Proofs.YgcoaaGreat.NatW
attribute [local go_sem] Go.Instr.field Go.asAgg
open Go.RowKit
open Go.Proofs.YgcoaaGreat.Limbs Go.Proofs.YgcoaaGreat.Bits

/-- Function f carries out an operation of kind kd. -/
def Stp (f : Nat) (kd : Int) : Prop := ∀ (E M : Nat), fok E M = true → ∀ (tb mb n : Nat), n ≤ 1000 → ∀ (md kD kA kB imm : Int), 0 ≤ kD → kD ≤ 255 → 0 ≤ kA → kA ≤ 255 → 0 ≤ kB → kB ≤ 255 → U64 imm → ∀ (w : World), Mach E M mb n w → TabZ tb w → tb ≤ mb → ∀ (K : Ending → World → Prop),
  (∀ n' w', n' ≤ n + 1 → Mach E M mb n' w' → Below mb w w' → K (.returned (.tuple #[])) w') → Calls Oaag.prog f #[.pointer (some ⟨tb, 0, none⟩), fmt E M, .int .u8 md, .pointer (some ⟨mb, 0, none⟩), .agg #[.int .u8 kd, .int .u8 kD, .int .u8 kA, .int .u8 kB, .int .u64 imm, .string ⟨#[]⟩] ] w K

set_option maxRecDepth 20000 in
set_option maxHeartbeats 4000000 in
theorem step_hi (E M : Nat) (hf : fok E M = true) (tb mb n : Nat) (hn : n ≤ 1000) (k0 : Int) (h15 : 15 ≤ k0) (hmore : Stp 147 k0) (md kD kA kB imm : Int) (hD0 : 0 ≤ kD) (hD1 : kD ≤ 255) (hA0 : 0 ≤ kA) (hA1 : kA ≤ 255) (hB0 : 0 ≤ kB) (hB1 : kB ≤ 255) (hI : U64 imm) (w : World) (h : Mach E M mb n w) (hT : TabZ tb w) (htb : tb ≤ mb) (K : Ending → World → Prop)
    (hK : ∀ n' w', n' ≤ n + 1 → Mach E M mb n' w' → Below mb w w' → K (.returned (.tuple #[])) w') : Calls Oaag.prog 82 #[.pointer (some ⟨tb, 0, none⟩), fmt E M, .int .u8 md, .pointer (some ⟨mb, 0, none⟩), .agg #[.int .u8 k0, .int .u8 kD, .int .u8 kA, .int .u8 kB, .int .u64 imm, .string ⟨#[]⟩] ] w K := by
  obtain ⟨g1, g2, g3, g4⟩ := fok_bd hf
  have HK := hide hK
  clear hK
  obtain ⟨wb, x0, hwb, r0, r1, hB, hZ⟩ := boxes2 w #[.int .u8 E, .int .u8 M] #[.int .u8 k0, .int .u8 kD, .int .u8 kA, .int .u8 kB, .int .u64 imm, .string ⟨#[]⟩] 23 91
  have c00 : ∀ x : Later wb, _ = some (.int .u8 E : Value) := Later.cell r0 0 _ rfl
  have c01 : ∀ x : Later wb, _ = some (.int .u8 M : Value) := Later.cell r0 1 _ rfl
  have c10 : ∀ x : Later wb, _ = some (.int .u8 k0 : Value) := Later.cell r1 0 _ rfl
  have c11 : ∀ x : Later wb, _ = some (.int .u8 kD : Value) := Later.cell r1 1 _ rfl
  have c12 : ∀ x : Later wb, _ = some (.int .u8 kA : Value) := Later.cell r1 2 _ rfl
  have c13 : ∀ x : Later wb, _ = some (.int .u8 kB : Value) := Later.cell r1 3 _ rfl
  have c14 : ∀ x : Later wb, _ = some (.int .u64 imm : Value) := Later.cell r1 4 _ rfl
  have c15 : ∀ x : Later wb, _ = some (.string ⟨#[]⟩ : Value) := Later.cell r1 5 _ rfl
  have R0 := hide r0
  have R1 := hide r1
  clear r0 r1
  have hne : Nonempty (Later wb) := ⟨x0⟩
  have hm' : ∀ y : Later wb, Mach E M mb n y.at_ := fun y => h.later (hB y)
  obtain ⟨di, hdi, hdi8⟩ := and7 kD hD0 hD1
  obtain ⟨ai, hai, hai8⟩ := and7 kA hA0 hA1
  obtain ⟨bi, hbi, hbi8⟩ := and7 kB hB0 hB1
  obtain ⟨rd, krd, srd⟩ := h.reg di hdi8
  obtain ⟨ra, kra, sra⟩ := h.reg ai hai8
  obtain ⟨rb, krb, srb⟩ := h.reg bi hbi8
  have kd : ∀ y : Later wb, y.at_.cell? ⟨mb, di, none⟩ = some (.int .u64 rd) := fun y => ((hB y).cell (p := ⟨mb, di, none⟩) h.own.1).trans krd
  have ka : ∀ y : Later wb, y.at_.cell? ⟨mb, ai, none⟩ = some (.int .u64 ra) := fun y => ((hB y).cell (p := ⟨mb, ai, none⟩) h.own.1).trans kra
  have kb : ∀ y : Later wb, y.at_.cell? ⟨mb, bi, none⟩ = some (.int .u64 rb) := fun y => ((hB y).cell (p := ⟨mb, bi, none⟩) h.own.1).trans krb
  have fd : ∀ y : Later wb, y.at_.frozen? ⟨mb, di, none⟩ = false := fun y => (hm' y).own.2 di
  have ua := Snd.u64 hf sra
  have ub := Snd.u64 hf srb
  have hml := h.own.1
  have UA := hide ua
  have UB := hide ub
  have UI := hide hI
  clear krd kra krb srd sra srb h ua ub hI
  have HM := hide hm'
  clear hm'
  have HT := hide (fun y : Later wb => hT.kept (hB y) hT.lt)
  clear hT
  have ne0 : ¬ k0 = 0 := by omega
  have ne1 : ¬ k0 = 1 := by omega
  have ne2 : ¬ k0 = 2 := by omega
  have ne3 : ¬ k0 = 3 := by omega
  have ne4 : ¬ k0 = 4 := by omega
  have ne5 : ¬ k0 = 5 := by omega
  have ne6 : ¬ k0 = 6 := by omega
  have ne7 : ¬ k0 = 7 := by omega
  have ne8 : ¬ k0 = 8 := by omega
  have ne9 : ¬ k0 = 9 := by omega
  have ne10 : ¬ k0 = 10 := by omega
  have ne11 : ¬ k0 = 11 := by omega
  have ne12 : ¬ k0 = 12 := by omega
  have ne13 : ¬ k0 = 13 := by omega
  have ne14 : ¬ k0 = 14 := by omega
  have HMO := hide hmore
  clear hmore h15
  go_enter Oaag.func82, Oaag.ntmps82
  go_wp2_with (first
    | ((with_reducible refine Go.Proofs.YgcoaaGreat.NatW.at_later 67 ?_); refine Go.Proofs.YgcoaaGreat.NatW.Ret.run (fmtOk_ret E M hf) _ ?_; rintro _ y__ rfl)
    | ((with_reducible refine Go.Proofs.YgcoaaGreat.NatW.at_reg 2 ?_); (refine Go.Lax.region_reads _ (by kernel_rfl) (by kernel_rfl) ?_; (repeat (first | go_big_quiet_skip | (go_big_quiet_want; go_big_quiet_op; go_big_quiet_on))); refine wpQuiet_nil ?_); intro y)
    | ((with_reducible refine Go.Proofs.YgcoaaGreat.NatW.at_later 147 ?_)
       refine (unhide HMO) E M hf tb mb n hn md kD kA kB imm hD0 hD1 hA0 hA1 hB0 hB1 (unhide UI) _ (unhide HM _) (unhide HT _) htb _ ?_
       intro n9 w9 hn9 hm9 hb9
       have HM9 := hide hm9
       have HB9 := hide (((hB _).mono (by omega)).trans hb9)
       clear hm9 hb9))
  all_goals first
    | (refine bodyPost_box rfl ?_; intro r hr; simp [results, Oaag.results82, go_sem] at hr; subst hr; refine ⟨_, rfl, ?_⟩
       exact unhide HK n9 _ (by omega) (unhide HM9) (unhide HB9))
    | skip

theorem stp_0 : Stp 82 0 := by
  intro E M hf tb mb n hn md kD kA kB imm h1 h2 h3 h4 h5 h6 hI w h hT htb K hK
  exact step_0 E M hf tb mb n hn md kD kA kB imm h1 h2 h3 h4 h5 h6 hI w h hT K hK
theorem stp_1 : Stp 82 1 := by
  intro E M hf tb mb n hn md kD kA kB imm h1 h2 h3 h4 h5 h6 hI w h hT htb K hK
  exact step_1 E M hf tb mb n hn md kD kA kB imm h1 h2 h3 h4 h5 h6 hI w h hT K hK
theorem stp_2 : Stp 82 2 := by
  intro E M hf tb mb n hn md kD kA kB imm h1 h2 h3 h4 h5 h6 hI w h hT htb K hK
  exact step_2 E M hf tb mb n hn md kD kA kB imm h1 h2 h3 h4 h5 h6 hI w h hT K hK
theorem stp_3 : Stp 82 3 := by
  intro E M hf tb mb n hn md kD kA kB imm h1 h2 h3 h4 h5 h6 hI w h hT htb K hK
  exact step_3 E M hf tb mb n hn md kD kA kB imm h1 h2 h3 h4 h5 h6 hI w h hT K hK
theorem stp_4 : Stp 82 4 := by
  intro E M hf tb mb n hn md kD kA kB imm h1 h2 h3 h4 h5 h6 hI w h hT htb K hK
  exact step_4 E M hf tb mb n hn md kD kA kB imm h1 h2 h3 h4 h5 h6 hI w h hT K hK
theorem stp_5 : Stp 82 5 := by
  intro E M hf tb mb n hn md kD kA kB imm h1 h2 h3 h4 h5 h6 hI w h hT htb K hK
  exact step_5 E M hf tb mb n hn md kD kA kB imm h1 h2 h3 h4 h5 h6 hI w h hT K hK
theorem stp_6 : Stp 82 6 := by
  intro E M hf tb mb n hn md kD kA kB imm h1 h2 h3 h4 h5 h6 hI w h hT htb K hK
  exact step_6 E M hf tb mb n hn md kD kA kB imm h1 h2 h3 h4 h5 h6 hI w h hT K hK
theorem stp_7 : Stp 82 7 := by
  intro E M hf tb mb n hn md kD kA kB imm h1 h2 h3 h4 h5 h6 hI w h hT htb K hK
  exact step_7 E M hf tb mb n hn md kD kA kB imm h1 h2 h3 h4 h5 h6 hI w h hT K hK
theorem stp_9 : Stp 82 9 := by
  intro E M hf tb mb n hn md kD kA kB imm h1 h2 h3 h4 h5 h6 hI w h hT htb K hK
  exact step_9 E M hf tb mb n hn md kD kA kB imm h1 h2 h3 h4 h5 h6 hI w h hT K hK
theorem stp_10 : Stp 82 10 := by
  intro E M hf tb mb n hn md kD kA kB imm h1 h2 h3 h4 h5 h6 hI w h hT htb K hK
  exact step_10 E M hf tb mb n hn md kD kA kB imm h1 h2 h3 h4 h5 h6 hI w h hT K hK
theorem stp_13 : Stp 82 13 := by
  intro E M hf tb mb n hn md kD kA kB imm h1 h2 h3 h4 h5 h6 hI w h hT htb K hK
  exact step_13 E M hf tb mb n hn md kD kA kB imm h1 h2 h3 h4 h5 h6 hI w h hT K hK
theorem stp_8 : Stp 82 8 := by
  intro E M hf tb mb n hn md kD kA kB imm h1 h2 h3 h4 h5 h6 hI w h hT htb K hK
  exact step_8 E M hf tb mb n hn md kD kA kB imm h1 h2 h3 h4 h5 h6 hI w h hT htb K hK
theorem stp_11 : Stp 82 11 := by
  intro E M hf tb mb n hn md kD kA kB imm h1 h2 h3 h4 h5 h6 hI w h hT htb K hK
  exact step_11 E M hf tb mb n hn md kD kA kB imm h1 h2 h3 h4 h5 h6 hI w h hT htb K hK
theorem stp_14 : Stp 82 14 := by
  intro E M hf tb mb n hn md kD kA kB imm h1 h2 h3 h4 h5 h6 hI w h hT htb K hK
  exact step_14 E M hf tb mb n hn md kD kA kB imm h1 h2 h3 h4 h5 h6 hI w h hT htb K hK
theorem stp_12 : Stp 82 12 := by
  intro E M hf tb mb n hn md kD kA kB imm h1 h2 h3 h4 h5 h6 hI w h hT htb K hK
  obtain ⟨G, hG⟩ : ∃ G : Nat, imm % 256 = (G : Int) := ⟨(imm % 256).toNat, by omega⟩
  obtain ⟨N, hN⟩ : ∃ N : Nat, imm / 256 % 256 = (N : Int) := ⟨(imm / 256 % 256).toNat, by omega⟩
  cases hg : fok G N with
  | true => exact step_12t E M hf tb mb n hn md kD kA kB imm h1 h2 h3 h4 h5 h6 hI G N hG hN hg w h hT K hK
  | false => exact step_12f E M hf tb mb n hn md kD kA kB imm h1 h2 h3 h4 h5 h6 hI G N hG hN hg w h hT K hK
theorem stp_15 : Stp 82 15 := by
  intro E M hf tb mb n hn md kD kA kB imm h1 h2 h3 h4 h5 h6 hI w h hT htb K hK
  exact step_hi E M hf tb mb n hn 15 (by omega) (by
    intro E M hf tb mb n hn md kD kA kB imm h1 h2 h3 h4 h5 h6 hI w h hT htb K hK
    exact more_15 E M hf tb mb n hn md kD kA kB imm h1 h2 h3 h4 h5 h6 hI w h hT K hK) md kD kA kB imm h1 h2 h3 h4 h5 h6 hI w h hT htb K hK
theorem stp_16 : Stp 82 16 := by
  intro E M hf tb mb n hn md kD kA kB imm h1 h2 h3 h4 h5 h6 hI w h hT htb K hK
  exact step_hi E M hf tb mb n hn 16 (by omega) (by
    intro E M hf tb mb n hn md kD kA kB imm h1 h2 h3 h4 h5 h6 hI w h hT htb K hK
    exact more_16 E M hf tb mb n hn md kD kA kB imm h1 h2 h3 h4 h5 h6 hI w h hT K hK) md kD kA kB imm h1 h2 h3 h4 h5 h6 hI w h hT htb K hK
theorem stp_17 : Stp 82 17 := by
  intro E M hf tb mb n hn md kD kA kB imm h1 h2 h3 h4 h5 h6 hI w h hT htb K hK
  exact step_hi E M hf tb mb n hn 17 (by omega) (by
    intro E M hf tb mb n hn md kD kA kB imm h1 h2 h3 h4 h5 h6 hI w h hT htb K hK
    exact more_17 E M hf tb mb n hn md kD kA kB imm h1 h2 h3 h4 h5 h6 hI w h hT K hK) md kD kA kB imm h1 h2 h3 h4 h5 h6 hI w h hT htb K hK
theorem stp_18 : Stp 82 18 := by
  intro E M hf tb mb n hn md kD kA kB imm h1 h2 h3 h4 h5 h6 hI w h hT htb K hK
  exact step_hi E M hf tb mb n hn 18 (by omega) (by
    intro E M hf tb mb n hn md kD kA kB imm h1 h2 h3 h4 h5 h6 hI w h hT htb K hK
    exact more_18 E M hf tb mb n hn md kD kA kB imm h1 h2 h3 h4 h5 h6 hI w h hT K hK) md kD kA kB imm h1 h2 h3 h4 h5 h6 hI w h hT htb K hK
theorem stp_19 : Stp 82 19 := by
  intro E M hf tb mb n hn md kD kA kB imm h1 h2 h3 h4 h5 h6 hI w h hT htb K hK
  exact step_hi E M hf tb mb n hn 19 (by omega) (by
    intro E M hf tb mb n hn md kD kA kB imm h1 h2 h3 h4 h5 h6 hI w h hT htb K hK
    exact more_19 E M hf tb mb n hn md kD kA kB imm h1 h2 h3 h4 h5 h6 hI w h hT K hK) md kD kA kB imm h1 h2 h3 h4 h5 h6 hI w h hT htb K hK
theorem stp_20 : Stp 82 20 := by
  intro E M hf tb mb n hn md kD kA kB imm h1 h2 h3 h4 h5 h6 hI w h hT htb K hK
  exact step_hi E M hf tb mb n hn 20 (by omega) (by
    intro E M hf tb mb n hn md kD kA kB imm h1 h2 h3 h4 h5 h6 hI w h hT htb K hK
    exact more_20 E M hf tb mb n hn md kD kA kB imm h1 h2 h3 h4 h5 h6 hI w h hT K hK) md kD kA kB imm h1 h2 h3 h4 h5 h6 hI w h hT htb K hK
theorem stp_21 : Stp 82 21 := by
  intro E M hf tb mb n hn md kD kA kB imm h1 h2 h3 h4 h5 h6 hI w h hT htb K hK
  exact step_hi E M hf tb mb n hn 21 (by omega) (by
    intro E M hf tb mb n hn md kD kA kB imm h1 h2 h3 h4 h5 h6 hI w h hT htb K hK
    exact more_21 E M hf tb mb n hn md kD kA kB imm h1 h2 h3 h4 h5 h6 hI w h hT K hK) md kD kA kB imm h1 h2 h3 h4 h5 h6 hI w h hT htb K hK
theorem stp_22 : Stp 82 22 := by
  intro E M hf tb mb n hn md kD kA kB imm h1 h2 h3 h4 h5 h6 hI w h hT htb K hK
  exact step_hi E M hf tb mb n hn 22 (by omega) (by
    intro E M hf tb mb n hn md kD kA kB imm h1 h2 h3 h4 h5 h6 hI w h hT htb K hK
    exact more_22 E M hf tb mb n hn md kD kA kB imm h1 h2 h3 h4 h5 h6 hI w h hT htb K hK) md kD kA kB imm h1 h2 h3 h4 h5 h6 hI w h hT htb K hK
theorem stp_23 : Stp 82 23 := by
  intro E M hf tb mb n hn md kD kA kB imm h1 h2 h3 h4 h5 h6 hI w h hT htb K hK
  exact step_hi E M hf tb mb n hn 23 (by omega) (by
    intro E M hf tb mb n hn md kD kA kB imm h1 h2 h3 h4 h5 h6 hI w h hT htb K hK
    exact more_23 E M hf tb mb n hn md kD kA kB imm h1 h2 h3 h4 h5 h6 hI w h hT htb K hK) md kD kA kB imm h1 h2 h3 h4 h5 h6 hI w h hT htb K hK
theorem stp_24 : Stp 82 24 := by
  intro E M hf tb mb n hn md kD kA kB imm h1 h2 h3 h4 h5 h6 hI w h hT htb K hK
  exact step_hi E M hf tb mb n hn 24 (by omega) (by
    intro E M hf tb mb n hn md kD kA kB imm h1 h2 h3 h4 h5 h6 hI w h hT htb K hK
    exact more_24 E M hf tb mb n hn md kD kA kB imm h1 h2 h3 h4 h5 h6 hI w h hT htb K hK) md kD kA kB imm h1 h2 h3 h4 h5 h6 hI w h hT htb K hK
theorem stp_25 : Stp 82 25 := by
  intro E M hf tb mb n hn md kD kA kB imm h1 h2 h3 h4 h5 h6 hI w h hT htb K hK
  exact step_hi E M hf tb mb n hn 25 (by omega) (by
    intro E M hf tb mb n hn md kD kA kB imm h1 h2 h3 h4 h5 h6 hI w h hT htb K hK
    exact more_25 E M hf tb mb n hn md kD kA kB imm h1 h2 h3 h4 h5 h6 hI w h hT htb K hK) md kD kA kB imm h1 h2 h3 h4 h5 h6 hI w h hT htb K hK
theorem stp_26 : Stp 82 26 := by
  intro E M hf tb mb n hn md kD kA kB imm h1 h2 h3 h4 h5 h6 hI w h hT htb K hK
  exact step_hi E M hf tb mb n hn 26 (by omega) (by
    intro E M hf tb mb n hn md kD kA kB imm h1 h2 h3 h4 h5 h6 hI w h hT htb K hK
    exact more_26 E M hf tb mb n hn md kD kA kB imm h1 h2 h3 h4 h5 h6 hI w h hT K hK) md kD kA kB imm h1 h2 h3 h4 h5 h6 hI w h hT htb K hK
theorem stp_27 : Stp 82 27 := by
  intro E M hf tb mb n hn md kD kA kB imm h1 h2 h3 h4 h5 h6 hI w h hT htb K hK
  exact step_hi E M hf tb mb n hn 27 (by omega) (by
    intro E M hf tb mb n hn md kD kA kB imm h1 h2 h3 h4 h5 h6 hI w h hT htb K hK
    exact more_27 E M hf tb mb n hn md kD kA kB imm h1 h2 h3 h4 h5 h6 hI w h hT K hK) md kD kA kB imm h1 h2 h3 h4 h5 h6 hI w h hT htb K hK
theorem stp_28 : Stp 82 28 := by
  intro E M hf tb mb n hn md kD kA kB imm h1 h2 h3 h4 h5 h6 hI w h hT htb K hK
  exact step_hi E M hf tb mb n hn 28 (by omega) (by
    intro E M hf tb mb n hn md kD kA kB imm h1 h2 h3 h4 h5 h6 hI w h hT htb K hK
    exact more_28 E M hf tb mb n hn md kD kA kB imm h1 h2 h3 h4 h5 h6 hI w h hT htb K hK) md kD kA kB imm h1 h2 h3 h4 h5 h6 hI w h hT htb K hK
theorem stp_29 : Stp 82 29 := by
  intro E M hf tb mb n hn md kD kA kB imm h1 h2 h3 h4 h5 h6 hI w h hT htb K hK
  exact step_hi E M hf tb mb n hn 29 (by omega) (by
    intro E M hf tb mb n hn md kD kA kB imm h1 h2 h3 h4 h5 h6 hI w h hT htb K hK
    exact more_29 E M hf tb mb n hn md kD kA kB imm h1 h2 h3 h4 h5 h6 hI w h hT htb K hK) md kD kA kB imm h1 h2 h3 h4 h5 h6 hI w h hT htb K hK
theorem stp_30 : Stp 82 30 := by
  intro E M hf tb mb n hn md kD kA kB imm h1 h2 h3 h4 h5 h6 hI w h hT htb K hK
  exact step_hi E M hf tb mb n hn 30 (by omega) (by
    intro E M hf tb mb n hn md kD kA kB imm h1 h2 h3 h4 h5 h6 hI w h hT htb K hK
    exact more_30 E M hf tb mb n hn md kD kA kB imm h1 h2 h3 h4 h5 h6 hI w h hT htb K hK) md kD kA kB imm h1 h2 h3 h4 h5 h6 hI w h hT htb K hK
theorem stp_31 : Stp 82 31 := by
  intro E M hf tb mb n hn md kD kA kB imm h1 h2 h3 h4 h5 h6 hI w h hT htb K hK
  exact step_hi E M hf tb mb n hn 31 (by omega) (by
    intro E M hf tb mb n hn md kD kA kB imm h1 h2 h3 h4 h5 h6 hI w h hT htb K hK
    exact more_31 E M hf tb mb n hn md kD kA kB imm h1 h2 h3 h4 h5 h6 hI w h hT K hK) md kD kA kB imm h1 h2 h3 h4 h5 h6 hI w h hT htb K hK
theorem stp_32 : Stp 82 32 := by
  intro E M hf tb mb n hn md kD kA kB imm h1 h2 h3 h4 h5 h6 hI w h hT htb K hK
  exact step_hi E M hf tb mb n hn 32 (by omega) (by
    intro E M hf tb mb n hn md kD kA kB imm h1 h2 h3 h4 h5 h6 hI w h hT htb K hK
    exact more_32 E M hf tb mb n hn md kD kA kB imm h1 h2 h3 h4 h5 h6 hI w h hT htb K hK) md kD kA kB imm h1 h2 h3 h4 h5 h6 hI w h hT htb K hK
theorem stp_33 : Stp 82 33 := by
  intro E M hf tb mb n hn md kD kA kB imm h1 h2 h3 h4 h5 h6 hI w h hT htb K hK
  exact step_hi E M hf tb mb n hn 33 (by omega) (by
    intro E M hf tb mb n hn md kD kA kB imm h1 h2 h3 h4 h5 h6 hI w h hT htb K hK
    exact more_33 E M hf tb mb n hn md kD kA kB imm h1 h2 h3 h4 h5 h6 hI w h hT htb K hK) md kD kA kB imm h1 h2 h3 h4 h5 h6 hI w h hT htb K hK
theorem stp_all (k : Nat) (hk : k < 34) : Stp 82 (k : Int) := by
  match k, hk with
  | 0, _ => exact stp_0
  | 1, _ => exact stp_1
  | 2, _ => exact stp_2
  | 3, _ => exact stp_3
  | 4, _ => exact stp_4
  | 5, _ => exact stp_5
  | 6, _ => exact stp_6
  | 7, _ => exact stp_7
  | 8, _ => exact stp_8
  | 9, _ => exact stp_9
  | 10, _ => exact stp_10
  | 11, _ => exact stp_11
  | 12, _ => exact stp_12
  | 13, _ => exact stp_13
  | 14, _ => exact stp_14
  | 15, _ => exact stp_15
  | 16, _ => exact stp_16
  | 17, _ => exact stp_17
  | 18, _ => exact stp_18
  | 19, _ => exact stp_19
  | 20, _ => exact stp_20
  | 21, _ => exact stp_21
  | 22, _ => exact stp_22
  | 23, _ => exact stp_23
  | 24, _ => exact stp_24
  | 25, _ => exact stp_25
  | 26, _ => exact stp_26
  | 27, _ => exact stp_27
  | 28, _ => exact stp_28
  | 29, _ => exact stp_29
  | 30, _ => exact stp_30
  | 31, _ => exact stp_31
  | 32, _ => exact stp_32
  | 33, _ => exact stp_33
  | n + 34, h => omega

end Go.Proofs.YgcoaaGreat.NatW
