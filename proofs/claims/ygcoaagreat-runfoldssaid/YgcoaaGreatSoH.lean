/-
  The machine; so: settle at a wrong text.
-/
import Derived.Test.YgcoaaGreatSoG
import Derived.Test.YgcoaaGreatApp
set_option linter.unusedVariables false
set_option linter.unusedSimpArgs false
namespace Go.Proofs.YgcoaaGreat.NatW
attribute [local go_sem] Go.Instr.field Go.asAgg
open Go.RowKit
open Go.Proofs.YgcoaaGreat.Limbs Go.Proofs.YgcoaaGreat.Bits


def isS (v : Value) : Prop := ∃ s, v = .string s
theorem Own.slice {w : World} {base n : Nat} {e : TypeId} {v : Value} {p : Value → Prop} (h : Own w base e v n p) : ∃ a b c, v = .slice a b c := by
  obtain ⟨xs, ⟨_, h2⟩, _⟩ := h
  rcases h2 with ⟨h, _⟩ | ⟨g, cap, cur, h, _⟩
  · exact ⟨_, _, _, h⟩
  · exact ⟨_, _, _, h⟩
theorem u87 : Oaag.prog.underlying 87 = some (.slice 9) := by kernel_rfl

/-- Block mb is a machine of the format: eight sound registers, n texts put out. -/
structure Mach (E M mb n : Nat) (w : World) : Prop where
  own : Mine w mb
  reg : ∀ i, i < 8 → ∃ r, w.cell? ⟨mb, i, none⟩ = some (.int .u64 r) ∧ Snd E M r
  out : ∃ v, w.cell? ⟨mb, 8, none⟩ = some v ∧ Own w (mb + 1) 9 v n isS

theorem Mach.later {E M mb n : Nat} {w w' : World} (h : Mach E M mb n w) (hb : Below w.heap.size w w') : Mach E M mb n w' :=
  ⟨h.own.kept hb h.own.1, fun i hi => by
    obtain ⟨r, h1, h2⟩ := h.reg i hi
    exact ⟨r, (hb.cell (p := ⟨mb, i, none⟩) h.own.1).trans h1, h2⟩, by
    obtain ⟨v, h1, h2⟩ := h.out
    exact ⟨v, (hb.cell (p := ⟨mb, 8, none⟩) h.own.1).trans h1, h2.kept hb⟩⟩
theorem Mach.set {E M mb n : Nat} {w : World} (h : Mach E M mb n w) (i : Nat) (hi : i < 8) {r : Int} (hr : Snd E M r) : Mach E M mb n (w.setCell ⟨mb, i, none⟩ (.int .u64 r)) :=
  ⟨h.own.set _ _, fun j hj => by
    obtain ⟨q, h1, h2⟩ := h.reg j hj
    rw [cell_set _ _ _ _ _ _ _ h1]
    split
    · exact ⟨r, rfl, hr⟩
    · exact ⟨q, rfl, h2⟩, by
    obtain ⟨v, h1, h2⟩ := h.out
    exact ⟨v, by rw [cell_set _ _ _ _ _ _ _ h1, if_neg (by omega)], h2.other _ (by omega)⟩⟩
/-- Behind append and the store of its answer. -/
theorem Mach.app {E M mb n : Nat} {w w' : World} (h : Mach E M mb n w) (hb : Below (mb + 1) w w') {v : Value} (ho : Own w' (mb + 1) 9 v (n + 1) isS) : Mach E M mb (n + 1) (w'.setCell ⟨mb, 8, none⟩ v) := by
  have hm : Mine w' mb := h.own.kept hb (by omega)
  obtain ⟨u, hu, _⟩ := h.out
  have hu' : w'.cell? ⟨mb, 8, none⟩ = some u := (hb.cell (p := ⟨mb, 8, none⟩) (by simp)).trans hu
  refine ⟨hm.set _ _, fun j hj => ?_, v, by rw [cell_set _ _ _ _ _ _ _ hu', if_pos ⟨rfl, rfl⟩], ho.other _ (by omega)⟩
  obtain ⟨q, h1, h2⟩ := h.reg j hj
  have h1' : w'.cell? ⟨mb, j, none⟩ = some (.int .u64 q) := (hb.cell (p := ⟨mb, j, none⟩) (by simp)).trans h1
  exact ⟨q, by rw [cell_set _ _ _ _ _ _ _ h1', if_neg (by omega)], h2⟩

theorem and7 (x : Int) (h : 0 ≤ x) (h2 : x ≤ 255) : ∃ i : Nat, bits .and .u8 x 7 = (i : Int) ∧ i < 8 := by
  obtain ⟨n, rfl⟩ := Int.eq_ofNat_of_zero_le h
  refine ⟨n &&& 7, u8_and_nat n 7 (by omega) (by omega), ?_⟩
  have := @Nat.and_le_right n 7
  omega
theorem and7u (x : Int) (h : U64 x) : ∃ i : Nat, bits .and .u64 x 7 = (i : Int) ∧ i < 8 := by
  obtain ⟨n, rfl⟩ := Int.eq_ofNat_of_zero_le h.1
  refine ⟨n &&& 7, u64_and_nat n 7 (by have := h.2; omega) (by omega), ?_⟩
  have := @Nat.and_le_right n 7
  omega

set_option maxRecDepth 20000 in
set_option maxHeartbeats 4000000 in
theorem settle_wrong (E M : Nat) (hf : fok E M = true) (mb n : Nat) (hn : n ≤ 1000) (kd kD kA kB imm x : Int) (hD0 : 0 ≤ kD) (hD1 : kD ≤ 255) (w : World) (h : Mach E M mb n w) (K : Ending → World → Prop)
    (hK : ∀ w', Mach E M mb (n + 1) w' → Below mb w w' → K (.returned (.tuple #[])) w') : Calls Oaag.prog 255 #[fmt E M, .pointer (some ⟨mb, 0, none⟩), .agg #[.int .u8 kd, .int .u8 kD, .int .u8 kA, .int .u8 kB, .int .u64 imm, .string ⟨#[]⟩], .agg #[.int .u8 3, .bool false, .string ⟨#[]⟩, .int .i16 0, .int .i64 0, .int .i32 (-1)], .int .u64 x] w K := by
  obtain ⟨di, hdi, hdi8⟩ := and7 kD hD0 hD1
  obtain ⟨g1, g2, g3, g4⟩ := fok_bd hf
  have HK := hide hK
  clear hK
  obtain ⟨wb, x0, hwb, r0, r1, r2, hB, hZ⟩ := boxes3 w #[.int .u8 E, .int .u8 M] #[.int .u8 kd, .int .u8 kD, .int .u8 kA, .int .u8 kB, .int .u64 imm, .string ⟨#[]⟩] #[.int .u8 3, .bool false, .string ⟨#[]⟩, .int .i16 0, .int .i64 0, .int .i32 (-1)] 23 91 244
  have c00 : ∀ x : Later wb, _ = some (.int .u8 E : Value) := Later.cell r0 0 _ rfl
  have c01 : ∀ x : Later wb, _ = some (.int .u8 M : Value) := Later.cell r0 1 _ rfl
  have c10 : ∀ x : Later wb, _ = some (.int .u8 kd : Value) := Later.cell r1 0 _ rfl
  have c11 : ∀ x : Later wb, _ = some (.int .u8 kD : Value) := Later.cell r1 1 _ rfl
  have c12 : ∀ x : Later wb, _ = some (.int .u8 kA : Value) := Later.cell r1 2 _ rfl
  have c13 : ∀ x : Later wb, _ = some (.int .u8 kB : Value) := Later.cell r1 3 _ rfl
  have c14 : ∀ x : Later wb, _ = some (.int .u64 imm : Value) := Later.cell r1 4 _ rfl
  have c15 : ∀ x : Later wb, _ = some (.string ⟨#[]⟩ : Value) := Later.cell r1 5 _ rfl
  have c20 : ∀ x : Later wb, _ = some (.int .u8 3 : Value) := Later.cell r2 0 _ rfl
  have c21 : ∀ x : Later wb, _ = some (.bool false : Value) := Later.cell r2 1 _ rfl
  have c22 : ∀ x : Later wb, _ = some (.string ⟨#[]⟩ : Value) := Later.cell r2 2 _ rfl
  have c23 : ∀ x : Later wb, _ = some (.int .i16 0 : Value) := Later.cell r2 3 _ rfl
  have c24 : ∀ x : Later wb, _ = some (.int .i64 0 : Value) := Later.cell r2 4 _ rfl
  have c25 : ∀ x : Later wb, _ = some (.int .i32 (-1) : Value) := Later.cell r2 5 _ rfl
  have R0 := hide r0
  have R1 := hide r1
  have R2 := hide r2
  clear r0 r1 r2
  have hne : Nonempty (Later wb) := ⟨x0⟩
  have hm' : ∀ y : Later wb, Mach E M mb n y.at_ := fun y => h.later (hB y)
  obtain ⟨vo, kov, _⟩ := h.out
  have ko : ∀ y : Later wb, y.at_.cell? ⟨mb, 8, none⟩ = some vo := fun y => ((hB y).cell (p := ⟨mb, 8, none⟩) h.own.1).trans kov
  have fo : ∀ y : Later wb, y.at_.frozen? ⟨mb, 8, none⟩ = false := fun y => (hm' y).own.2 8
  have hown : ∀ y : Later wb, Own y.at_ (mb + 1) 9 vo n isS := fun y => by
    obtain ⟨v', h1, h2⟩ := (hm' y).out
    rw [ko y] at h1; cases h1; exact h2
  have hsz : ∀ y : Later wb, mb + 1 ≤ y.at_.heap.size := fun y => (hm' y).own.1
  have hml := h.own.1
  have HM := hide hm'
  clear hm' kov h
  go_enter Oaag.func255, Oaag.ntmps255
  go_wp2_with (first
    | (at_builtin; refine wpList_app1 87 9 (.string ⟨#[]⟩) 16 info9 rfl NatW.u87 (by decide) rfl _ _ rfl (hown y) rfl rfl (by rfl) (by exact ⟨_, rfl⟩) (by omega) (hsz y) ?_; intro v1 w1 ho1 hb1; obtain ⟨p1, a1, l1, rfl⟩ := ho1.slice; have o1 : w1.cell? ⟨mb, 8, none⟩ = some vo := (hb1.cell (p := ⟨mb, 8, none⟩) (by simp)).trans (ko y); have g1 : w1.frozen? ⟨mb, 8, none⟩ = false := (hb1.frozen (p := ⟨mb, 8, none⟩) (by simp)).trans (fo y); have HO1 := hide ho1; have HB1 := hide hb1; clear ho1 hb1)
    | ((refine Go.Lax.region_reads _ (by kernel_rfl) (by kernel_rfl) ?_; (repeat (first | go_big_quiet_skip | (go_big_quiet_want; go_big_quiet_op; go_big_quiet_on))); refine wpQuiet_nil ?_); intro y))
  all_goals first
    | (refine bodyPost_box rfl ?_; intro r hr; simp [results, Oaag.results255, go_sem] at hr; subst hr; refine ⟨_, rfl, ?_⟩
       exact unhide HK _ ((unhide HM _).app (unhide HB1) (unhide HO1)) (below_store (((hB _).mono (by omega)).trans ((unhide HB1).mono (by omega))) (Nat.le_refl _) _))
    | skip


end Go.Proofs.YgcoaaGreat.NatW
