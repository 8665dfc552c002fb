/-
  Package calc: Sound; kit: Check.
-/
import Derived.Test.YgcoaaGreatOuH
set_option linter.unusedVariables false
set_option linter.unusedSimpArgs false
namespace Go.Proofs.YgcoaaGreat.NatW
attribute [local go_sem] Go.Instr.field Go.asAgg
open Go.RowKit
open Go.Proofs.YgcoaaGreat.Limbs Go.Proofs.YgcoaaGreat.Bits

set_option maxRecDepth 20000 in
theorem mcheck_ret (mb : Nat) : Ret 84 #[.pointer (some ⟨mb, 0, none⟩)] (fun v => v = .bool true) := by
  intro w K hK
  have HK := hide hK
  clear hK
  go_enter Oaag.func84, Oaag.ntmps84
  go_wp2_with fail
  exact unhide HK _ _ rfl (Below.refl _ _)
set_option maxRecDepth 20000 in
theorem mcheck_nil : Ret 84 #[.pointer none] (fun v => v = .bool false) := by
  intro w K hK
  have HK := hide hK
  clear hK
  go_enter Oaag.func84, Oaag.ntmps84
  go_wp2_with fail
  exact unhide HK _ _ rfl (Below.refl _ _)

abbrev regs (r : Nat → Int) : Array Value := #[.int .u64 (r 0), .int .u64 (r 1), .int .u64 (r 2), .int .u64 (r 3), .int .u64 (r 4), .int .u64 (r 5), .int .u64 (r 6), .int .u64 (r 7)]
theorem u86 : Oaag.prog.underlying 86 = some (.array 8 30) := by kernel_rfl
theorem index_regs (r : Nat → Int) (i : Nat) (hi : i < 8) (w : World) : (Instr.index 86 (.agg (regs r)) (.int .i64 (i : Int))).run Oaag.prog w = .ok (.int .u64 (r i)) w := by
  have h30 : (Oaag.prog.info? 30).map (·.size) = some 1 := by kernel_rfl
  obtain ⟨t30, e30, s30⟩ : ∃ t, Oaag.prog.info? 30 = some t ∧ t.size = 1 := by
    cases he : Oaag.prog.info? 30 with
    | none => rw [he] at h30; cases h30
    | some t => rw [he] at h30; exact ⟨t, rfl, by simpa using h30⟩
  rcases (show i = 0 ∨ i = 1 ∨ i = 2 ∨ i = 3 ∨ i = 4 ∨ i = 5 ∨ i = 6 ∨ i = 7 by omega) with rfl | rfl | rfl | rfl | rfl | rfl | rfl | rfl <;>
    simp [Instr.index, run_underlying u86, regs, go_sem, asIntOf, part, sizeOf, typeInfo, e30, s30]

theorem sd_lt (E M X : Nat) : (X : Int) / 2 ^ (1 + E + M) = 0 ↔ X < 2 ^ (E + M + 1) := by
  have e : (2 : Int) ^ (1 + E + M) = ((2 ^ (E + M + 1) : Nat) : Int) := by
    rw [show 1 + E + M = E + M + 1 by omega]; simp
  rw [e, ← Int.natCast_ediv]
  have h := Nat.pow_pos (n := E + M + 1) (show 0 < 2 by decide)
  constructor
  · intro h1
    have h2 : X / 2 ^ (E + M + 1) = 0 := by exact_mod_cast h1
    rcases (Nat.div_eq_zero_iff).1 h2 with h3 | h3
    · omega
    · exact h3
  · intro h1
    rw [Nat.div_eq_of_lt h1]; rfl
theorem sd_no1 (E M X : Nat) (h : ¬ (X : Int) / 2 ^ (1 + E + M) = 0) : ¬ Snd E M (X : Int) := by
  rintro ⟨n, hn, h1, _⟩
  have : X = n := by omega
  subst this
  exact h ((sd_lt E M X).2 h1)
theorem sd_no2 (E M X : Nat) (hc : cls E M X = 4) (hx : ((X : Int) != (nanP E M : Nat)) = true) : ¬ Snd E M (X : Int) := by
  rintro ⟨n, hn, _, h2⟩
  have : X = n := by omega
  subst this
  simp [h2 hc] at hx
theorem sd_yes1 (E M X : Nat) (h : (X : Int) / 2 ^ (1 + E + M) = 0) (hc : ¬ cls E M X = 4) : Snd E M (X : Int) := ⟨X, rfl, (sd_lt E M X).1 h, fun h => absurd h hc⟩
theorem sd_yes2 (E M X : Nat) (h : (X : Int) / 2 ^ (1 + E + M) = 0) (hx : ((X : Int) != (nanP E M : Nat)) = false) : Snd E M (X : Int) := ⟨X, rfl, (sd_lt E M X).1 h, fun _ => by have h3 := bne_eq_false_iff_eq.1 hx; omega⟩

def SdR (wb : World) (E M : Nat) (r : Nat → Int) (t19 : Value) (wr : World) : Prop := ∃ (i : Nat) (y : Later wb), i ≤ 8 ∧ t19 = .int .i64 i ∧ wr = y.at_ ∧ Hid (∀ j, j < i → Snd E M (r j))

set_option maxRecDepth 20000 in
set_option maxHeartbeats 4000000 in
theorem sound_any (E M : Nat) (hf : fok E M = true) (mb : Nat) (r : Nat → Int) (hr : ∀ i, i < 8 → U64 (r i)) (w : World) (hc : ∀ i, i < 8 → w.cell? ⟨mb, i, none⟩ = some (.int .u64 (r i))) (K : Ending → World → Prop)
    (hK : ∀ b w', (b = true ↔ ∀ i, i < 8 → Snd E M (r i)) → Below w.heap.size w w' → K (.returned (.bool b)) w') : Calls Oaag.prog 44 #[fmt E M, .pointer (some ⟨mb, 0, none⟩)] w K := by
  obtain ⟨g1, g2, g3, g4⟩ := fok_bd hf
  have HK := hide hK
  clear hK
  obtain ⟨wb, x0, hwb, r0, hB, hZ⟩ := boxes1 w #[.int .u8 E, .int .u8 M] 23
  have c00 : ∀ x : Later wb, _ = some (.int .u8 E : Value) := Later.cell r0 0 _ rfl
  have c01 : ∀ x : Later wb, _ = some (.int .u8 M : Value) := Later.cell r0 1 _ rfl
  have R0 := hide r0
  clear r0
  have hne : Nonempty (Later wb) := ⟨x0⟩
  have hml : mb < w.heap.size := World.block_lt_of_cell? _ _ (hc 0 (by omega))
  have k0 : ∀ x : Later wb, x.at_.cell? ⟨mb, 0, none⟩ = some (.int .u64 (r 0)) := fun x => ((hB x).cell (p := ⟨mb, 0, none⟩) hml).trans (hc 0 (by omega))
  have k1 : ∀ x : Later wb, x.at_.cell? ⟨mb, 1, none⟩ = some (.int .u64 (r 1)) := fun x => ((hB x).cell (p := ⟨mb, 1, none⟩) hml).trans (hc 1 (by omega))
  have k2 : ∀ x : Later wb, x.at_.cell? ⟨mb, 2, none⟩ = some (.int .u64 (r 2)) := fun x => ((hB x).cell (p := ⟨mb, 2, none⟩) hml).trans (hc 2 (by omega))
  have k3 : ∀ x : Later wb, x.at_.cell? ⟨mb, 3, none⟩ = some (.int .u64 (r 3)) := fun x => ((hB x).cell (p := ⟨mb, 3, none⟩) hml).trans (hc 3 (by omega))
  have k4 : ∀ x : Later wb, x.at_.cell? ⟨mb, 4, none⟩ = some (.int .u64 (r 4)) := fun x => ((hB x).cell (p := ⟨mb, 4, none⟩) hml).trans (hc 4 (by omega))
  have k5 : ∀ x : Later wb, x.at_.cell? ⟨mb, 5, none⟩ = some (.int .u64 (r 5)) := fun x => ((hB x).cell (p := ⟨mb, 5, none⟩) hml).trans (hc 5 (by omega))
  have k6 : ∀ x : Later wb, x.at_.cell? ⟨mb, 6, none⟩ = some (.int .u64 (r 6)) := fun x => ((hB x).cell (p := ⟨mb, 6, none⟩) hml).trans (hc 6 (by omega))
  have k7 : ∀ x : Later wb, x.at_.cell? ⟨mb, 7, none⟩ = some (.int .u64 (r 7)) := fun x => ((hB x).cell (p := ⟨mb, 7, none⟩) hml).trans (hc 7 (by omega))
  have HR := hide hr
  clear hc hr
  go_enter Oaag.func44, Oaag.ntmps44
  go_wp2_with (first
    | ((with_reducible refine Go.Proofs.YgcoaaGreat.NatW.at_later 84 ?_); refine Go.Proofs.YgcoaaGreat.NatW.Ret.run (mcheck_ret mb) _ ?_; rintro _ y__ rfl)
    | ((with_reducible refine Go.Proofs.YgcoaaGreat.NatW.at_later 67 ?_); refine Go.Proofs.YgcoaaGreat.NatW.Ret.run (fmtOk_ret E M hf) _ ?_; rintro _ y__ rfl))
  clear k0 k1 k2 k3 k4 k5 k6 k7
  go_loopw [19, 6] (fun t19 _ wr => SdR wb E M r t19 wr) (fun t19 _ _ => 8 - (intOf t19).toNat)
  case atStart => exact ⟨0, _, by omega, rfl, rfl, hide (fun j hj => by omega)⟩
  case round =>
    obtain ⟨i, y, hi, rfl, rfl, hall⟩ := hrel
    by_cases hl : i < 8
    · have hix := index_regs r i hl
      have hu := unhide HR i hl
      obtain ⟨X, hX⟩ : ∃ X : Nat, r i = (X : Int) := ⟨(r i).toNat, by have := hu.1; omega⟩
      rw [hX] at hix hu
      have HX := hide hX
      have HU := hide hu
      clear hX hu
      go_wp2_with (first
        | ((with_reducible refine Go.Proofs.YgcoaaGreat.NatW.at_later 68 ?_); refine Go.Proofs.YgcoaaGreat.NatW.Ret.run (unpack_i E M hf X (unhide HU)) _ ?_; rintro _ y__ ⟨un, uc, ue, um, rfl, -, huc⟩)
        | ((with_reducible refine Go.Proofs.YgcoaaGreat.NatW.at_later 45 ?_); refine Go.Proofs.YgcoaaGreat.NatW.Ret.run (nan_ret E M hf) _ ?_; rintro _ y__ rfl))
      all_goals first
        | exact unhide HK false _ ⟨fun h => (by cases h), fun h => absurd (h i hl) (by rw [unhide HX]; first | exact sd_no1 E M X (by assumption) | exact sd_no2 E M X (by assumption) (by assumption))⟩ (hB _)
        | (refine ⟨⟨i + 1, _, by omega, by simp, rfl, hide (fun j hj => ?_)⟩, by simp [intOf]; omega⟩
           by_cases hji : j < i
           · exact unhide hall j hji
           · have : j = i := by omega
             subst this
             rw [unhide HX]
             first | exact sd_yes1 E M X (by assumption) (by assumption) | exact sd_yes2 E M X (by assumption) (by assumption))
        | skip
    · go_wp2_with fail
      refine unhide HK true _ ⟨fun _ j hj => unhide hall j (by omega), fun _ => rfl⟩ (hB _)

end Go.Proofs.YgcoaaGreat.NatW
