/-
  One run by hand: ryu's span: drop, digits.
-/
import Derived.Test.YgcoaaGreatSfV
set_option linter.unusedVariables false
set_option linter.unusedSimpArgs false
set_option maxRecDepth 20000
namespace Go.Proofs.YgcoaaGreat.NatW
open Go.RowKit
open Go.Proofs.YgcoaaGreat.Limbs
attribute [local go_sem] Go.Instr.field Go.asAgg

theorem cell_oth {w : World} {b i j : Nat} {v q : Value} (h : w.cell? ⟨b, j, none⟩ = some q) (hne : i ≠ j) : (w.setCell ⟨b, i, none⟩ v).cell? ⟨b, j, none⟩ = some q := by
  rw [cell_set _ _ _ _ _ _ _ h, if_neg (by omega)]
theorem cell_slf {w : World} {b i : Nat} {v q : Value} (h : w.cell? ⟨b, i, none⟩ = some q) : (w.setCell ⟨b, i, none⟩ v).cell? ⟨b, i, none⟩ = some v := by
  rw [cell_set _ _ _ _ _ _ _ h, if_pos ⟨rfl, rfl⟩]

structure SpanT (Γ : Sf.Gam) (B O : Nat) : Prop where
  c0 : Γ B O = some (.int .u64 0 18446744073709551615)
  c1 : Γ B (O + 1) = some (.int .u64 0 18446744073709551615)
  c2 : Γ B (O + 2) = some (.int .u64 0 18446744073709551615)
  c3 : Γ B (O + 3) = some (.bool none)
  c4 : Γ B (O + 4) = some (.bool none)
  c5 : Γ B (O + 5) = some (.bool none)
  c6 : Γ B (O + 6) = some (.int .u64 0 18446744073709551615)

theorem u64c {Γ : Sf.Gam} {x : Int} (h0 : 0 ≤ x) (h1 : x ≤ 18446744073709551615) : Sf.cel Γ (.int .u64 0 18446744073709551615) (.int .u64 x) := ⟨x, rfl, h0, h1⟩
theorem boolc {Γ : Sf.Gam} (b : Bool) : Sf.cel Γ (.bool none) (.bool b) := ⟨b, rfl, fun c hc => by cases hc⟩

set_option maxHeartbeats 4000000 in
theorem drop_zero (Γ : Sf.Gam) (w wr : World) (hx : Sf.Ex Γ w Γ wr) (B O : Nat) (hS : SpanT Γ B O) (m : Int) (hm : wr.cell? ⟨B, O + 1, none⟩ = some (.int .u64 m)) :
    Calls Oaag.prog 401 #[.pointer (some ⟨B, O, none⟩)] wr fun e w' => e = .returned (.tuple #[]) ∧ Sf.Ex Γ w Γ w' ∧ w'.cell? ⟨B, O + 1, none⟩ = some (.int .u64 (m / 10)) := by
  obtain ⟨_, k0, ⟨l, rfl, l1, l2⟩, f0⟩ := hx.cell hS.c0
  obtain ⟨v1, k1, ⟨m', rfl, m1, m2⟩, f1⟩ := hx.cell hS.c1
  rw [hm] at k1; injection k1 with k1; injection k1 with _ k1; subst k1
  obtain ⟨_, k2, ⟨h, rfl, h1, h2⟩, f2⟩ := hx.cell hS.c2
  obtain ⟨_, k3, ⟨lw, rfl, _⟩, f3⟩ := hx.cell hS.c3
  obtain ⟨_, k4, ⟨mw, rfl, _⟩, f4⟩ := hx.cell hS.c4
  obtain ⟨_, k6, ⟨la, rfl, la1, la2⟩, f6⟩ := hx.cell hS.c6
  obtain ⟨b0, hb0⟩ : ∃ b, (l % 10 == 0) = b := ⟨_, rfl⟩
  obtain ⟨b1, hb1⟩ : ∃ b, (la == 0) = b := ⟨_, rfl⟩
  have HX := hide hx
  have HS := hide hS
  have HM := hide hm
  clear hx hS
  cases lw <;> cases mw
  all_goals
    go_enter Oaag.func401, Oaag.ntmps401
    go_wp2_with fail
    refine bodyPost_nor (v := .tuple #[]) (by simp [results, Oaag.results401, go_sem]) rfl ⟨rfl, ?_, ?_⟩
    · have hS := unhide HS
      exact ((((((unhide HX).set hS.c3 (boolc _)).set hS.c4 (boolc _)).set hS.c6 (u64c (by omega) (by omega))).set hS.c0 (u64c (by omega) (by omega))).set hS.c1 (u64c (by omega) (by omega))).set hS.c2 (u64c (by omega) (by omega))
    · exact cell_oth (cell_slf (cell_oth (cell_oth (cell_oth (cell_oth (unhide HM) (by omega)) (by omega)) (by omega)) (by omega))) (by omega)

def DgR (Γ : Sf.Gam) (w : World) (B O : Nat) (t3 : Value) (wr : World) : Prop :=
  ∃ (d : Nat) (m : Int), t3 = .int .i16 d ∧ d ≤ 19 ∧ wr.cell? ⟨B, O + 1, none⟩ = some (.int .u64 m) ∧ 0 ≤ m ∧ m * 10 ^ d ≤ 18446744073709551615 ∧ Sf.Ex Γ w Γ wr
theorem le64 {x : Int} (h : U64 x) : x ≤ 18446744073709551615 := by have := h.2; omega
theorem mid_le {m : Int} {d : Nat} (h0 : 0 ≤ m) (h : m * 10 ^ d ≤ 18446744073709551615) : m ≤ 18446744073709551615 := by
  have hp0 : (0 : Int) < 10 ^ d := Int.pow_pos (by decide)
  have hp : (1 : Int) ≤ 10 ^ d := hp0
  have : m * 1 ≤ m * 10 ^ d := Int.mul_le_mul_of_nonneg_left hp h0
  omega
def midOf (B O : Nat) (wr : World) : Nat := match wr.cell? ⟨B, O + 1, none⟩ with
  | some (.int _ m) => m.toNat
  | _ => 0
theorem midOf_eq {B O : Nat} {wr : World} {m : Int} (h : wr.cell? ⟨B, O + 1, none⟩ = some (.int .u64 m)) : midOf B O wr = m.toNat := by
  unfold midOf; rw [h]
theorem dg_next {m : Int} {d : Nat} (h10 : 10 ≤ m) (hb : m * 10 ^ d ≤ 18446744073709551615) : d + 1 ≤ 19 ∧ m / 10 * 10 ^ (d + 1) ≤ 18446744073709551615 := by
  have hp : (0 : Int) < 10 ^ d := Int.pow_pos (by decide)
  constructor
  · rcases Nat.lt_or_ge d 19 with h | h
    · omega
    · exfalso
      have h1 : (10 : Int) ^ 19 ≤ 10 ^ d := by exact_mod_cast Nat.pow_le_pow_right (by decide) h
      have h2 : (10 : Int) * 10 ^ d ≤ m * 10 ^ d := Int.mul_le_mul_of_nonneg_right h10 (by omega)
      have h3 : (10 : Int) ^ 19 = 10000000000000000000 := by decide
      omega
  · have h1 : m / 10 * 10 ≤ m := by omega
    have h2 : m / 10 * 10 * 10 ^ d ≤ m * 10 ^ d := Int.mul_le_mul_of_nonneg_right h1 (by omega)
    have h3 : m / 10 * 10 ^ (d + 1) = m / 10 * 10 * 10 ^ d := by rw [Int.pow_succ, Int.mul_comm (10 ^ d), ← Int.mul_assoc]
    omega

set_option maxHeartbeats 8000000 in
theorem digits_zero (Γ : Sf.Gam) (w : World) (hw : Sf.Wt Γ w) (B O : Nat) (hS : SpanT Γ B O) :
    Calls Oaag.prog 307 #[.pointer (some ⟨B, O, none⟩)] w fun e w' => ∃ (n : Int) (d : Nat), e = .returned (.tuple #[.int .u64 n, .int .i16 d]) ∧ 0 ≤ n ∧ n ≤ 18446744073709551615 ∧ d ≤ 19 ∧ Sf.Ex Γ w Γ w' := by
  have HW := hide hw
  have HS := hide hS
  clear hw hS
  obtain ⟨_, k1, ⟨m0, rfl, p1, p2⟩, f1⟩ := (Sf.Ex.refl (unhide HW)).cell (unhide HS).c1
  have HM0 := hide k1
  clear k1 f1
  go_enter Oaag.func307, Oaag.ntmps307
  go_wp2_with fail
  go_loopw [3] (DgR Γ w B O) (fun _ wr => midOf B O wr)
  case atStart => exact ⟨0, m0, rfl, by decide, unhide HM0, p1, by simpa using p2, Sf.Ex.refl (unhide HW)⟩
  case round =>
    obtain ⟨d, m, rfl, hd, hm, hm0, hmd, hx⟩ := hrel
    clear p1 p2 HM0
    have ht : wr.tape = fun _ _ => 0 := hx.wt.tape
    obtain ⟨_, k0, ⟨l, rfl, l1, l2⟩, f0⟩ := hx.cell (unhide HS).c0
    obtain ⟨_, k2, ⟨h, rfl, h1, h2⟩, f2⟩ := hx.cell (unhide HS).c2
    have k0' : wr.drew.cell? ⟨B, O, none⟩ = some (.int .u64 l) := k0
    have k1' : wr.drew.cell? ⟨B, O + 1, none⟩ = some (.int .u64 m) := hm
    have k2' : wr.drew.cell? ⟨B, O + 2, none⟩ = some (.int .u64 h) := k2
    obtain ⟨lq, hlq⟩ : ∃ q, IntKind.u64.wrap (l.tdiv 10) = q := ⟨_, rfl⟩
    obtain ⟨hq, hhq⟩ : ∃ q, IntKind.u64.wrap (h.tdiv 10) = q := ⟨_, rfl⟩
    have HX := hide hx
    have HMD := hide hmd
    have HMC := hide hm
    have HM0 := hide hm0
    clear hx hmd
    by_cases g10 : 10 ≤ m
    · by_cases gq : lq < hq
      · have HXD := hide (unhide HX).drew
        go_wp2_with (refine wp_region_zero_list ht (by kernel_rfl) ?_)
        refine (drop_zero Γ w wr.drew (unhide HXD) B O (unhide HS) m k1').mono ?_
        rintro e w1 ⟨rfl, hx1, hm1⟩
        have HX1 := hide hx1
        have HM1 := hide hm1
        clear hx1 hm1 k0 k2 k0' k1' k2' hm ht
        obtain ⟨n1, n2⟩ := dg_next g10 (unhide HMD)
        have e1 : IntKind.i16.wrap ((d : Int) + 1) = ((d + 1 : Nat) : Int) := by rw [Sf.wrap_in] <;> simp [IntKind.min, IntKind.max, IntKind.signed, IntKind.bits] <;> omega
        go_wp2_with fail
        refine ⟨⟨d + 1, m / 10, by simp, n1, unhide HM1, by omega, n2, unhide HX1⟩, ?_⟩
        rw [midOf_eq (unhide HM1), midOf_eq (unhide HMC)]
        omega
      · have HXD := hide (unhide HX).drew
        obtain ⟨_, k3, ⟨lw, rfl, _⟩, f3⟩ := (unhide HXD).cell (unhide HS).c3
        obtain ⟨_, k4, ⟨mw, rfl, _⟩, f4⟩ := (unhide HXD).cell (unhide HS).c4
        obtain ⟨_, k5, ⟨en, rfl, _⟩, f5⟩ := (unhide HXD).cell (unhide HS).c5
        obtain ⟨_, k6, ⟨la, rfl, la1, la2⟩, f6⟩ := (unhide HXD).cell (unhide HS).c6
        have htd : wr.drew.tape = fun _ _ => 0 := ht
        have HML := hide (mid_le (unhide HM0) (unhide HMD))
        cases en
        · clear HMD HMC
          go_wp2_with (refine wp_region_zero_list (by assumption) (by kernel_rfl) ?_)
          all_goals
            go_ret2
            first
              | exact ⟨_, _, rfl, unhide HM0, unhide HML, hd, (unhide HXD).drew⟩
              | exact ⟨_, _, rfl, (wr64' _).1, le64 (wr64' _), hd, (unhide HXD).drew⟩
              | exact ⟨_, _, rfl, by omega, by omega, hd, (unhide HXD).drew⟩
        · cases lw
          · clear HMD HMC
            go_wp2_with (refine wp_region_zero_list (by assumption) (by kernel_rfl) ?_)
            all_goals
              go_ret2
              first
                | exact ⟨_, _, rfl, unhide HM0, unhide HML, hd, (unhide HXD).drew⟩
                | exact ⟨_, _, rfl, (wr64' _).1, le64 (wr64' _), hd, (unhide HXD).drew⟩
                | exact ⟨_, _, rfl, by omega, by omega, hd, (unhide HXD).drew⟩
          · go_wp2_with (refine wp_region_zero_list ht (by kernel_rfl) ?_)
            go_loopw [3] (DgR Γ w B O) (fun _ wr => midOf B O wr)
            case atStart => exact ⟨d, m, rfl, hd, k1', unhide HM0, unhide HMD, unhide HXD⟩
            case round =>
              obtain ⟨d', m', hdd, hd', hm', hm0', hmd', hx'⟩ := hrel
              clear HM0 HMD HMC HML HX HXD k0 k2 k0' k1' k2' k3 k4 k5 k6 f0 f2 f3 f4 f5 f6 hm ht htd hd hm0 l1 l2 h1 h2 la1 la2
              clear hlq hhq
              subst hdd
              have ht : wr.tape = fun _ _ => 0 := hx'.wt.tape
              obtain ⟨_, k0, ⟨l, rfl, l1, l2⟩, f0⟩ := hx'.cell (unhide HS).c0
              obtain ⟨_, k3, ⟨lw, rfl, _⟩, f3⟩ := hx'.cell (unhide HS).c3
              obtain ⟨_, k4, ⟨mw, rfl, _⟩, f4⟩ := hx'.cell (unhide HS).c4
              obtain ⟨_, k5, ⟨en, rfl, _⟩, f5⟩ := hx'.cell (unhide HS).c5
              obtain ⟨_, k6, ⟨la, rfl, la1, la2⟩, f6⟩ := hx'.cell (unhide HS).c6
              obtain ⟨b, hb⟩ : ∃ b, (l % 10 == 0) = b := ⟨_, rfl⟩
              have k1' := hm'
              have HM2 := hide hm0'
              have HML := hide (mid_le hm0' hmd')
              have HMC := hide hm'
              have HMD := hide hmd'
              have HXD := hide hx'
              clear hx' hmd' hm' hm0'
              by_cases g10 : 10 ≤ m'
              · cases b
                · clear HMC HMD
                  go_wp2_with (refine wp_region_zero_list (by assumption) (by kernel_rfl) ?_)
                  all_goals
                    go_ret2
                    first
                      | exact ⟨_, _, rfl, unhide HM2, unhide HML, hd', (unhide HXD).drew⟩
                      | exact ⟨_, _, rfl, (wr64' _).1, le64 (wr64' _), hd', (unhide HXD).drew⟩
                      | exact ⟨_, _, rfl, by omega, by omega, hd', (unhide HXD).drew⟩
                · go_wp2_with fail
                  refine (drop_zero Γ w wr (unhide HXD) B O (unhide HS) m' k1').mono ?_
                  rintro e w1 ⟨rfl, hx1, hm1⟩
                  have HX1 := hide hx1
                  have HM1 := hide hm1
                  clear hx1 hm1 k0 k1' k3 k4 k5 k6 ht
                  obtain ⟨n1, n2⟩ := dg_next g10 (unhide HMD)
                  have e1 : IntKind.i16.wrap ((d' : Int) + 1) = ((d' + 1 : Nat) : Int) := by rw [Sf.wrap_in] <;> simp [IntKind.min, IntKind.max, IntKind.signed, IntKind.bits] <;> omega
                  go_wp2_with fail
                  refine ⟨⟨d' + 1, m' / 10, by simp, n1, unhide HM1, by omega, n2, unhide HX1⟩, ?_⟩
                  rw [midOf_eq (unhide HM1), midOf_eq (unhide HMC)]
                  omega
              · clear HMC HMD
                go_wp2_with (refine wp_region_zero_list (by assumption) (by kernel_rfl) ?_)
                all_goals
                  go_ret2
                  first
                    | exact ⟨_, _, rfl, unhide HM2, unhide HML, hd', (unhide HXD).drew⟩
                    | exact ⟨_, _, rfl, (wr64' _).1, le64 (wr64' _), hd', (unhide HXD).drew⟩
                    | exact ⟨_, _, rfl, by omega, by omega, hd', (unhide HXD).drew⟩
    · have HXD := hide (unhide HX).drew
      obtain ⟨_, k3, ⟨lw, rfl, _⟩, f3⟩ := (unhide HXD).cell (unhide HS).c3
      obtain ⟨_, k4, ⟨mw, rfl, _⟩, f4⟩ := (unhide HXD).cell (unhide HS).c4
      obtain ⟨_, k5, ⟨en, rfl, _⟩, f5⟩ := (unhide HXD).cell (unhide HS).c5
      obtain ⟨_, k6, ⟨la, rfl, la1, la2⟩, f6⟩ := (unhide HXD).cell (unhide HS).c6
      have htd : wr.drew.tape = fun _ _ => 0 := ht
      have HML := hide (mid_le (unhide HM0) (unhide HMD))
      cases en
      · clear HMD HMC
        go_wp2_with (refine wp_region_zero_list (by assumption) (by kernel_rfl) ?_)
        all_goals
          go_ret2
          first
            | exact ⟨_, _, rfl, unhide HM0, unhide HML, hd, (unhide HXD).drew⟩
            | exact ⟨_, _, rfl, (wr64' _).1, le64 (wr64' _), hd, (unhide HXD).drew⟩
            | exact ⟨_, _, rfl, by omega, by omega, hd, (unhide HXD).drew⟩
      · cases lw
        · clear HMD HMC
          go_wp2_with (refine wp_region_zero_list (by assumption) (by kernel_rfl) ?_)
          all_goals
            go_ret2
            first
              | exact ⟨_, _, rfl, unhide HM0, unhide HML, hd, (unhide HXD).drew⟩
              | exact ⟨_, _, rfl, (wr64' _).1, le64 (wr64' _), hd, (unhide HXD).drew⟩
              | exact ⟨_, _, rfl, by omega, by omega, hd, (unhide HXD).drew⟩
        · go_wp2_with (refine wp_region_zero_list ht (by kernel_rfl) ?_)
          go_loopw [3] (DgR Γ w B O) (fun _ wr => midOf B O wr)
          case atStart => exact ⟨d, m, rfl, hd, k1', unhide HM0, unhide HMD, unhide HXD⟩
          case round =>
            obtain ⟨d', m', hdd, hd', hm', hm0', hmd', hx'⟩ := hrel
            clear HM0 HMD HMC HML HX HXD k0 k2 k0' k1' k2' k3 k4 k5 k6 f0 f2 f3 f4 f5 f6 hm ht htd hd hm0 l1 l2 h1 h2 la1 la2
            clear hlq hhq
            subst hdd
            have ht : wr.tape = fun _ _ => 0 := hx'.wt.tape
            obtain ⟨_, k0, ⟨l, rfl, l1, l2⟩, f0⟩ := hx'.cell (unhide HS).c0
            obtain ⟨_, k3, ⟨lw, rfl, _⟩, f3⟩ := hx'.cell (unhide HS).c3
            obtain ⟨_, k4, ⟨mw, rfl, _⟩, f4⟩ := hx'.cell (unhide HS).c4
            obtain ⟨_, k5, ⟨en, rfl, _⟩, f5⟩ := hx'.cell (unhide HS).c5
            obtain ⟨_, k6, ⟨la, rfl, la1, la2⟩, f6⟩ := hx'.cell (unhide HS).c6
            obtain ⟨b, hb⟩ : ∃ b, (l % 10 == 0) = b := ⟨_, rfl⟩
            have k1' := hm'
            have HM2 := hide hm0'
            have HML := hide (mid_le hm0' hmd')
            have HMC := hide hm'
            have HMD := hide hmd'
            have HXD := hide hx'
            clear hx' hmd' hm' hm0'
            by_cases g10 : 10 ≤ m'
            · cases b
              · clear HMC HMD
                go_wp2_with (refine wp_region_zero_list (by assumption) (by kernel_rfl) ?_)
                all_goals
                  go_ret2
                  first
                    | exact ⟨_, _, rfl, unhide HM2, unhide HML, hd', (unhide HXD).drew⟩
                    | exact ⟨_, _, rfl, (wr64' _).1, le64 (wr64' _), hd', (unhide HXD).drew⟩
                    | exact ⟨_, _, rfl, by omega, by omega, hd', (unhide HXD).drew⟩
              · go_wp2_with fail
                refine (drop_zero Γ w wr (unhide HXD) B O (unhide HS) m' k1').mono ?_
                rintro e w1 ⟨rfl, hx1, hm1⟩
                have HX1 := hide hx1
                have HM1 := hide hm1
                clear hx1 hm1 k0 k1' k3 k4 k5 k6 ht
                obtain ⟨n1, n2⟩ := dg_next g10 (unhide HMD)
                have e1 : IntKind.i16.wrap ((d' : Int) + 1) = ((d' + 1 : Nat) : Int) := by rw [Sf.wrap_in] <;> simp [IntKind.min, IntKind.max, IntKind.signed, IntKind.bits] <;> omega
                go_wp2_with fail
                refine ⟨⟨d' + 1, m' / 10, by simp, n1, unhide HM1, by omega, n2, unhide HX1⟩, ?_⟩
                rw [midOf_eq (unhide HM1), midOf_eq (unhide HMC)]
                omega
            · clear HMC HMD
              go_wp2_with (refine wp_region_zero_list (by assumption) (by kernel_rfl) ?_)
              all_goals
                go_ret2
                first
                  | exact ⟨_, _, rfl, unhide HM2, unhide HML, hd', (unhide HXD).drew⟩
                  | exact ⟨_, _, rfl, (wr64' _).1, le64 (wr64' _), hd', (unhide HXD).drew⟩
                  | exact ⟨_, _, rfl, by omega, by omega, hd', (unhide HXD).drew⟩
end Go.Proofs.YgcoaaGreat.NatW
