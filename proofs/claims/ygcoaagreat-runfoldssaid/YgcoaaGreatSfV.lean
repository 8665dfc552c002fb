/-
  One run of one text: functions by hand: slow's read; their kinds.
-/
import Derived.Test.YgcoaaGreatSfU
import Derived.Test.YgcoaaGreatExF
set_option linter.unusedVariables false
set_option linter.unusedSimpArgs false
set_option maxRecDepth 20000
namespace Go.Proofs.YgcoaaGreat.NatW
open Go.RowKit
open Go.Proofs.YgcoaaGreat.Limbs
attribute [local go_sem] Go.Instr.field Go.asAgg

def ReR (Γ : Sf.Gam) (w : World) (s : ByteArray) (t4 : Value) (wr : World) : Prop := ∃ i : Nat, i ≤ s.size ∧ t4 = .int .i64 i ∧ Sf.Ex Γ w Γ wr
def ReI (s : ByteArray) (i : Nat) (t4 t5 t6 t7 : Value) : Prop := ∃ (j : Nat) (v p : Int), j ≤ 19 ∧ i + j ≤ s.size ∧ t7 = .int .i64 j ∧ t4 = .int .i64 ((i + j : Nat) : Int) ∧ t5 = .int .u64 v ∧ t6 = .int .u64 p ∧ Hid (U64 v) ∧ Hid (U64 p)

set_option maxHeartbeats 4000000 in
theorem read_zero (Γ : Sf.Gam) (w : World) (hw : Sf.Wt Γ w) (B O : Nat) (hB : BigT Γ B O) (s : ByteArray) (hs : s.size ≤ 1000000) :
    Calls Oaag.prog 207 #[.pointer (some ⟨B, O, none⟩), .string s] w fun e w' => e = .returned (.tuple #[]) ∧ Sf.Ex Γ w Γ w' := by
  have HX0 := hide (Sf.Ex.refl hw)
  go_enter Oaag.func207, Oaag.ntmps207
  go_wp2_with fail
  go_loopw [4] (ReR Γ w s) (fun t4 _ => s.size - (intOf t4).toNat)
  case atStart => exact ⟨0, by omega, rfl, unhide HX0⟩
  case round =>
    obtain ⟨i, hi, rfl, hx⟩ := hrel
    have HX := hide hx
    clear hx
    by_cases hl : i < s.size
    · go_wp2_with fail
      go_loop [4, 5, 6, 7] (ReI s i) (fun _ _ _ t7 => 19 - (intOf t7).toNat)
      case atStart => exact ⟨0, 0, 1, by omega, by omega, rfl, by simp, rfl, rfl, hide ⟨by decide, by decide⟩, hide ⟨by decide, by decide⟩⟩
      case round =>
        obtain ⟨j, v, p, hj, hij, rfl, rfl, rfl, rfl, uv, up⟩ := hrel
        by_cases hin : j < 19 ∧ i + j < s.size
        · have hix := index_str s (i + j) ((i + j : Nat) : Int) rfl hin.2
          have hbt := byt_lt s (i + j)
          obtain ⟨hj9, hjs⟩ := hin
          go_wp2_with fail
          exact ⟨⟨j + 1, _, _, by omega, by omega, by simp, by congr 1, rfl, rfl, hide (wr64' _), hide (wr64' _)⟩, by simp [intOf]; omega⟩
        · have hjn : j = 19 ∨ i + j = s.size := by omega
          have hj1 : 1 ≤ j := by omega
          clear hin
          rcases Nat.lt_or_ge j 19 with hj9 | hj9
          all_goals
            go_wp2_with fail
            refine (mulAdd_zero Γ wr (unhide HX).wt B O hB p v (unhide up) (unhide uv)).mono ?_
            rintro e w1 ⟨rfl, hx1⟩
            have HX1 := hide ((unhide HX).trans hx1)
            clear hx1 up uv
            go_wp2_with fail
            exact ⟨⟨i + j, by omega, rfl, unhide HX1⟩, by simp [intOf]; omega⟩
    · go_wp2_with fail
      refine bodyPost_nor (v := .tuple #[]) (by simp [results, Oaag.results207, go_sem]) rfl ⟨rfl, unhide HX⟩
end Go.Proofs.YgcoaaGreat.NatW

namespace Go.Proofs.YgcoaaGreat.SfW
open Go Go.Sf Go.Proofs.YgcoaaGreat.NatW

def bigP : D := .ptr (.cons (.int .i64 0 52) (D.rep (.int .u64 0 18446744073709551615) 52))

theorem big_of {Γ : Gam} {v : Value} (h : Sf.one Γ bigP v) : ∃ B O, v = .pointer (some ⟨B, O, none⟩) ∧ BigT Γ B O := by
  obtain ⟨a, rfl, hs, hp⟩ := h
  obtain ⟨B, O, sp⟩ := a
  dsimp only at hs
  subst hs
  refine ⟨B, O, rfl, hp 0 _ rfl, fun j hj => ?_⟩
  have := hp (j + 1) (.int .u64 0 18446744073709551615) (by
    show (D.rep _ 52).at j = _
    have : ∀ n i, i < n → (D.rep (.int .u64 0 18446744073709551615) n).at i = some (.int .u64 0 18446744073709551615) := by
      intro n
      induction n with
      | zero => intro i hi; omega
      | succ n ih =>
        intro i hi
        cases i with
        | zero => rfl
        | succ i => exact ih i (by omega)
    exact this 52 j hj)
  rw [show O + 1 + j = O + (j + 1) by omega]
  exact this

theorem con_hexDigit : Con Oaag.prog 336 (.cons (.int .u64 0 18446744073709551615) .nil) (.str 16) := by
  intro Γ w xs hw ha
  obtain ⟨v, rfl, n, rfl, h0, h1⟩ := args1 ha
  refine (hexDigit_any w n h0 h1).mono ?_
  rintro e w' ⟨s, rfl, hs, rfl⟩
  exact ⟨_, Γ, rfl, Ex.refl hw, s, rfl, hs⟩

theorem con_bits : Con Oaag.prog 355 (.cons bigP .nil) (.int .i64 0 3328) := by
  intro Γ w xs hw ha
  obtain ⟨v, rfl, hv⟩ := args1 ha
  obtain ⟨B, O, rfl, hB⟩ := big_of hv
  obtain ⟨_, k0, ⟨n0, rfl, hn0, hn52⟩, f0⟩ := (Sf.Ex.refl hw).cell hB.n
  obtain ⟨n, rfl⟩ := Int.eq_ofNat_of_zero_le hn0
  have hz : ∃ z, U64 z ∧ ∀ m : Nat, n = m + 1 → w.cell? ⟨B, O + 1 + m, none⟩ = some (.int .u64 z) := by
    cases n with
    | zero => exact ⟨0, ⟨by decide, by decide⟩, fun m hm => by omega⟩
    | succ m =>
      obtain ⟨_, k1, ⟨z, rfl, z0, z1⟩, _⟩ := (Sf.Ex.refl hw).cell (hB.w m (by omega))
      exact ⟨z, ⟨z0, by omega⟩, fun m' hm' => by
        have : m = m' := by omega
        subst this
        exact k1⟩
  obtain ⟨z, uz, hz⟩ := hz
  refine (bits_zero w hw.tape B O n (by omega) z uz k0 hz).mono ?_
  rintro e w' ⟨r, rfl, r0, r1, hb⟩
  exact ⟨_, Γ, rfl, (Sf.Ex.refl hw).below hb, r, rfl, r0, r1⟩

theorem con_mulAdd : Con Oaag.prog 208 (.cons bigP (.cons u64D (.cons u64D .nil))) (.tup .nil) := by
  intro Γ w xs hw ha
  obtain ⟨v1, v2, v3, rfl, h1, ⟨m, rfl, m0, m1⟩, ⟨c, rfl, c0, c1⟩⟩ := args3 ha
  obtain ⟨B, O, rfl, hB⟩ := big_of h1
  refine (mulAdd_zero Γ w hw B O hB m c ⟨m0, by omega⟩ ⟨c0, by omega⟩).mono ?_
  rintro e w' ⟨rfl, hx⟩
  exact ⟨_, Γ, rfl, hx, #[], rfl, rfl, fun j d hd => by cases j <;> cases hd⟩

theorem con_read : Con Oaag.prog 207 (.cons bigP (.cons (.str 1000000) .nil)) (.tup .nil) := by
  intro Γ w xs hw ha
  obtain ⟨v1, v2, rfl, h1, ⟨s, rfl, hs⟩⟩ := args2 ha
  obtain ⟨B, O, rfl, hB⟩ := big_of h1
  refine (read_zero Γ w hw B O hB s hs).mono ?_
  rintro e w' ⟨rfl, hx⟩
  exact ⟨_, Γ, rfl, hx, #[], rfl, rfl, fun j d hd => by cases j <;> cases hd⟩
end Go.Proofs.YgcoaaGreat.SfW
