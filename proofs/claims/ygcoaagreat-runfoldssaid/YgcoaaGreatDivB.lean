/-
  takeAway, putBack: the walks.
-/
import Derived.Test.YgcoaaGreatDivA
set_option linter.unusedVariables false
set_option linter.unusedSimpArgs false
namespace Go.Proofs.YgcoaaGreat.NatW
open Go.RowKit
open Go.Proofs.YgcoaaGreat.Limbs

/-- The world is as it was, but for block g. -/
structure But (g : Nat) (w w' : World) : Prop where
  os : w'.os = w.os
  tape : w'.tape = w.tape
  output : w'.output = w.output
  size : w'.heap.size = w.heap.size
  block : ∀ k, k ≠ g → w'.heap[k]? = w.heap[k]?

theorem But.refl (g : Nat) (w : World) : But g w w := ⟨rfl, rfl, rfl, rfl, fun _ _ => rfl⟩
theorem But.trans {g : Nat} {a b c : World} (h : But g a b) (k : But g b c) : But g a c :=
  ⟨k.os.trans h.os, k.tape.trans h.tape, k.output.trans h.output, k.size.trans h.size, fun i hi => (k.block i hi).trans (h.block i hi)⟩
theorem But.setCell {g : Nat} {a w : World} (h : But g a w) (i : Nat) (u : Value) : But g a (w.setCell ⟨g, i, none⟩ u) :=
  h.trans ⟨rfl, rfl, rfl, by simp [World.setCell], fun k hk => heap_setCell_other _ _ _ _ hk⟩
theorem But.drewN {g : Nat} {a w : World} (h : But g a w) (n : Nat) : But g a (w.drewN n) := h.trans ⟨rfl, rfl, rfl, rfl, fun _ _ => rfl⟩
theorem But.below {g B : Nat} {w w' : World} (h : But g w w') (hB : B ≤ g) : Below B w w' :=
  ⟨h.os, h.tape, h.output, by rw [h.size]; exact Nat.le_refl _, fun k hk => h.block k (by omega)⟩
theorem But.sl {g : Nat} {w w' : World} (h : But g w w') {a : Option Addr} {cap : Nat} {l : List Nat} (hs : Sl w a cap l) (hne : ∀ b off, a = some ⟨b, off, none⟩ → b ≠ g) : Sl w' a cap l :=
  ⟨hs.le, hs.nil, hs.lt, fun i hi => by
    obtain ⟨b, off, e, hc⟩ := hs.cell i hi
    exact ⟨b, off, e, (World.cell?_of_block (a := ⟨b, off + i, none⟩) (h.block b (hne b off e))).trans hc⟩⟩
theorem But.row {g k : Nat} {w w' : World} {l : List Nat} (h : But g w w') (hr : Row w k l) (hne : k ≠ g) : Row w' k l := (h.block k hne).trans hr

theorem and_low (t : Nat) (ht : t < 18446744073709551616) : bits .and .u64 (t : Int) 4294967295 = ((t % 4294967296 : Nat) : Int) := by
  have h := u64_and_nat t 4294967295 ht (by omega)
  have e : t &&& 4294967295 = t % 4294967296 := Nat.and_two_pow_sub_one_eq_mod t 32
  rw [e] at h
  exact h

theorem sub_limb (U t bo : Nat) (T : Int) (hT : T = (t : Int)) (hU : U < 4294967296) (ht : t < 18446744073709551616) (hb : bo ≤ 1) :
    ∃ u' b' : Nat, IntKind.u64.wrap (IntKind.u64.wrap ((U : Int) - bits .and .u64 T 4294967295) - (bo : Int)) % 4294967296 = (u' : Int) ∧
      IntKind.u64.wrap (IntKind.u64.wrap ((U : Int) - bits .and .u64 T 4294967295) - (bo : Int)) / 9223372036854775808 = (b' : Int) ∧ b' ≤ 1 ∧ u' < 4294967296 ∧ u' + t % 4294967296 + bo = U + 4294967296 * b' := by
  rw [hT, and_low t ht, IntKind.wrap_u64, IntKind.wrap_u64]
  have hl : t % 4294967296 < 4294967296 := Nat.mod_lt _ (by omega)
  obtain ⟨r, hr⟩ : ∃ r, r = t % 4294967296 := ⟨_, rfl⟩
  rw [← hr] at hl ⊢
  by_cases h : r + bo ≤ U
  · exact ⟨U - r - bo, 0, by omega, by omega, by omega, by omega, by omega⟩
  · exact ⟨U + 4294967296 - r - bo, 1, by omega, by omega, by omega, by omega, by omega⟩

theorem carry_lt (C dg X : Nat) (hC : C < 4294967296) (h : dg * X ≤ 18446744065119617025) : (C + dg * X) / 4294967296 < 4294967296 := by omega

set_option maxRecDepth 20000 in
set_option maxHeartbeats 1000000 in
theorem takeAway_any (w : World) (g j n capu : Nat) (ul : List Nat) (hr : Row w g ul) (hlt : Lt ul) (hj : j + (n + 1) ≤ ul.length) (hub : ul.length ≤ 70368744177664)
    (b2 o2 cap2 : Nat) (D : List Nat) (hD : Sl w (some ⟨b2, o2, none⟩) cap2 D) (hDn : D.length = n) (hne : b2 ≠ g) (dg : Nat) (hdg : dg < 4294967296) :
    Calls Oaag.prog 212 #[.slice (some ⟨g, j, none⟩) (n + 1) capu, .slice (some ⟨b2, o2, none⟩) D.length cap2, .int .u32 dg] w fun e w' =>
      ∃ ul' bo, e = .returned (.bool (decide (bo = 1))) ∧ bo ≤ 1 ∧ But g w w' ∧ Row w' g ul' ∧ ul'.length = ul.length ∧ Lt ul' ∧ val ul' + 4294967296 ^ j * (dg * val D) = val ul + 4294967296 ^ (j + (n + 1)) * bo ∧ ∀ t, j + (n + 1) ≤ t → ul'.getD t 0 = ul.getD t 0 := by
  subst hDn
  go_enter Oaag.func212, Oaag.ntmps212
  go_wp2
  go_loopw [13, 7, 8] (fun t c b wr => ∃ i C bo : Nat, i ≤ D.length + 1 ∧ C < 4294967296 ∧ bo ≤ 1 ∧ t = .int .i64 i ∧ c = .int .u64 C ∧ b = .int .u64 bo ∧ (i = D.length + 1 → C = 0) ∧ But g w wr ∧ ∃ ul', Row wr g ul' ∧ ul'.length = ul.length ∧ Lt ul' ∧ val ul' + 4294967296 ^ j * (dg * val (D.take i)) = val ul + 4294967296 ^ (j + i) * (C + bo) ∧ ∀ t, j + i ≤ t → ul'.getD t 0 = ul.getD t 0)
    (fun t _ _ _ => D.length + 1 - (intOf t).toNat)
  case atStart => exact ⟨0, 0, 0, Nat.zero_le _, by omega, by omega, rfl, rfl, rfl, fun _ => rfl, But.refl _ _, ul, hr, rfl, hlt, by simp [val], fun t _ => rfl⟩
  case round =>
    obtain ⟨i, C, bo, hi, hC, hbo, rfl, rfl, rfl, hC0, hbut, ul', hr', hlen, hlt', hv, hsame⟩ := hrel
    have HC0 := hide hC0
    have HV := hide hv
    have HS := hide hsame
    have HN := hide hlen
    have HR := hide hr
    clear hC0 hv hsame hr
    by_cases hil : i < D.length + 1
    · have c1 := hr'.cell (j + i) (by omega)
      have f1 := hr'.free (j + i)
      have p1 := getD_lt ul' hlt' (j + i)
      clear hlen
      obtain ⟨U, hU⟩ : ∃ U, U = ul'.getD (j + i) 0 := ⟨_, rfl⟩
      rw [← hU] at c1 p1
      have HU := hide hU
      clear hU
      by_cases hid : i < D.length
      · have hD' := hbut.sl hD (fun b off e => by cases e; exact hne)
        obtain ⟨b3, o3, e3, hc3⟩ := hD'.row (by omega)
        cases e3
        have c2 := hc3 i hid
        have p2 := getD_lt D hD.lt i
        clear hc3 hD'
        obtain ⟨X, hX⟩ : ∃ X, X = D.getD i 0 := ⟨_, rfl⟩
        rw [← hX] at c2 p2
        have HX := hide hX
        clear hX
        have hp := prod_lt dg X hdg p2
        have hp1 : (dg : Int) * (X : Int) ≤ 18446744065119617025 := by rw [← Int.natCast_mul]; omega
        have hp0 : 0 ≤ (dg : Int) * (X : Int) := by rw [← Int.natCast_mul]; omega
        have HP := hide hp
        clear hp
        go_wp2
        obtain ⟨u', b', e1, e2, hb', hu', heq⟩ := sub_limb U (C + dg * X) bo ((C : Int) + (dg : Int) * (X : Int)) (by simp) p1 (by have := unhide HP; omega) hbo
        rw [e1, e2]
        go_roundw
        case rel =>
          refine ⟨i + 1, (C + dg * X) / 4294967296, b', by omega, carry_lt C dg X hC (unhide HP), hb', by simp, by simp, rfl, by omega, hbut.setCell _ _, _, hr'.put (j + i) u' _ rfl, by simpa using unhide HN, Lt_set hlt' _ _ hu', ?_, ?_⟩
          · exact take_step_val ul' D (val ul) j i dg C bo (C + dg * X) u' _ b' (j + i) rfl (by rw [unhide HN]; omega) (by rw [← unhide HU]; exact heq) rfl (by rw [← unhide HX]) (take_more D i) (unhide HV)
          · intro t ht
            rw [gset_ne _ _ _ _ (by omega)]
            exact unhide HS t (by omega)
        case measure => simp [intOf]; omega
      · have hid' : i = D.length := by omega
        subst hid'
        go_wp2
        obtain ⟨u', b', e1, e2, hb', hu', heq⟩ := sub_limb U C bo (C : Int) rfl p1 (by omega) hbo
        rw [e1, e2]
        go_roundw
        case rel =>
          refine ⟨D.length + 1, C / 4294967296, b', by omega, by omega, hb', by simp, by simp, rfl, by omega, hbut.setCell _ _, _, hr'.put (j + D.length) u' _ rfl, by simpa using unhide HN, Lt_set hlt' _ _ hu', ?_, ?_⟩
          · exact take_step_val ul' D (val ul) j D.length dg C bo C u' _ b' (j + D.length) rfl (by rw [unhide HN]; omega) (by rw [← unhide HU]; exact heq) rfl (by rw [getD_beyond D _ (Nat.le_refl _)]; simp) (take_more D _) (unhide HV)
          · intro t ht
            rw [gset_ne _ _ _ _ (by omega)]
            exact unhide HS t (by omega)
        case measure => simp [intOf]
    · have hi' : i = D.length + 1 := by omega
      subst hi'
      go_wp2
      go_ret
      have hC0 : C = 0 := by simpa using unhide HC0
      subst hC0
      refine ⟨ul', bo, ret_bool ?_, hbo, hbut, hr', unhide HN, hlt', ?_, unhide HS⟩
      · rw [Bool.eq_iff_iff]; simp; omega
      · have := unhide HV
        rw [take_all D _ (by omega), Nat.zero_add] at this
        exact this

set_option maxRecDepth 20000 in
set_option maxHeartbeats 1000000 in
theorem putBack_any (w : World) (g j n capu : Nat) (ul : List Nat) (hr : Row w g ul) (hlt : Lt ul) (hj : j + (n + 1) ≤ ul.length) (hub : ul.length ≤ 70368744177664)
    (b2 o2 cap2 : Nat) (D : List Nat) (hD : Sl w (some ⟨b2, o2, none⟩) cap2 D) (hDn : D.length = n) (hne : b2 ≠ g) :
    Calls Oaag.prog 213 #[.slice (some ⟨g, j, none⟩) (n + 1) capu, .slice (some ⟨b2, o2, none⟩) D.length cap2] w fun e w' => e = .returned (.tuple #[]) ∧
      ∃ ul' co, But g w w' ∧ Row w' g ul' ∧ ul'.length = ul.length ∧ Lt ul' ∧ val ul' + 4294967296 ^ (j + (n + 1)) * co = val ul + 4294967296 ^ j * val D ∧ ∀ t, j + (n + 1) ≤ t → ul'.getD t 0 = ul.getD t 0 := by
  subst hDn
  go_enter Oaag.func213, Oaag.ntmps213
  go_wp2
  go_loopw [8, 4] (fun t c wr => ∃ i C : Nat, i ≤ D.length + 1 ∧ C < 4294967296 ∧ t = .int .i64 i ∧ c = .int .u64 C ∧ But g w wr ∧ ∃ ul', Row wr g ul' ∧ ul'.length = ul.length ∧ Lt ul' ∧ val ul' + 4294967296 ^ (j + i) * C = val ul + 4294967296 ^ j * val (D.take i) ∧ ∀ t, j + i ≤ t → ul'.getD t 0 = ul.getD t 0)
    (fun t _ _ => D.length + 1 - (intOf t).toNat)
  case atStart => exact ⟨0, 0, Nat.zero_le _, by omega, rfl, rfl, But.refl _ _, ul, hr, rfl, hlt, by simp [val], fun t _ => rfl⟩
  case round =>
    obtain ⟨i, C, hi, hC, rfl, rfl, hbut, ul', hr', hlen, hlt', hv, hsame⟩ := hrel
    have HV := hide hv
    have HS := hide hsame
    have HN := hide hlen
    have HR := hide hr
    clear hv hsame hr
    by_cases hil : i < D.length + 1
    · have c1 := hr'.cell (j + i) (by omega)
      have f1 := hr'.free (j + i)
      have p1 := getD_lt ul' hlt' (j + i)
      clear hlen
      obtain ⟨U, hU⟩ : ∃ U, U = ul'.getD (j + i) 0 := ⟨_, rfl⟩
      rw [← hU] at c1 p1
      have HU := hide hU
      clear hU
      by_cases hid : i < D.length
      · have hD' := hbut.sl hD (fun b off e => by cases e; exact hne)
        obtain ⟨b3, o3, e3, hc3⟩ := hD'.row (by omega)
        cases e3
        have c2 := hc3 i hid
        have p2 := getD_lt D hD.lt i
        clear hc3 hD'
        obtain ⟨X, hX⟩ : ∃ X, X = D.getD i 0 := ⟨_, rfl⟩
        rw [← hX] at c2 p2
        have HX := hide hX
        clear hX
        go_wp2
        go_roundw
        case rel =>
          refine ⟨i + 1, (C + U + X) / 4294967296, by omega, by omega, by simp, by go_num, hbut.setCell _ _, _, hr'.put (j + i) ((C + U + X) % 4294967296) _ (by omega), by simpa using unhide HN, Lt_set hlt' _ _ (by omega), ?_, ?_⟩
          · exact back_step_val ul' D (val ul) j i C (C + U + X) (j + i) rfl (by rw [unhide HN]; omega) (by rw [← unhide HU, ← unhide HX]) (take_more D i) (unhide HV)
          · intro t ht
            rw [gset_ne _ _ _ _ (by omega)]
            exact unhide HS t (by omega)
        case measure => simp [intOf]; omega
      · have hid' : i = D.length := by omega
        subst hid'
        go_wp2
        go_roundw
        case rel =>
          refine ⟨D.length + 1, (C + U) / 4294967296, by omega, by omega, by simp, by go_num, hbut.setCell _ _, _, hr'.put (j + D.length) ((C + U) % 4294967296) _ (by omega), by simpa using unhide HN, Lt_set hlt' _ _ (by omega), ?_, ?_⟩
          · exact back_step_val ul' D (val ul) j D.length C (C + U) (j + D.length) rfl (by rw [unhide HN]; omega) (by rw [← unhide HU, getD_beyond D _ (Nat.le_refl _)]; simp) (take_more D _) (unhide HV)
          · intro t ht
            rw [gset_ne _ _ _ _ (by omega)]
            exact unhide HS t (by omega)
        case measure => simp [intOf]
    · have hi' : i = D.length + 1 := by omega
      subst hi'
      go_wp2
      go_end0
      refine ⟨rfl, ul', C, hbut, hr', unhide HN, hlt', ?_, unhide HS⟩
      have := unhide HV
      rw [take_all D _ (by omega)] at this
      exact this

end Go.Proofs.YgcoaaGreat.NatW
