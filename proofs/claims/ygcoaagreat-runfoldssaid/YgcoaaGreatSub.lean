/-
  Sub, Sqrt: the walks.
-/
import Derived.Test.YgcoaaGreatAdd
set_option linter.unusedVariables false
set_option linter.unusedSimpArgs false
namespace Go.Proofs.YgcoaaGreat.NatW
open Go.RowKit
open Go.Proofs.YgcoaaGreat.Limbs

theorem sub_two (X bo Y : Nat) (hX : X < 4294967296) (hY : Y < 4294967296) (hb : bo ≤ 1) :
    ∃ u' b' : Nat, IntKind.u64.wrap (IntKind.u64.wrap ((X : Int) - (bo : Int)) - (Y : Int)) % 4294967296 = (u' : Int) ∧ IntKind.u64.wrap (IntKind.u64.wrap ((X : Int) - (bo : Int)) - (Y : Int)) / 9223372036854775808 = (b' : Int) ∧ b' ≤ 1 ∧ u' < 4294967296 ∧ u' + Y + bo = X + 4294967296 * b' := by
  rw [IntKind.wrap_u64, IntKind.wrap_u64]
  by_cases h : Y + bo ≤ X
  · exact ⟨X - Y - bo, 0, by omega, by omega, by omega, by omega, by omega⟩
  · exact ⟨X + 4294967296 - Y - bo, 1, by omega, by omega, by omega, by omega, by omega⟩
theorem sub_one' (X bo : Nat) (hX : X < 4294967296) (hb : bo ≤ 1) :
    ∃ u' b' : Nat, IntKind.u64.wrap ((X : Int) - (bo : Int)) % 4294967296 = (u' : Int) ∧ IntKind.u64.wrap ((X : Int) - (bo : Int)) / 9223372036854775808 = (b' : Int) ∧ b' ≤ 1 ∧ u' < 4294967296 ∧ u' + 0 + bo = X + 4294967296 * b' := by
  rw [IntKind.wrap_u64]
  by_cases h : bo ≤ X
  · exact ⟨X - bo, 0, by omega, by omega, by omega, by omega, by omega⟩
  · exact ⟨X + 4294967296 - bo, 1, by omega, by omega, by omega, by omega, by omega⟩

set_option maxRecDepth 20000 in
set_option maxHeartbeats 1000000 in
theorem sub_any (w : World) (a : Option Addr) (cap : Nat) (l : List Nat) (x : Nat) (hx : val l = x) (h : Sl w a cap l)
    (a2 : Option Addr) (cap2 : Nat) (l2 : List Nat) (y : Nat) (hy : val l2 = y) (h2 : Sl w a2 cap2 l2) (hb : l.length ≤ 70368744177664) (hb2 : l2.length ≤ 70368744177664) :
    Calls Oaag.prog 31 #[.slice a l.length cap, .slice a2 l2.length cap2] w fun e w' => ∃ a' cap', e = .returned (.tuple #[.slice a' (lim (x - y)).length cap', .bool (decide (y ≤ x))]) ∧ Res w.heap.size w' a' cap' (x - y) ∧ Below w.heap.size w w' := by
  have ht1 := trim_any w a cap l h (by omega)
  have ht2 := trim_any w a2 cap2 l2 h2 (by omega)
  have hle := lim_length_le' l h.lt
  have hle2 := lim_length_le' l2 h2.lt
  rw [hx] at ht1 hle
  rw [hy] at ht2 hle2
  have HT1 := hide ht1
  have HT2 := hide ht2
  clear ht1 ht2
  go_enter Oaag.func31, Oaag.ntmps31
  go_wp2_with fail
  refine (unhide HT1).mono ?_; rintro e w' ⟨rfl, a1', cap1', rfl, ht1⟩
  go_wp2_with fail
  refine (unhide HT2).mono ?_; rintro e w' ⟨rfl, a2', cap2', rfl, ht2⟩
  rw [← hx] at ht1
  rw [← hy] at ht2
  have s1 := h.trim ht1
  have s2 := h2.trim ht2
  rw [hx] at s1
  rw [hy] at s2
  clear HT1 HT2 ht1 ht2 h h2 hx hy
  have hcmp := cmp_any w a1' cap1' _ x (val_lim x) s1 (by omega) a2' cap2' _ y (val_lim y) s2 (by omega)
  have HCM := hide hcmp
  clear hcmp
  go_wp2_with fail
  refine (unhide HCM).mono ?_
  rintro e w0 ⟨hb0, rfl⟩
  clear HCM
  have hsz0 := hb0.size
  by_cases hlt : x < y
  · have ec : cmpI x y = -1 := by simp [cmpI, hlt]
    rw [ec]
    have hxy : x - y = 0 := by omega
    have hd : decide (y ≤ x) = false := decide_eq_false (by omega)
    have HXY := hide hxy
    have HD := hide hd
    clear hxy hd ec
    go_wp2
    go_ret2
    rw [unhide HXY, unhide HD]
    exact ⟨none, 0, rfl, Res.nil, hb0⟩
  · have ec : 0 ≤ cmpI x y := by
      simp only [cmpI, if_neg hlt]; split <;> omega
    have ecd : decide (cmpI x y < 0) = false := decide_eq_false (by omega)
    have hd : decide (y ≤ x) = true := decide_eq_true (by omega)
    have hlm := lim_length_mono y x (by omega)
    have t1 := s1.later hb0
    have t2 := s2.later hb0
    have hvx := val_lim x
    have hvy := val_lim y
    obtain ⟨L, hL⟩ : ∃ L, L = lim x := ⟨_, rfl⟩
    obtain ⟨M, hM⟩ : ∃ M, M = lim y := ⟨_, rfl⟩
    rw [← hL] at t1 hle hvx hlm ⊢
    rw [← hM] at t2 hle2 hvy hlm ⊢
    have HVX := hide hvx
    have HVY := hide hvy
    have HD := hide hd
    have HLT := hide hlt
    have hbound : L.length ≤ 70368744177664 := by omega
    clear hL hM hvx hvy hd hlt hle hle2 s1 s2 ec
    go_wp2_with (at_make; refine wpList_mk _ rfl (.tmp 19) rfl L.length _ rfl rfl (by omega) ?_; intro w1 hr1 hb1)
    have HR1 := hide hr1
    have HB1 := hide hb1
    clear hr1 hb1
    go_loopw [23, 7] (fun t c wr => ∃ k bo : Nat, k ≤ L.length ∧ bo ≤ 1 ∧ t = .int .i64 k ∧ c = .int .u64 bo ∧ Below w0.heap.size w0 wr ∧ ∃ cl, Row wr w0.heap.size cl ∧ cl.length = L.length ∧ Lt cl ∧ val cl + val (M.take k) = val (L.take k) + 4294967296 ^ k * bo ∧ ∀ t, k ≤ t → cl.getD t 0 = 0)
      (fun t _ _ => L.length - (intOf t).toNat)
    case atStart => exact ⟨0, 0, Nat.zero_le _, by omega, rfl, rfl, unhide HB1, _, unhide HR1, by simp, Lt_replicate _, by simp [val_replicate, val], fun t _ => getD_replicate _ _⟩
    case round =>
      clear HR1 HB1
      obtain ⟨k, bo, hk, hbo, rfl, rfl, hbw, cl, hr, hcl, hltc, hv, hzero⟩ := hrel
      have HV := hide hv
      have HZ := hide hzero
      have HC := hide hcl
      clear hv hzero
      by_cases hkl : k < L.length
      · obtain ⟨b1, o1, rfl, -⟩ := t1.row (by omega)
        have c1 := t1.at_ hbw k hkl
        have p1 := getD_lt L t1.lt k
        have c3 := hr.cell k (by omega)
        have f3 := hr.free k
        obtain ⟨X, hX⟩ : ∃ X, X = L.getD k 0 := ⟨_, rfl⟩
        obtain ⟨Z, hZ⟩ : ∃ Z, Z = cl.getD k 0 := ⟨_, rfl⟩
        rw [← hX] at c1 p1
        rw [← hZ] at c3
        have HX := hide hX
        clear hX hZ hcl
        by_cases hkm : k < M.length
        · obtain ⟨b2, o2, rfl, -⟩ := t2.row (by omega)
          have c2 := t2.at_ hbw k hkm
          have p2 := getD_lt M t2.lt k
          obtain ⟨Y, hY⟩ : ∃ Y, Y = M.getD k 0 := ⟨_, rfl⟩
          rw [← hY] at c2 p2
          have HY := hide hY
          clear hY
          go_wp2
          obtain ⟨u', b', e1, e2, hb', hu', heq⟩ := sub_two X bo Y p1 p2 hbo
          rw [e1, e2]
          go_roundw
          case rel =>
            have hcl := unhide HC
            refine ⟨k + 1, b', by omega, hb', by simp, rfl, below_store hbw (Nat.le_refl _) _, _, hr.put k u' _ rfl, by simpa using hcl, Lt_set hltc _ _ hu', ?_, ?_⟩
            · exact sub_round cl L M k bo u' b' (by omega) (unhide HZ k (Nat.le_refl _)) (by rw [← unhide HX, ← unhide HY]; exact heq) (unhide HV)
            · intro t ht
              rw [gset_ne _ _ _ _ (by omega)]
              exact unhide HZ t (by omega)
          case measure => simp [intOf]; omega
        · go_wp2
          obtain ⟨u', b', e1, e2, hb', hu', heq⟩ := sub_one' X bo p1 hbo
          rw [e1, e2]
          go_roundw
          case rel =>
            have hcl := unhide HC
            refine ⟨k + 1, b', by omega, hb', by simp, rfl, below_store hbw (Nat.le_refl _) _, _, hr.put k u' _ rfl, by simpa using hcl, Lt_set hltc _ _ hu', ?_, ?_⟩
            · exact sub_round cl L M k bo u' b' (by omega) (unhide HZ k (Nat.le_refl _)) (by rw [← unhide HX, getD_beyond M k (by omega)]; exact heq) (unhide HV)
            · intro t ht
              rw [gset_ne _ _ _ _ (by omega)]
              exact unhide HZ t (by omega)
          case measure => simp [intOf]; omega
      · have hk' : k = L.length := by omega
        subst hk'
        have hv2 : val cl = x - y := by
          have e := unhide HV
          rw [take_all L _ (Nat.le_refl _), take_all M _ hlm, unhide HVX, unhide HVY] at e
          exact sub_end cl x y L.length bo hltc hcl e hbo (by have := unhide HLT; omega)
        have ht := trim_any _ _ _ _ (hr.sl hltc) (by omega)
        rw [hcl, hv2] at ht
        have HT := hide ht
        have HV2 := hide hv2
        clear ht hv2 hcl
        go_wp2_with fail
        refine (unhide HT).mono ?_; rintro e w' ⟨rfl, a', cap', rfl, ht⟩
        go_wp2
        go_ret2
        rw [unhide HD]
        refine ⟨a', cap', rfl, ?_, hb0.trans (hbw.mono hsz0)⟩
        rw [← unhide HV2]
        rw [← unhide HC, ← unhide HV2] at ht
        exact Res.of_trim hr hltc hsz0 ht

end Go.Proofs.YgcoaaGreat.NatW
