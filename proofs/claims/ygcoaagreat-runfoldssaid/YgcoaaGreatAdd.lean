/-
  Succ, Add, Sub: the walks.
-/
import Derived.Test.YgcoaaGreatDivMod
import Derived.Test.YgcoaaGreatAddPlain
set_option linter.unusedVariables false
set_option linter.unusedSimpArgs false
namespace Go.Proofs.YgcoaaGreat.NatW
open Go.RowKit
open Go.Proofs.YgcoaaGreat.Limbs

set_option maxRecDepth 20000 in
set_option maxHeartbeats 1000000 in
theorem succ_any (w : World) (a : Option Addr) (cap : Nat) (l : List Nat) (x : Nat) (hx : val l = x) (h : Sl w a cap l) (hb : l.length + 1 ≤ 70368744177664) :
    Calls Oaag.prog 414 #[.slice a l.length cap] w fun e w' => ∃ a' cap', e = .returned (.slice a' (lim (x + 1)).length cap') ∧ Res w.heap.size w' a' cap' (x + 1) ∧ Below w.heap.size w w' := by
  have hle := lim_length_le' l h.lt
  go_enter Oaag.func414, Oaag.ntmps414
  go_wp2_with fail
  refine (trim_any _ a cap l h (by omega)).mono ?_; rintro e w' ⟨rfl, a', cap', rfl, ht⟩
  have s1 := h.trim ht
  rw [hx] at s1 hle ⊢
  have hxl := lt_of_lim_length x
  have hvl := val_lim x
  clear ht h
  obtain ⟨L, hL⟩ : ∃ L, L = lim x := ⟨_, rfl⟩
  rw [← hL] at s1 hle hxl hvl ⊢
  have HXL := hide hxl
  have HVL := hide hvl
  clear hL hx hxl hvl
  go_wp2_with (first
    | (at_make; refine wpList_mk _ rfl (.tmp 9) rfl (L.length + 1) _ rfl (by omega) (by omega) ?_; intro w1 hr1 hb1)
    | (refine wpList_cp rfl (.tmp 11) (.tmp 12) 53 53 rfl Oaag.underlying53 _ _ _ rfl hr1 _ _ L _ rfl rfl (s1.later hb1) (by omega) w.heap.size w hb1 (Nat.le_refl _) ?_; intro w2 hr2 hb2))
  have e1 : L.length + 1 - L.length = 1 := by omega
  rw [e1] at hr2
  have HR2 := hide hr2
  have HB2 := hide hb2
  clear hr1 hb1 hr2 hb2 e1
  go_loopw [16] (fun t wr => ∃ i : Nat, i ≤ L.length + 1 ∧ t = .int .i64 i ∧ Below w.heap.size w wr ∧ ∃ cl, Row wr w.heap.size cl ∧ cl.length = L.length + 1 ∧ Lt cl ∧ val cl + 4294967296 ^ i = x + 1)
    (fun t _ => L.length + 1 - (intOf t).toNat)
  case atStart =>
    refine ⟨0, by omega, rfl, unhide HB2, _, unhide HR2, by simp, Lt_append s1.lt (Lt_replicate _), ?_⟩
    rw [val_append, val_replicate, unhide HVL]; simp
  case round =>
    clear HB2 HR2
    obtain ⟨i, hi, rfl, hbw, cl, hr, hcl, hlt, hv⟩ := hrel
    have HV := hide hv
    have HC := hide hcl
    clear hv
    by_cases hil : i < L.length + 1
    · have c1 := hr.cell i (by omega)
      have f1 := hr.free i
      have p1 := getD_lt cl hlt i
      obtain ⟨X, hX⟩ : ∃ X, X = cl.getD i 0 := ⟨_, rfl⟩
      rw [← hX] at c1 p1
      have HX := hide hX
      clear hX
      by_cases hful : X + 1 = 4294967296
      · have hw1 : IntKind.u32.wrap ((X : Int) + 1) = 0 := by rw [IntKind.wrap_u32']; omega
        have hw2 : ((X : Int) + 1) % 4294967296 = 0 := by omega
        have HF := hide hful
        clear hful hcl
        go_wp2
        go_roundw
        case rel =>
          have hcl := unhide HC
          exact ⟨i + 1, by omega, by simp, below_store hbw (Nat.le_refl _) _, _, hr.put i 0 0 rfl, by simpa using hcl, Lt_set hlt _ _ (by omega), succ_go cl i X (x + 1) (by omega) (unhide HX) (unhide HF) (unhide HV)⟩
        case measure => simp [intOf]; omega
      · have hX2 : X < 4294967295 := by omega
        have hv2 : val (cl.set i (X + 1)) = x + 1 := succ_done cl i X (x + 1) (by omega) (unhide HX) (unhide HV)
        have HV2 := hide hv2
        clear hful hv2
        have hr2 := hr.put i (X + 1) ((X : Int) + 1) (by omega)
        have hlt2 := Lt_set hlt i (X + 1) (by omega)
        have ht := trim_any _ _ _ _ (hr2.sl hlt2) (by simp; omega)
        rw [List.length_set, hcl, unhide HV2] at ht
        have HT := hide ht
        have HR2 := hide hr2
        clear ht hr2 hcl
        go_wp2_with fail
        refine (unhide HT).mono ?_; rintro e w' ⟨rfl, a', cap', rfl, ht⟩
        go_wp2
        go_ret
        refine ⟨a', cap', rfl, ?_, below_store hbw (Nat.le_refl _) _⟩
        have hlen : (cl.set i (X + 1)).length = L.length + 1 := by simpa using unhide HC
        have hv2 := unhide HV2
        rw [← hv2]
        rw [← hlen, ← hv2] at ht
        exact Res.of_trim (unhide HR2) hlt2 (Nat.le_refl _) ht
    · exfalso
      have hi' : i = L.length + 1 := by omega
      subst hi'
      exact succ_not cl x L.length (unhide HXL) (unhide HV)

set_option maxRecDepth 20000 in
set_option maxHeartbeats 1000000 in
theorem add_ge (w : World) (a : Option Addr) (cap : Nat) (l : List Nat) (x : Nat) (hx : val l = x) (h : Sl w a cap l)
    (a2 : Option Addr) (cap2 : Nat) (l2 : List Nat) (y : Nat) (hy : val l2 = y) (h2 : Sl w a2 cap2 l2) (hb : l.length + 1 ≤ 70368744177664) (hb2 : l2.length + 1 ≤ 70368744177664) (hcond : (lim y).length ≤ (lim x).length) :
    Calls Oaag.prog 80 #[.slice a l.length cap, .slice a2 l2.length cap2] w fun e w' => ∃ a' cap', e = .returned (.slice a' (lim (x + y)).length cap') ∧ Res w.heap.size w' a' cap' (x + y) ∧ Below w.heap.size w w' := by
  have ht1 := trim_any w a cap l h (by omega)
  have ht2 := trim_any w a2 cap2 l2 h2 (by omega)
  have hle := lim_length_le' l h.lt
  have hle2 := lim_length_le' l2 h2.lt
  rw [hx] at ht1 hle
  rw [hy] at ht2 hle2
  have HT1 := hide ht1
  have HT2 := hide ht2
  clear ht1 ht2
  go_enter Oaag.func80, Oaag.ntmps80
  go_wp2_with fail
  refine (unhide HT1).mono ?_; rintro e w' ⟨rfl, a1', cap1', rfl, ht1⟩
  go_wp2_with fail
  refine (unhide HT2).mono ?_; rintro e w' ⟨rfl, a2', cap2', rfl, ht2⟩
  rw [← hx] at ht1
  rw [← hy] at ht2
  have s1 := h.trim ht1
  have s2 := h2.trim ht2
  rw [hx] at s1
  rw [hy] at s2
  clear HT1 HT2 ht1 ht2 h h2 hx hy
  have hvx := val_lim x
  have hvy := val_lim y
  obtain ⟨L, hL⟩ : ∃ L, L = lim x := ⟨_, rfl⟩
  obtain ⟨M, hM⟩ : ∃ M, M = lim y := ⟨_, rfl⟩
  rw [← hL] at s1 hle hvx hcond ⊢
  rw [← hM] at s2 hle2 hvy hcond ⊢
  have HVX := hide hvx
  have HVY := hide hvy
  clear hL hM hvx hvy
  have hbound : L.length + 1 ≤ 70368744177664 := by omega
  have hlm : M.length ≤ L.length := by omega
  clear hle hle2 hb hb2
  go_wp2_with (at_make; refine wpList_mk _ rfl (.tmp 21) rfl (L.length + 1) _ rfl (by omega) (by omega) ?_; intro w1 hr1 hb1)
  have HR1 := hide hr1
  have HB1 := hide hb1
  clear hr1 hb1
  go_loopw [25, 6] (fun t c wr => ∃ k C : Nat, k ≤ L.length ∧ C ≤ 1 ∧ t = .int .i64 k ∧ c = .int .u64 C ∧ Below w.heap.size w wr ∧ ∃ cl, Row wr w.heap.size cl ∧ cl.length = L.length + 1 ∧ Lt cl ∧ val cl + 4294967296 ^ k * C = val (L.take k) + val (M.take k) ∧ ∀ t, k ≤ t → cl.getD t 0 = 0)
    (fun t _ _ => L.length - (intOf t).toNat)
  case atStart => exact ⟨0, 0, Nat.zero_le _, by omega, rfl, rfl, unhide HB1, _, unhide HR1, by simp, Lt_replicate _, by simp [val_replicate, val], fun t _ => getD_replicate _ _⟩
  case round =>
    clear HR1 HB1
    obtain ⟨k, C, hk, hC, rfl, rfl, hbw, cl, hr, hcl, hlt, hv, hzero⟩ := hrel
    have HV := hide hv
    have HZ := hide hzero
    have HC := hide hcl
    clear hv hzero
    by_cases hkl : k < L.length
    · obtain ⟨b1, o1, rfl, -⟩ := s1.row (by omega)
      have c1 := s1.at_ hbw k hkl
      have p1 := getD_lt L s1.lt k
      have c3 := hr.cell k (by omega)
      have f3 := hr.free k
      obtain ⟨X, hX⟩ : ∃ X, X = L.getD k 0 := ⟨_, rfl⟩
      obtain ⟨Z, hZ⟩ : ∃ Z, Z = cl.getD k 0 := ⟨_, rfl⟩
      rw [← hX] at c1 p1
      rw [← hZ] at c3
      have HX := hide hX
      clear hX hZ hcl
      by_cases hkm : k < M.length
      · obtain ⟨b2, o2, rfl, -⟩ := s2.row (by omega)
        have c2 := s2.at_ hbw k hkm
        have p2 := getD_lt M s2.lt k
        obtain ⟨Y, hY⟩ : ∃ Y, Y = M.getD k 0 := ⟨_, rfl⟩
        rw [← hY] at c2 p2
        have HY := hide hY
        clear hY
        go_wp2
        go_roundw
        case rel =>
          have hcl := unhide HC
          refine ⟨k + 1, (C + X + Y) / 4294967296, by omega, by omega, by simp, by go_num, below_store hbw (Nat.le_refl _) _, _, hr.put k ((C + X + Y) % 4294967296) _ (by omega), by simpa using hcl, Lt_set hlt _ _ (by omega), ?_, ?_⟩
          · exact add_round cl L M k C _ (by omega) (unhide HZ k (Nat.le_refl _)) (by rw [← unhide HX, ← unhide HY]) (unhide HV)
          · intro t ht
            rw [gset_ne _ _ _ _ (by omega)]
            exact unhide HZ t (by omega)
        case measure => simp [intOf]; omega
      · go_wp2
        go_roundw
        case rel =>
          have hcl := unhide HC
          refine ⟨k + 1, (C + X) / 4294967296, by omega, by omega, by simp, by go_num, below_store hbw (Nat.le_refl _) _, _, hr.put k ((C + X) % 4294967296) _ (by omega), by simpa using hcl, Lt_set hlt _ _ (by omega), ?_, ?_⟩
          · exact add_round cl L M k C _ (by omega) (unhide HZ k (Nat.le_refl _)) (by rw [← unhide HX, getD_beyond M k (by omega)]; rfl) (unhide HV)
          · intro t ht
            rw [gset_ne _ _ _ _ (by omega)]
            exact unhide HZ t (by omega)
        case measure => simp [intOf]; omega
    · have hk' : k = L.length := by omega
      subst hk'
      have hv2 : val (cl.set L.length C) = x + y := by
        have e := unhide HV
        rw [take_all L _ (Nat.le_refl _), take_all M _ hlm] at e
        have e1 := unhide HVX
        have e2 := unhide HVY
        exact add_last cl L.length C (x + y) (by omega) (unhide HZ _ (Nat.le_refl _)) (by omega)
      have c3 := hr.cell L.length (by omega)
      have f3 := hr.free L.length
      obtain ⟨Z, hZ⟩ : ∃ Z, Z = cl.getD L.length 0 := ⟨_, rfl⟩
      rw [← hZ] at c3
      have HV2 := hide hv2
      clear hZ hv2
      have hr2 := hr.put L.length C (C : Int) rfl
      have hlt2 := Lt_set hlt L.length C (by omega)
      have ht := trim_any _ _ _ _ (hr2.sl hlt2) (by simp; omega)
      rw [List.length_set, hcl, unhide HV2] at ht
      have HT := hide ht
      have HR2 := hide hr2
      clear ht hr2 hcl
      go_wp2_with fail
      refine (unhide HT).mono ?_; rintro e w' ⟨rfl, a', cap', rfl, ht⟩
      go_wp2
      go_ret
      refine ⟨a', cap', rfl, ?_, below_store hbw (Nat.le_refl _) _⟩
      have hlen : (cl.set L.length C).length = L.length + 1 := by simpa using unhide HC
      have hv2 := unhide HV2
      rw [← hv2]
      rw [← hlen, ← hv2] at ht
      exact Res.of_trim (unhide HR2) hlt2 (Nat.le_refl _) ht

set_option maxRecDepth 20000 in
set_option maxHeartbeats 1000000 in
theorem add_lt (w : World) (a : Option Addr) (cap : Nat) (l : List Nat) (x : Nat) (hx : val l = x) (h : Sl w a cap l)
    (a2 : Option Addr) (cap2 : Nat) (l2 : List Nat) (y : Nat) (hy : val l2 = y) (h2 : Sl w a2 cap2 l2) (hb : l.length + 1 ≤ 70368744177664) (hb2 : l2.length + 1 ≤ 70368744177664) (hcond : (lim x).length < (lim y).length) :
    Calls Oaag.prog 80 #[.slice a l.length cap, .slice a2 l2.length cap2] w fun e w' => ∃ a' cap', e = .returned (.slice a' (lim (x + y)).length cap') ∧ Res w.heap.size w' a' cap' (x + y) ∧ Below w.heap.size w w' := by
  have ht1 := trim_any w a cap l h (by omega)
  have ht2 := trim_any w a2 cap2 l2 h2 (by omega)
  have hle := lim_length_le' l h.lt
  have hle2 := lim_length_le' l2 h2.lt
  rw [hx] at ht1 hle
  rw [hy] at ht2 hle2
  have HT1 := hide ht1
  have HT2 := hide ht2
  clear ht1 ht2
  go_enter Oaag.func80, Oaag.ntmps80
  go_wp2_with fail
  refine (unhide HT1).mono ?_; rintro e w' ⟨rfl, a1', cap1', rfl, ht1⟩
  go_wp2_with fail
  refine (unhide HT2).mono ?_; rintro e w' ⟨rfl, a2', cap2', rfl, ht2⟩
  rw [← hx] at ht1
  rw [← hy] at ht2
  have s1 := h.trim ht1
  have s2 := h2.trim ht2
  rw [hx] at s1
  rw [hy] at s2
  clear HT1 HT2 ht1 ht2 h h2 hx hy
  have hvx := val_lim x
  have hvy := val_lim y
  obtain ⟨L, hL⟩ : ∃ L, L = lim y := ⟨_, rfl⟩
  obtain ⟨M, hM⟩ : ∃ M, M = lim x := ⟨_, rfl⟩
  rw [← hL] at s2 hle2 hvy hcond ⊢
  rw [← hM] at s1 hle hvx hcond ⊢
  have HVX := hide hvx
  have HVY := hide hvy
  clear hL hM hvx hvy
  have hbound : L.length + 1 ≤ 70368744177664 := by omega
  have hlm : M.length ≤ L.length := by omega
  clear hle hle2 hb hb2
  go_wp2_with (at_make; refine wpList_mk _ rfl (.tmp 21) rfl (L.length + 1) _ rfl (by omega) (by omega) ?_; intro w1 hr1 hb1)
  have HR1 := hide hr1
  have HB1 := hide hb1
  clear hr1 hb1
  go_loopw [25, 6] (fun t c wr => ∃ k C : Nat, k ≤ L.length ∧ C ≤ 1 ∧ t = .int .i64 k ∧ c = .int .u64 C ∧ Below w.heap.size w wr ∧ ∃ cl, Row wr w.heap.size cl ∧ cl.length = L.length + 1 ∧ Lt cl ∧ val cl + 4294967296 ^ k * C = val (L.take k) + val (M.take k) ∧ ∀ t, k ≤ t → cl.getD t 0 = 0)
    (fun t _ _ => L.length - (intOf t).toNat)
  case atStart => exact ⟨0, 0, Nat.zero_le _, by omega, rfl, rfl, unhide HB1, _, unhide HR1, by simp, Lt_replicate _, by simp [val_replicate, val], fun t _ => getD_replicate _ _⟩
  case round =>
    clear HR1 HB1
    obtain ⟨k, C, hk, hC, rfl, rfl, hbw, cl, hr, hcl, hlt, hv, hzero⟩ := hrel
    have HV := hide hv
    have HZ := hide hzero
    have HC := hide hcl
    clear hv hzero
    by_cases hkl : k < L.length
    · obtain ⟨b1, o1, rfl, -⟩ := s2.row (by omega)
      have c1 := s2.at_ hbw k hkl
      have p1 := getD_lt L s2.lt k
      have c3 := hr.cell k (by omega)
      have f3 := hr.free k
      obtain ⟨X, hX⟩ : ∃ X, X = L.getD k 0 := ⟨_, rfl⟩
      obtain ⟨Z, hZ⟩ : ∃ Z, Z = cl.getD k 0 := ⟨_, rfl⟩
      rw [← hX] at c1 p1
      rw [← hZ] at c3
      have HX := hide hX
      clear hX hZ hcl
      by_cases hkm : k < M.length
      · obtain ⟨b2, o2, rfl, -⟩ := s1.row (by omega)
        have c2 := s1.at_ hbw k hkm
        have p2 := getD_lt M s1.lt k
        obtain ⟨Y, hY⟩ : ∃ Y, Y = M.getD k 0 := ⟨_, rfl⟩
        rw [← hY] at c2 p2
        have HY := hide hY
        clear hY
        go_wp2
        go_roundw
        case rel =>
          have hcl := unhide HC
          refine ⟨k + 1, (C + X + Y) / 4294967296, by omega, by omega, by simp, by go_num, below_store hbw (Nat.le_refl _) _, _, hr.put k ((C + X + Y) % 4294967296) _ (by omega), by simpa using hcl, Lt_set hlt _ _ (by omega), ?_, ?_⟩
          · exact add_round cl L M k C _ (by omega) (unhide HZ k (Nat.le_refl _)) (by rw [← unhide HX, ← unhide HY]) (unhide HV)
          · intro t ht
            rw [gset_ne _ _ _ _ (by omega)]
            exact unhide HZ t (by omega)
        case measure => simp [intOf]; omega
      · go_wp2
        go_roundw
        case rel =>
          have hcl := unhide HC
          refine ⟨k + 1, (C + X) / 4294967296, by omega, by omega, by simp, by go_num, below_store hbw (Nat.le_refl _) _, _, hr.put k ((C + X) % 4294967296) _ (by omega), by simpa using hcl, Lt_set hlt _ _ (by omega), ?_, ?_⟩
          · exact add_round cl L M k C _ (by omega) (unhide HZ k (Nat.le_refl _)) (by rw [← unhide HX, getD_beyond M k (by omega)]; rfl) (unhide HV)
          · intro t ht
            rw [gset_ne _ _ _ _ (by omega)]
            exact unhide HZ t (by omega)
        case measure => simp [intOf]; omega
    · have hk' : k = L.length := by omega
      subst hk'
      have hv2 : val (cl.set L.length C) = x + y := by
        have e := unhide HV
        rw [take_all L _ (Nat.le_refl _), take_all M _ hlm] at e
        have e1 := unhide HVX
        have e2 := unhide HVY
        exact add_last cl L.length C (x + y) (by omega) (unhide HZ _ (Nat.le_refl _)) (by omega)
      have c3 := hr.cell L.length (by omega)
      have f3 := hr.free L.length
      obtain ⟨Z, hZ⟩ : ∃ Z, Z = cl.getD L.length 0 := ⟨_, rfl⟩
      rw [← hZ] at c3
      have HV2 := hide hv2
      clear hZ hv2
      have hr2 := hr.put L.length C (C : Int) rfl
      have hlt2 := Lt_set hlt L.length C (by omega)
      have ht := trim_any _ _ _ _ (hr2.sl hlt2) (by simp; omega)
      rw [List.length_set, hcl, unhide HV2] at ht
      have HT := hide ht
      have HR2 := hide hr2
      clear ht hr2 hcl
      go_wp2_with fail
      refine (unhide HT).mono ?_; rintro e w' ⟨rfl, a', cap', rfl, ht⟩
      go_wp2
      go_ret
      refine ⟨a', cap', rfl, ?_, below_store hbw (Nat.le_refl _) _⟩
      have hlen : (cl.set L.length C).length = L.length + 1 := by simpa using unhide HC
      have hv2 := unhide HV2
      rw [← hv2]
      rw [← hlen, ← hv2] at ht
      exact Res.of_trim (unhide HR2) hlt2 (Nat.le_refl _) ht

theorem add_any (w : World) (a : Option Addr) (cap : Nat) (l : List Nat) (x : Nat) (hx : val l = x) (h : Sl w a cap l)
    (a2 : Option Addr) (cap2 : Nat) (l2 : List Nat) (y : Nat) (hy : val l2 = y) (h2 : Sl w a2 cap2 l2) (hb : l.length + 1 ≤ 70368744177664) (hb2 : l2.length + 1 ≤ 70368744177664) :
    Calls Oaag.prog 80 #[.slice a l.length cap, .slice a2 l2.length cap2] w fun e w' => ∃ a' cap', e = .returned (.slice a' (lim (x + y)).length cap') ∧ Res w.heap.size w' a' cap' (x + y) ∧ Below w.heap.size w w' := by
  rcases Nat.lt_or_ge (lim x).length (lim y).length with hc | hc
  · exact add_lt w a cap l x hx h a2 cap2 l2 y hy h2 hb hb2 hc
  · exact add_ge w a cap l x hx h a2 cap2 l2 y hy h2 hb hb2 hc

end Go.Proofs.YgcoaaGreat.NatW
