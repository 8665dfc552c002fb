/-
  FromU64, Normal, twin, eqRaw, Bit, width32, BitLen, Cmp: the walks.
-/
import Derived.Test.YgcoaaGreatTrim
import Derived.Test.YgcoaaGreatLimbs2
import Derived.Deep.QuietTactic
import Derived.BigQuiet
set_option linter.unusedVariables false
set_option linter.unusedSimpArgs false
namespace Go.Proofs.YgcoaaGreat.NatW
open Go.RowKit
open Go.Proofs.YgcoaaGreat.Limbs

theorem ret_int {k : IntKind} {a b : Int} (h : a = b) : Ending.returned (.int k a) = .returned (.int k b) := by rw [h]
theorem ret_bool {a b : Bool} (h : a = b) : Ending.returned (.bool a) = .returned (.bool b) := by rw [h]

theorem val_two (x : Nat) : val [x % 4294967296, x / 4294967296] = x := by simp [val]; omega
theorem Lt_two (x : Nat) (hx : x < 18446744073709551616) : Lt [x % 4294967296, x / 4294967296] := Lt_cons (by omega) (Lt_cons (by omega) Lt_nil)

set_option maxRecDepth 20000 in
set_option maxHeartbeats 400000 in
theorem fromU64_any (w : World) (x : Nat) (hx : x < 18446744073709551616) :
    Calls Oaag.prog 25 #[.int .u64 (x : Nat)] w fun e w' => ∃ a' cap', e = .returned (.slice a' (lim x).length cap') ∧ Res w.heap.size w' a' cap' x ∧ Below w.heap.size w w' := by
  have hr : Row (w.alloc (Obj.cells #[Value.int IntKind.u32 ((x : Int) % 4294967296), Value.int IntKind.u32 ((x : Int) / 4294967296)] 65)) w.heap.size [x % 4294967296, x / 4294967296] := by
    unfold Row
    rw [heap_alloc_new]
    simp
  have ht := trim_any _ _ _ _ (hr.sl (Lt_two x hx)) (by simp)
  rw [val_two] at ht
  have HR := hide hr
  have HT := hide ht
  clear hr ht
  go_enter Oaag.func25, Oaag.ntmps25
  go_wp2_with (go_at_call 60; refine (unhide HT).mono ?_; rintro e w' ⟨rfl, a', cap', rfl, ht⟩)
  go_ret
  have hr := unhide HR
  refine ⟨_, _, rfl, ?_, (Below.refl _ _).alloc (Nat.le_refl _) _⟩
  have := Res.of_trim (B := w.heap.size) hr (Lt_two x hx) (Nat.le_refl _) (by rw [val_two]; exact ht)
  rwa [val_two] at this

set_option maxRecDepth 20000 in
set_option maxHeartbeats 400000 in
theorem normal_any (w : World) (a : Option Addr) (cap : Nat) (l : List Nat) (h : Sl w a cap l) (hb : l.length ≤ 70368744177664) :
    Calls Oaag.prog 32 #[.slice a l.length cap] w fun e w' => w = w' ∧ e = .returned (.bool (a.isNone || (decide (0 < l.length) && l.getD (l.length - 1) 0 != 0))) := by
  have q24 := eqnil24
  by_cases hn : 0 < l.length
  · obtain ⟨b, off, rfl, hc⟩ := h.row hn
    have hcl := hc (l.length - 1) (by omega)
    have hne : ¬ l = [] := by intro e; subst e; simp at hn
    have hne2 : ((l.length : Int) != 0) = true := by simp; omega
    clear hc
    go_enter Oaag.func32, Oaag.ntmps32
    go_wp2
    go_ret
    refine ⟨rfl, ret_bool ?_⟩
    simp [hn, bne]
    rw [Bool.eq_iff_iff]; simp
  · have h0 : l = [] := List.eq_nil_of_length_eq_zero (by omega)
    subst h0
    go_enter Oaag.func32, Oaag.ntmps32
    go_wp2
    all_goals
      go_ret
      refine ⟨rfl, ret_bool ?_⟩
      simp_all

set_option maxRecDepth 20000 in
set_option maxHeartbeats 400000 in
theorem width32_any (w : World) (x : Nat) (hx : x < 4294967296) :
    Calls Oaag.prog 112 #[.int .u32 (x : Nat)] w fun e w' => w = w' ∧ e = .returned (.int .i64 (bl x : Nat)) := by
  go_enter Oaag.func112, Oaag.ntmps112
  go_wp2
  go_loop [0, 3] (fun t i => ∃ k n : Nat, n + bl k = bl x ∧ t = .int .u32 k ∧ i = .int .i64 n ∧ k < 4294967296) (fun t i => (intOf t).toNat)
  case atStart => exact ⟨x, 0, by omega, rfl, rfl, hx⟩
  case round =>
    obtain ⟨k, n, hv, rfl, rfl, hk⟩ := hrel
    have hb := bl32 x hx
    by_cases hk0 : k = 0
    · subst hk0
      rw [bl_zero] at hv
      have HV := hide hv
      clear hv
      go_wp2
      go_ret
      exact ⟨rfl, ret_int (by have := unhide HV; omega)⟩
    · have hh := bl_half k hk0
      have hn : n ≤ 32 := by omega
      have HV := hide hv
      have HH := hide hh
      clear hv hh
      go_wp2
      go_round
      case rel => exact ⟨k / 2, n + 1, by have := unhide HV; have := unhide HH; omega, by simp, by simp, by omega⟩
      case measure => simp [intOf]; omega

set_option maxRecDepth 20000 in
set_option maxHeartbeats 400000 in
theorem bitLen_any (w : World) (a : Option Addr) (cap : Nat) (l : List Nat) (n : Nat) (hv : val l = n) (h : Sl w a cap l) (hb : l.length ≤ 70368744177664) :
    Calls Oaag.prog 61 #[.slice a l.length cap] w fun e w' => w = w' ∧ e = .returned (.int .i64 (bl n : Nat)) := by
  subst hv
  have q24 := eqnil24
  have hle := lim_length_le' l h.lt
  by_cases h0 : val l = 0
  · go_enter Oaag.func61, Oaag.ntmps61
    go_wp2_with (go_at_call 60; refine (trim_any _ a cap l h hb).mono ?_; rintro e w' ⟨rfl, a', cap', rfl, ht⟩; have hi := (ht.none_iff h).2 h0)
    go_ret
    exact ⟨rfl, ret_int (by rw [h0]; rfl)⟩
  · have hp := (lim_length_pos _).2 h0
    have hbl := bl_lim _ h0
    have hd := getD_lt (lim (val l)) (Lt_lim _) ((lim (val l)).length - 1)
    have hd2 := bl32 _ hd
    go_enter Oaag.func61, Oaag.ntmps61
    go_wp2_with fail
    refine (trim_any _ a cap l h hb).mono ?_; rintro e w' ⟨rfl, a', cap', rfl, ht⟩
    obtain ⟨b, off, rfl, hc⟩ := (h.trim ht).row hp
    have hcl := hc ((lim (val l)).length - 1) (by omega)
    clear hc
    obtain ⟨t, het⟩ : ∃ t, t = (lim (val l)).getD ((lim (val l)).length - 1) 0 := ⟨_, rfl⟩
    rw [← het] at hcl hbl hd hd2
    have HE := hide het
    have HL := hide hbl
    clear hbl het
    go_wp2_with (go_at_call 112; refine (width32_any _ _ hd).mono ?_; rintro e w' ⟨rfl, rfl⟩)
    go_ret
    exact ⟨rfl, ret_int (by have := unhide HL; omega)⟩

set_option maxRecDepth 20000 in
set_option maxHeartbeats 400000 in
theorem bit_any (w : World) (a : Option Addr) (cap : Nat) (l : List Nat) (n : Nat) (hv : val l = n) (h : Sl w a cap l) (hb : l.length ≤ 70368744177664) (i : Int) (hi : -9223372036854775808 ≤ i ∧ i ≤ 9223372036854775807) :
    Calls Oaag.prog 407 #[.slice a l.length cap, .int .i64 i] w fun e w' => w = w' ∧ e = .returned (.bool (bitAt n i)) := by
  by_cases h0 : i < 0
  · go_enter Oaag.func407, Oaag.ntmps407
    go_wp2
    go_ret
    refine ⟨rfl, ret_bool ?_⟩
    have : ¬ 0 ≤ i := by omega
    simp [bitAt, this]
  · obtain ⟨k, rfl⟩ : ∃ k : Nat, i = k := ⟨i.toNat, by omega⟩
    by_cases h1 : l.length ≤ k / 32
    · have h1' : (l.length : Int) ≤ (k : Int) / 32 := by omega
      go_enter Oaag.func407, Oaag.ntmps407
      go_wp2
      go_ret
      refine ⟨rfl, ret_bool ?_⟩
      rw [← hv]
      simp [bitAt]
      rw [testBit_ge l h.lt k (by omega)]
    · obtain ⟨b, off, rfl, hc⟩ := h.row (by omega)
      have hck := hc (k / 32) (by omega)
      clear hc
      have h1' : ¬ (l.length : Int) ≤ (k : Int) / 32 := by omega
      go_enter Oaag.func407, Oaag.ntmps407
      go_wp2
      go_ret
      refine ⟨rfl, ret_bool ?_⟩
      have hlt := getD_lt l h.lt (k / 32)
      rw [List.getD_eq_getElem?_getD] at hlt
      rw [← hv]
      have e := testBit_row l h.lt (k / 32) (k % 32) (by omega)
      rw [show 32 * (k / 32) + k % 32 = k from by omega, List.getD_eq_getElem?_getD] at e
      have e2 : (((l[k / 32]?.getD 0 : Nat) : Int) / 2 ^ (k % 32)) = ((l[k / 32]?.getD 0 / 2 ^ (k % 32) : Nat) : Int) := by simp
      have e3 := u32_and_nat (l[k / 32]?.getD 0 / 2 ^ (k % 32)) 1 (Nat.lt_of_le_of_lt (Nat.div_le_self _ _) hlt) (by omega)
      simp only [bitAt, Int.toNat_natCast]
      rw [← e, Nat.testBit_eq_decide_div_mod_eq, e2]
      rw [show ((1 : Nat) : Int) = 1 from rfl] at e3
      rw [e3, nat_mask1]
      rw [Bool.eq_iff_iff]; simp
      omega

set_option maxRecDepth 20000 in
set_option maxHeartbeats 400000 in
theorem cmp_any (w : World) (a : Option Addr) (cap : Nat) (l : List Nat) (x : Nat) (hx : val l = x) (h : Sl w a cap l) (hb : l.length ≤ 70368744177664)
    (a2 : Option Addr) (cap2 : Nat) (l2 : List Nat) (y : Nat) (hy : val l2 = y) (h2 : Sl w a2 cap2 l2) (hb2 : l2.length ≤ 70368744177664) :
    Calls Oaag.prog 66 #[.slice a l.length cap, .slice a2 l2.length cap2] w fun e w' => Below w.heap.size w w' ∧ e = .returned (.int .i8 (cmpI x y)) := by
  have ht1 := trim_any w a cap l h hb
  have ht2 := trim_any w a2 cap2 l2 h2 hb2
  have hle := lim_length_le' l h.lt
  have hle2 := lim_length_le' l2 h2.lt
  rw [hx] at ht1 hle
  rw [hy] at ht2 hle2
  have HT1 := hide ht1
  have HT2 := hide ht2
  clear ht1 ht2
  go_enter Oaag.func66, Oaag.ntmps66
  go_wp2_with fail
  refine (unhide HT1).mono ?_; rintro e w' ⟨rfl, a1', cap1', rfl, ht1⟩
  go_wp2_with fail
  refine (unhide HT2).mono ?_; rintro e w' ⟨rfl, a2', cap2', rfl, ht2⟩
  rw [← hx] at ht1
  rw [← hy] at ht2
  have s1 := h.trim ht1
  have s2 := h2.trim ht2
  rw [hx] at s1
  rw [hy] at s2
  clear HT1 HT2 ht1 ht2 h h2 hx hy
  by_cases hlen : (lim x).length = (lim y).length
  · have hlen2 : (((lim x).length : Int) != ((lim y).length : Int)) = false := by simp; omega
    have HL := hide hlen
    have h3 : (lim x).length ≤ (lim y).length := by omega
    have h4 : (lim y).length ≤ (lim x).length := by omega
    clear hlen
    go_wp2
    go_loopw [5] (fun t wr => Below w.heap.size w wr ∧ ∃ k : Nat, k ≤ (lim x).length ∧ t = .int .i64 ((k : Int) - 1) ∧ (lim x).drop k = (lim y).drop k) (fun t _ => (intOf t + 1).toNat)
    case atStart => exact ⟨Below.refl _ _, (lim x).length, Nat.le_refl _, rfl, by rw [List.drop_of_length_le (Nat.le_refl _), List.drop_of_length_le h4]⟩
    case round =>
      obtain ⟨hbw, k, hk, rfl, hd⟩ := hrel
      have HD := hide hd
      clear hd
      by_cases hk0 : k = 0
      · subst hk0
        go_wp2
        go_ret
        refine ⟨hbw, ret_int ?_⟩
        have e := unhide HD
        simp only [List.drop_zero] at e
        have : x = y := by rw [← val_lim x, e, val_lim]
        subst this
        simp [cmpI]
      · obtain ⟨j, rfl⟩ : ∃ j, k = j + 1 := ⟨k - 1, by omega⟩
        obtain ⟨b1, o1, rfl, hc1⟩ := s1.row (by omega)
        obtain ⟨b2, o2, rfl, hc2⟩ := s2.row (by omega)
        have c1 := (hbw.cell (World.block_lt_of_cell? _ _ (hc1 j (by omega)))).trans (hc1 j (by omega))
        have c2 := (hbw.cell (World.block_lt_of_cell? _ _ (hc2 j (by omega)))).trans (hc2 j (by omega))
        obtain ⟨X, hX⟩ : ∃ X, X = (lim x).getD j 0 := ⟨_, rfl⟩
        obtain ⟨Y, hY⟩ : ∃ Y, Y = (lim y).getD j 0 := ⟨_, rfl⟩
        rw [← hX] at c1
        rw [← hY] at c2
        have HX := hide hX
        have HY := hide hY
        clear hX hY hc1 hc2
        have ej : ((j + 1 : Nat) : Int) - 1 = (j : Int) := by omega
        rw [ej]
        go_wp2_with fail
        go_quiet (fail)
        go_wp2
        · go_ret
          refine ⟨below_drewN hbw _, ret_int ?_⟩
          have hlt : X < Y := by assumption
          rw [unhide HX, unhide HY] at hlt
          have := cmp_at (lim x) (lim y) (Lt_lim x) (Lt_lim y) j (by omega) (by omega) (unhide HD) hlt
          rw [val_lim, val_lim] at this
          simp [cmpI, this]
        · go_quiet (fail)
          go_wp2
          · go_ret
            refine ⟨below_drewN (below_drewN hbw _) _, ret_int ?_⟩
            have hlt : Y < X := by assumption
            rw [unhide HX, unhide HY] at hlt
            have := cmp_at (lim y) (lim x) (Lt_lim y) (Lt_lim x) j (by omega) (by omega) (unhide HD).symm hlt
            rw [val_lim, val_lim] at this
            have h' : ¬ x < y := by omega
            simp [cmpI, this, h']
          · go_roundw
            case rel =>
              refine ⟨below_drewN hbw _, j, by omega, rfl, ?_⟩
              have h5 : X = Y := by omega
              rw [unhide HX, unhide HY] at h5
              exact drop_step _ _ j (by omega) (by omega) (unhide HD) h5
            case measure => simp [intOf]
  · have hlen2 : (((lim x).length : Int) != ((lim y).length : Int)) = true := by simp; omega
    go_wp2
    · go_ret
      refine ⟨Below.refl _ _, ret_int ?_⟩
      have := cmp_len_lt x y (by assumption)
      simp [cmpI, this]
    · go_ret
      refine ⟨Below.refl _ _, ret_int ?_⟩
      have := cmp_len_lt y x (by omega)
      have h' : ¬ x < y := by omega
      simp [cmpI, this, h']

set_option maxRecDepth 20000 in
set_option maxHeartbeats 400000 in
theorem eqRaw_any (w : World) (a : Option Addr) (cap : Nat) (l : List Nat) (h : Sl w a cap l) (hb : l.length ≤ 70368744177664)
    (a2 : Option Addr) (cap2 : Nat) (l2 : List Nat) (h2 : Sl w a2 cap2 l2) (hb2 : l2.length ≤ 70368744177664) :
    Calls Oaag.prog 57 #[.slice a l.length cap, .slice a2 l2.length cap2] w fun e w' => Below w.heap.size w w' ∧ e = .returned (.bool ((a.isNone == a2.isNone) && decide (l = l2))) := by
  have q24 := eqnil24
  by_cases hn : a.isNone = a2.isNone
  · obtain ⟨n1, hn1⟩ : ∃ n1, n1 = a.isNone := ⟨_, rfl⟩
    by_cases hlen : l.length = l2.length
    · have hne : ((l.length : Int) != (l2.length : Int)) = false := by simp; omega
      have h3 : l.length ≤ l2.length := by omega
      have h4 : l2.length ≤ l.length := by omega
      have hnn : (a.isNone != a2.isNone) = false := by simp [hn]
      have HL := hide hlen
      have HN := hide hn
      clear hlen hn hn1
      go_enter Oaag.func57, Oaag.ntmps57
      go_wp2
      go_loopw [20] (fun t wr => Below w.heap.size w wr ∧ ∃ k : Nat, k ≤ l.length ∧ t = .int .i64 k ∧ l.take k = l2.take k) (fun t _ => l.length - (intOf t).toNat)
      case atStart => exact ⟨Below.refl _ _, 0, Nat.zero_le _, rfl, by simp⟩
      case round =>
        obtain ⟨hbw, k, hk, rfl, hd⟩ := hrel
        have HD := hide hd
        clear hd
        by_cases hlt : k < l.length
        · obtain ⟨b1, o1, rfl, hc1⟩ := h.row (by omega)
          obtain ⟨b2, o2, rfl, hc2⟩ := h2.row (by omega)
          have c1 := (hbw.cell (World.block_lt_of_cell? _ _ (hc1 k (by omega)))).trans (hc1 k (by omega))
          have c2 := (hbw.cell (World.block_lt_of_cell? _ _ (hc2 k (by omega)))).trans (hc2 k (by omega))
          obtain ⟨X, hX⟩ : ∃ X, X = l.getD k 0 := ⟨_, rfl⟩
          obtain ⟨Y, hY⟩ : ∃ Y, Y = l2.getD k 0 := ⟨_, rfl⟩
          rw [← hX] at c1
          rw [← hY] at c2
          have HX := hide hX
          have HY := hide hY
          clear hX hY hc1 hc2
          go_wp2_with fail
          go_quiet (fail)
          go_wp2
          · go_ret
            refine ⟨below_drewN hbw _, ret_bool ?_⟩
            have hne : ((X : Int) != (Y : Int)) = true := by assumption
            have hne : X ≠ Y := by intro e; subst e; simp at hne
            rw [unhide HX, unhide HY] at hne
            have : l ≠ l2 := fun e => hne (by rw [e])
            simp [this]
          · go_roundw
            case rel =>
              refine ⟨below_drewN hbw _, k + 1, by omega, by simp, ?_⟩
              have he : ((X : Int) != (Y : Int)) = false := by assumption
              have he : X = Y := by simp at he; omega
              rw [unhide HX, unhide HY] at he
              exact take_step _ _ k (by omega) (by omega) (unhide HD) he
            case measure => simp [intOf]; omega
        · go_wp2
          go_ret
          refine ⟨hbw, ret_bool ?_⟩
          have e := unhide HD
          rw [List.take_of_length_le (by omega), List.take_of_length_le (by omega)] at e
          have := unhide HN
          simp [e, this]
    · have hne : ((l.length : Int) != (l2.length : Int)) = true := by simp; omega
      have hnn : (a.isNone != a2.isNone) = false := by simp [hn]
      have HN := hide hn
      clear hn hn1
      go_enter Oaag.func57, Oaag.ntmps57
      go_wp2
      go_ret
      refine ⟨Below.refl _ _, ret_bool ?_⟩
      have : l ≠ l2 := fun e => hlen (by rw [e])
      simp [this]
  · have hnn : (a.isNone != a2.isNone) = true := by simp [bne, hn]
    go_enter Oaag.func57, Oaag.ntmps57
    go_wp2
    go_ret
    refine ⟨Below.refl _ _, ret_bool ?_⟩
    simp [hn]

end Go.Proofs.YgcoaaGreat.NatW
