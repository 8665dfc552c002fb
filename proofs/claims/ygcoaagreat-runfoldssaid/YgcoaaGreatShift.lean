/-
  lift, Shl, Shr, Pow5: the walks.
-/
import Derived.Test.YgcoaaGreatMul
set_option linter.unusedVariables false
set_option linter.unusedSimpArgs false
namespace Go.Proofs.YgcoaaGreat.NatW
open Go.RowKit
open Go.Proofs.YgcoaaGreat.Limbs

theorem wrap_shl (X r : Nat) (hX : X < 4294967296) (hr : r < 32) : IntKind.u64.wrap ((X : Int) * 2 ^ r) = ((X * 2 ^ r : Nat) : Int) := by
  have h := shl_lt X r hX hr
  have e : (X : Int) * 2 ^ r = ((X * 2 ^ r : Nat) : Int) := by simp
  rw [e, IntKind.wrap_u64]
  omega
theorem lift_low (X Z r : Nat) (hX : X < 4294967296) (hr : r < 32) (hZ : Z < 2 ^ r) :
    bits .or .u32 (Z : Int) (IntKind.u64.wrap ((X : Int) * 2 ^ r) % 4294967296) = ((Z + X * 2 ^ r % 4294967296 : Nat) : Int) := by
  rw [wrap_shl X r hX hr]
  have e : ((X * 2 ^ r : Nat) : Int) % 4294967296 = ((X * 2 ^ r % 4294967296 : Nat) : Int) := by omega
  have h := pow32_le r hr
  rw [e, u32_or_nat _ _ (by omega) (by omega)]
  congr 1
  rw [Nat.or_comm, nat_join r _ _ (by rw [shl_low X r hr]; exact Nat.mul_mod_left _ _) hZ, Nat.add_comm]
theorem lift_high (X r : Nat) (hX : X < 4294967296) (hr : r < 32) :
    IntKind.u64.wrap ((X : Int) * 2 ^ r) / 4294967296 % 4294967296 = ((X * 2 ^ r / 4294967296 : Nat) : Int) := by
  rw [wrap_shl X r hX hr]
  have := shl_lt X r hX hr
  omega

set_option maxRecDepth 20000 in
set_option maxHeartbeats 1000000 in
theorem lift_any (w : World) (a : Option Addr) (cap : Nat) (l : List Nat) (x : Nat) (hx : val l = x) (h : Sl w a cap l) (k : Nat) (hb : l.length + k / 32 + 1 ≤ 70368744177664) :
    Calls Oaag.prog 115 #[.slice a l.length cap, .int .i64 k] w fun e w' => ∃ a' cap', e = .returned (.slice a' (lim (x * 2 ^ k)).length cap') ∧ Res w.heap.size w' a' cap' (x * 2 ^ k) ∧ Below w.heap.size w w' := by
  have q24 := eqnil24
  have hle := lim_length_le' l h.lt
  by_cases h0 : val l = 0
  · go_enter Oaag.func115, Oaag.ntmps115
    go_wp2_with fail
    refine (trim_any _ a cap l h (by omega)).mono ?_; rintro e w' ⟨rfl, a', cap', rfl, ht⟩
    rcases ht with ⟨_, rfl, rfl⟩ | ⟨h1, _⟩
    · go_wp2
      go_ret
      rw [← hx, h0, Nat.zero_mul]
      exact ⟨none, 0, rfl, Res.nil, Below.refl _ _⟩
    · exact absurd h0 h1
  · have hp := (lim_length_pos _).2 h0
    go_enter Oaag.func115, Oaag.ntmps115
    go_wp2_with fail
    refine (trim_any _ a cap l h (by omega)).mono ?_; rintro e w' ⟨rfl, a', cap', rfl, ht⟩
    have s1 := h.trim ht
    rw [hx] at s1 hp hle ⊢
    clear ht h
    obtain ⟨L, hL⟩ : ∃ L, L = lim x := ⟨_, rfl⟩
    rw [← hL] at s1 hle hp ⊢
    have HL := hide hL
    clear hL hx h0
    obtain ⟨b1, o1, rfl, -⟩ := s1.row (by omega)
    have hbound : L.length + k / 32 + 1 ≤ 70368744177664 := by omega
    clear hle hb
    go_wp2_with (at_make; refine wpList_mk _ rfl (.tmp 23) rfl (L.length + k / 32 + 1) _ rfl (by omega) (by omega) ?_; intro w1 hr1 hb1)
    have hz1 := hr1.size
    go_loopw [27] (fun t wr => ∃ i : Nat, i ≤ L.length ∧ t = .int .i64 i ∧ Below w.heap.size w wr ∧ ∃ cl, Row wr w.heap.size cl ∧ cl.length = L.length + k / 32 + 1 ∧ Lt cl ∧ val cl = 4294967296 ^ (k / 32) * (2 ^ (k % 32) * val (L.take i)) ∧ cl.getD (i + k / 32) 0 < 2 ^ (k % 32) ∧ ∀ t, i + k / 32 + 1 ≤ t → cl.getD t 0 = 0)
      (fun t _ => L.length - (intOf t).toNat)
    case atStart => exact ⟨0, Nat.zero_le _, rfl, hb1, _, hr1, by simp, Lt_replicate _, by simp [val_replicate, val], by rw [getD_replicate]; exact Nat.pow_pos (by omega), fun t _ => getD_replicate _ _⟩
    case round =>
      obtain ⟨i, hi, rfl, hbw, cl, hr, hcl, hlt, hv, hlow, hzero⟩ := hrel
      have HV := hide hv
      have HZ := hide hzero
      have HC := hide hcl
      have HW := hide hlow
      clear hv hzero hr1 hb1 hlow
      by_cases hil : i < L.length
      · have c1 := s1.at_ hbw i (by omega)
        have c2 := hr.cell (i + k / 32) (by omega)
        have f2 := hr.free (i + k / 32)
        have c3 := hr.cell (i + k / 32 + 1) (by omega)
        have f3 := hr.free (i + k / 32 + 1)
        have p1 := getD_lt L s1.lt i
        have p2 := getD_lt cl hlt (i + k / 32)
        clear hcl
        obtain ⟨X, hX⟩ : ∃ X, X = L.getD i 0 := ⟨_, rfl⟩
        obtain ⟨Z, hZ⟩ : ∃ Z, Z = cl.getD (i + k / 32) 0 := ⟨_, rfl⟩
        obtain ⟨Y, hY⟩ : ∃ Y, Y = cl.getD (i + k / 32 + 1) 0 := ⟨_, rfl⟩
        rw [← hX] at c1 p1
        rw [← hZ] at c2 p2
        rw [← hY] at c3
        have HX := hide hX
        have HZ' := hide hZ
        have HY' := hide hY
        clear hX hY hZ
        go_wp2
        go_roundw
        case rel =>
          have hcl := unhide HC
          have hW := unhide HW
          have hZd := unhide HZ'
          have hZ2 : Z < 2 ^ (k % 32) := by rw [hZd]; exact hW
          have hh := shl_high_lt X (k % 32) p1
          have hl := shl_low_le X (k % 32) (by omega)
          have h32 := pow32_le (k % 32) (by omega)
          refine ⟨i + 1, by omega, by simp, below_store (below_store hbw (Nat.le_refl _) _) (Nat.le_refl _) _, _, (hr.put (i + k / 32) (Z + X * 2 ^ (k % 32) % 4294967296) _ (lift_low X Z _ p1 (by omega) hZ2)).put (i + k / 32 + 1) (X * 2 ^ (k % 32) / 4294967296) _ (lift_high X _ p1 (by omega)), by simpa using hcl, Lt_set (Lt_set hlt _ _ (by omega)) _ _ (by omega), ?_, ?_, ?_⟩
          · rw [hZd]
            exact lift_step cl L i (k / 32) (k % 32) s1.lt (by omega) hil (by omega) hW (unhide HZ) (unhide HV) X (unhide HX)
          · rw [show i + 1 + k / 32 = i + k / 32 + 1 from by omega, Limbs.getD_set, if_pos ⟨rfl, by simp; omega⟩]
            exact hh
          · intro t ht
            rw [gset_ne _ _ _ _ (by omega), gset_ne _ _ _ _ (by omega)]
            exact unhide HZ t (by omega)
        case measure => simp [intOf]; omega
      · have hi' : i = L.length := by omega
        subst hi'
        have hv : val cl = x * 2 ^ k := by
          rw [unhide HV]
          exact lift_end L k x (by rw [unhide HL, val_lim])
        have ht := trim_any _ _ _ _ (hr.sl hlt) (by omega)
        rw [hcl, hv] at ht
        have HT := hide ht
        have HV2 := hide hv
        clear hv ht HV hcl
        go_wp2_with (go_at_call 60; refine (unhide HT).mono ?_; rintro e w' ⟨rfl, a', cap', rfl, ht⟩)
        go_ret
        refine ⟨_, _, rfl, ?_, hbw⟩
        rw [← unhide HV2]
        rw [← unhide HC, ← unhide HV2] at ht
        exact Res.of_trim hr hlt (Nat.le_refl _) ht

set_option maxRecDepth 20000 in
set_option maxHeartbeats 400000 in
theorem shl_any (w : World) (a : Option Addr) (cap : Nat) (l : List Nat) (x : Nat) (hx : val l = x) (h : Sl w a cap l) (k : Nat) (hk : k < 65536) (hb : l.length ≤ 70368744170000) :
    Calls Oaag.prog 63 #[.slice a l.length cap, .int .u16 k] w fun e w' => ∃ a' cap', e = .returned (.slice a' (lim (x * 2 ^ k)).length cap') ∧ Res w.heap.size w' a' cap' (x * 2 ^ k) ∧ Below w.heap.size w w' := by
  have hc := lift_any w a cap l x hx h k (by omega)
  have HC := hide hc
  clear hc
  go_enter Oaag.func63, Oaag.ntmps63
  go_wp2_with (go_at_call 115; refine (unhide HC).mono ?_; rintro e w' ⟨a', cap', rfl, hres, hbel⟩)
  go_ret
  exact ⟨_, _, rfl, hres, hbel⟩

def lostB (n : Nat) : Bool := decide (n ≠ 0)
theorem lostB_false (L : List Nat) (i X : Nat) (h : i < L.length) (hX : X = L.getD i 0) (hz : false = lostB (val (L.take i))) : ((X : Int) != 0) = lostB (val (L.take (i + 1))) := by
  have h1 := lost_step L i h
  unfold lostB at *
  have h2 : ¬ (val (L.take i) ≠ 0) := by simpa using hz.symm
  rw [Bool.eq_iff_iff]
  simp only [bne_iff_ne, decide_eq_true_eq]
  rw [h1, ← hX]
  omega
theorem lostB_true (L : List Nat) (i : Nat) (h : i < L.length) (hz : true = lostB (val (L.take i))) : true = lostB (val (L.take (i + 1))) := by
  have h1 := lost_step L i h
  unfold lostB at *
  have h2 : val (L.take i) ≠ 0 := by simpa using hz.symm
  symm
  simp only [decide_eq_true_eq]
  rw [h1]
  exact .inl h2
theorem mask_low (X r : Nat) (hX : X < 4294967296) (hr : r < 32) : (bits .and .u32 (X : Int) ((2 ^ r - 1) % 4294967296) != 0) = decide (X % 2 ^ r ≠ 0) := by
  have h := pow32_le r hr
  have hp : 0 < 2 ^ r := Nat.pow_pos (by omega)
  have e : (2 : Int) ^ r - 1 = ((2 ^ r - 1 : Nat) : Int) := by
    have : ((2 ^ r : Nat) : Int) = (2 : Int) ^ r := by simp
    omega
  rw [e, Int.emod_eq_of_lt (by omega) (by omega), u32_and_nat _ _ hX (by omega), Nat.and_two_pow_sub_one_eq_mod]
  generalize X % 2 ^ r = t
  rw [Bool.eq_iff_iff]
  simp
theorem shr_pair (x k i X Y : Nat) (hX : X = (lim x).getD (i + k / 32) 0) (hY : Y = (lim x).getD (i + k / 32 + 1) 0) (hx : X < 4294967296) (hy : Y < 4294967296) :
    bits .or .u64 (X : Int) ((Y : Int) * 4294967296) / 2 ^ (k % 32) % 4294967296 = ((x / 2 ^ k / 4294967296 ^ i % 4294967296 : Nat) : Int) := by
  have e : (Y : Int) * 4294967296 = ((Y * 4294967296 : Nat) : Int) := by simp
  rw [e, u64_or_nat _ _ (by omega) (by omega), Nat.or_comm, nat_join 32 _ _ (by omega) hx, ← shr_limb, ← hX, ← hY]
  rw [show Y * 4294967296 + X = X + 4294967296 * Y from by omega]
  simp
theorem shr_single (x k i X : Nat) (hX : X = (lim x).getD (i + k / 32) 0) (hY : (lim x).length ≤ i + k / 32 + 1) :
    (X : Int) / 2 ^ (k % 32) % 4294967296 = ((x / 2 ^ k / 4294967296 ^ i % 4294967296 : Nat) : Int) := by
  rw [← shr_limb, ← hX, getD_beyond _ _ hY]
  simp

theorem lost_fin_false (x k X : Nat) (L : List Nat) (hL : L = lim x) (h : k / 32 < L.length) (hX : X = L.getD (k / 32) 0) (p : X < 4294967296) (hz : false = lostB (val (L.take (k / 32)))) :
    (bits .and .u32 (X : Int) ((2 ^ (k % 32) - 1) % 4294967296) != 0) = lostB (x % 2 ^ k) := by
  subst hL
  rw [mask_low X _ p (by omega)]
  unfold lostB at *
  have h2 : ¬ (val ((lim x).take (k / 32)) ≠ 0) := by simpa using hz.symm
  rw [Bool.eq_iff_iff]
  simp only [decide_eq_true_eq]
  rw [shr_lost_iff x k h, ← hX]
  constructor
  · exact .inr
  · rintro (h3 | h3)
    · exact absurd h3 h2
    · exact h3
theorem lost_fin_true (x k : Nat) (L : List Nat) (hL : L = lim x) (h : k / 32 < L.length) (hz : true = lostB (val (L.take (k / 32)))) : true = lostB (x % 2 ^ k) := by
  subst hL
  unfold lostB at *
  have h2 : val ((lim x).take (k / 32)) ≠ 0 := by simpa using hz.symm
  symm
  simp only [decide_eq_true_eq]
  rw [shr_lost_iff x k h]
  exact .inl h2
theorem ret_two {v u : Value} {a b : Bool} (h : v = u) (k : a = b) : Ending.returned (.tuple #[v, .bool a]) = .returned (.tuple #[u, .bool b]) := by rw [h, k]

/-- Shr's round. -/
theorem shr_rel {w wr : World} {ql : List Nat} {x k i n : Nat} {v : Int} (hbw : Below w.heap.size w wr) (hr : Row wr w.heap.size ql) (hql : ql.length = n) (hlt : Lt ql) (hi : i < n)
    (hv : val ql = x / 2 ^ k % 4294967296 ^ i) (hz : ∀ t, i ≤ t → ql.getD t 0 = 0) (he : v = ((x / 2 ^ k / 4294967296 ^ i % 4294967296 : Nat) : Int)) :
    Below w.heap.size w (wr.setCell ⟨w.heap.size, i, none⟩ (.int .u32 v)) ∧ ∃ ql, Row (wr.setCell ⟨w.heap.size, i, none⟩ (.int .u32 v)) w.heap.size ql ∧ ql.length = n ∧ Lt ql ∧ val ql = x / 2 ^ k % 4294967296 ^ (i + 1) ∧ ∀ t, i + 1 ≤ t → ql.getD t 0 = 0 := by
  refine ⟨below_store hbw (Nat.le_refl _) _, _, hr.put i _ _ he, by simpa using hql, Lt_set hlt _ _ (Nat.mod_lt _ (by omega)), ?_, ?_⟩
  · exact shr_step ql i _ _ (by omega) (hz i (Nat.le_refl _)) hv rfl
  · intro t ht
    rw [gset_ne _ _ _ _ (by omega)]
    exact hz t (by omega)

set_option maxRecDepth 20000 in
set_option maxHeartbeats 1000000 in
theorem shr_any (w : World) (a : Option Addr) (cap : Nat) (l : List Nat) (x : Nat) (hx : val l = x) (h : Sl w a cap l) (k : Nat) (hk : k < 65536) (hb : l.length ≤ 70368744177664) :
    Calls Oaag.prog 65 #[.slice a l.length cap, .int .u16 k] w fun e w' => ∃ a' cap', e = .returned (.tuple #[.slice a' (lim (x / 2 ^ k)).length cap', .bool (lostB (x % 2 ^ k))]) ∧ Res w.heap.size w' a' cap' (x / 2 ^ k) ∧ Below w.heap.size w w' := by
  have hle := lim_length_le' l h.lt
  go_enter Oaag.func65, Oaag.ntmps65
  go_wp2_with fail
  refine (trim_any _ a cap l h (by omega)).mono ?_; rintro e w' ⟨rfl, a', cap', rfl, ht⟩
  have s1 := h.trim ht
  rw [hx] at s1 hle ⊢
  clear ht h
  obtain ⟨L, hL⟩ : ∃ L, L = lim x := ⟨_, rfl⟩
  rw [← hL] at s1 hle ⊢
  have HL := hide hL
  clear hL hx
  go_wp2
  go_loop [8, 5] (fun t z => ∃ i : Nat, i ≤ k / 32 ∧ i ≤ L.length ∧ t = .int .i64 i ∧ z = .bool (lostB (val (L.take i)))) (fun t _ => L.length - (intOf t).toNat)
  case atStart => exact ⟨0, Nat.zero_le _, Nat.zero_le _, rfl, rfl⟩
  case round =>
    obtain ⟨i, hi1, hi2, rfl, rfl⟩ := hrel
    by_cases hil : i < k / 32 ∧ i < L.length
    · obtain ⟨hi3, hi4⟩ := hil
      obtain ⟨b1, o1, rfl, hc⟩ := s1.row (by omega)
      have c1 := hc i (by omega)
      clear hc
      obtain ⟨X, hX⟩ : ∃ X, X = L.getD i 0 := ⟨_, rfl⟩
      rw [← hX] at c1
      have HX := hide hX
      clear hX
      obtain ⟨z, hz⟩ : ∃ z, z = lostB (val (L.take i)) := ⟨_, rfl⟩
      rw [← hz]
      have HZ := hide hz
      clear hz
      cases z
      · go_wp2
        go_round
        case rel => exact ⟨i + 1, by omega, by omega, by simp, by rw [lostB_false L i X hi4 (unhide HX) (unhide HZ)]⟩
        case measure => simp [intOf]; omega
      · go_wp2
        go_round
        case rel => exact ⟨i + 1, by omega, by omega, by simp, by rw [← lostB_true L i hi4 (unhide HZ)]⟩
        case measure => simp [intOf]; omega
    · by_cases hgone : L.length ≤ k / 32
      · have hi' : i = L.length := by omega
        subst hi'
        clear hil
        go_wp2
        all_goals
          go_ret2
        all_goals
          have hL := unhide HL
          have hg := shr_gone x k (by rw [← hL]; exact hgone)
          have e : val (L.take L.length) = x := by rw [List.take_length, hL, val_lim]
          exact ⟨none, 0, by rw [hg.1, hg.2, ← e, List.take_length]; rfl, by rw [hg.1]; exact Res.nil, Below.refl _ _⟩
      · have hi' : i = k / 32 := by omega
        subst hi'
        clear hil
        obtain ⟨b1, o1, rfl, hc⟩ := s1.row (by omega)
        have c0 := hc (k / 32) (by omega)
        have p0 := getD_lt L s1.lt (k / 32)
        clear hc
        obtain ⟨X, hX⟩ : ∃ X, X = L.getD (k / 32) 0 := ⟨_, rfl⟩
        rw [← hX] at c0 p0
        have HX := hide hX
        clear hX
        obtain ⟨z, hz⟩ : ∃ z, z = lostB (val (L.take (k / 32))) := ⟨_, rfl⟩
        rw [← hz]
        have HZ := hide hz
        clear hz
        cases z
        all_goals
          go_wp2_with fail
          go_quiet (fail)
          go_wp2_with (at_make; refine wpList_mk _ rfl (.tmp 58) rfl (L.length - k / 32) _ rfl (by omega) (by omega) ?_; intro w1 hr1 hb1)
          have hb1' : Below w.heap.size w w1 := (below_drewN (Below.refl _ w) _).trans hb1
          have hr1' : Row w1 w.heap.size (List.replicate (L.length - k / 32) 0) := hr1
          clear hb1 hr1
          go_loopw [62] (fun t wr => ∃ i : Nat, i ≤ L.length - k / 32 ∧ t = .int .i64 i ∧ Below w.heap.size w wr ∧ ∃ ql, Row wr w.heap.size ql ∧ ql.length = L.length - k / 32 ∧ Lt ql ∧ val ql = x / 2 ^ k % 4294967296 ^ i ∧ ∀ t, i ≤ t → ql.getD t 0 = 0)
            (fun t _ => (L.length - k / 32) - (intOf t).toNat)
          case atStart => exact ⟨0, Nat.zero_le _, rfl, hb1', _, hr1', by simp, Lt_replicate _, by simp [val_replicate, Nat.mod_one], fun t _ => getD_replicate _ _⟩
          case round =>
            clear hb1' hr1'
            obtain ⟨i, hi, rfl, hbw, ql, hr, hql, hlt, hv, hzero⟩ := hrel
            have HV := hide hv
            have HZ2 := hide hzero
            have HC := hide hql
            clear hv hzero
            by_cases hil : i < L.length - k / 32
            · have c1 := s1.at_ hbw (i + k / 32) (by omega)
              have c2 := hr.cell i (by omega)
              have f2 := hr.free i
              have p1 := getD_lt L s1.lt (i + k / 32)
              clear hql
              obtain ⟨X1, hX1⟩ : ∃ X, X = L.getD (i + k / 32) 0 := ⟨_, rfl⟩
              obtain ⟨Z, hZ⟩ : ∃ Z, Z = ql.getD i 0 := ⟨_, rfl⟩
              rw [← hX1] at c1 p1
              rw [← hZ] at c2
              have HX1 := hide hX1
              clear hX1 hZ
              by_cases hmore : i + k / 32 + 1 < L.length
              · have c3 := s1.at_ hbw (i + k / 32 + 1) (by omega)
                have p3 := getD_lt L s1.lt (i + k / 32 + 1)
                obtain ⟨Y1, hY1⟩ : ∃ Y, Y = L.getD (i + k / 32 + 1) 0 := ⟨_, rfl⟩
                rw [← hY1] at c3 p3
                have HY1 := hide hY1
                clear hY1
                go_wp2
                go_roundw
                case rel =>
                  have hL := unhide HL
                  refine ⟨i + 1, by omega, by simp, shr_rel hbw hr (unhide HC) hlt hil (unhide HV) (unhide HZ2) (shr_pair x k i X1 Y1 ?_ ?_ p1 p3)⟩
                  · rw [← hL]; exact unhide HX1
                  · rw [← hL]; exact unhide HY1
                case measure => simp [intOf]; omega
              · go_wp2
                go_roundw
                case rel =>
                  have hL := unhide HL
                  refine ⟨i + 1, by omega, by simp, shr_rel hbw hr (unhide HC) hlt hil (unhide HV) (unhide HZ2) (shr_single x k i X1 ?_ ?_)⟩
                  · rw [← hL]; exact unhide HX1
                  · rw [← hL]; omega
                case measure => simp [intOf]; omega
            · have hi' : i = L.length - k / 32 := by omega
              subst hi'
              have hv : val ql = x / 2 ^ k := by
                have hL := unhide HL
                rw [unhide HV, hL, shr_end x k (by rw [← hL]; omega)]
              have ht := trim_any _ _ _ _ (hr.sl hlt) (by omega)
              rw [hql, hv] at ht
              have HT := hide ht
              have HV2 := hide hv
              clear hv ht HV hql
              go_wp2_with (go_at_call 60; refine (unhide HT).mono ?_; rintro e w' ⟨rfl, a', cap', rfl, ht⟩)
              go_ret2
              refine ⟨a', cap', ?_, ?_, hbw⟩
              · first
                  | exact ret_two rfl (lost_fin_false x k X L (unhide HL) (by omega) (unhide HX) p0 (unhide HZ))
                  | exact ret_two rfl (lost_fin_true x k L (unhide HL) (by omega) (unhide HZ))
              · rw [← unhide HV2]
                rw [← unhide HC, ← unhide HV2] at ht
                exact Res.of_trim hr hlt (Nat.le_refl _) ht

end Go.Proofs.YgcoaaGreat.NatW
