/-
  Mul: the walk.
-/
import Derived.Test.YgcoaaGreatNatA
import Derived.Test.YgcoaaGreatLimbs3
set_option linter.unusedVariables false
set_option linter.unusedSimpArgs false
namespace Go.Proofs.YgcoaaGreat.NatW
open Go.RowKit
open Go.Proofs.YgcoaaGreat.Limbs

/-- A cell of what was readable, in a later world. -/
theorem Sl.at_ {w wr : World} {b off cap : Nat} {l : List Nat} (h : Sl w (some ⟨b, off, none⟩) cap l) (hb : Below w.heap.size w wr) (i : Nat) (hi : i < l.length) :
    wr.cell? ⟨b, off + i, none⟩ = some (.int .u32 (l.getD i 0 : Nat)) := by
  obtain ⟨b', o', e, hc⟩ := h.row (by omega)
  cases e
  exact (hb.cell (World.block_lt_of_cell? _ _ (hc i hi))).trans (hc i hi)

theorem Row.put {w : World} {g : Nat} {l : List Nat} (h : Row w g l) (i x : Nat) (v : Int) (hv : v = (x : Nat)) : Row (w.setCell ⟨g, i, none⟩ (.int .u32 v)) g (l.set i x) := by
  subst hv; exact h.set i x
theorem Row.drewN {w : World} {g : Nat} {l : List Nat} (h : Row w g l) (n : Nat) : Row (w.drewN n) g l := h

set_option maxRecDepth 20000 in
set_option maxHeartbeats 1000000 in
theorem mul_any (w : World) (a : Option Addr) (cap : Nat) (l : List Nat) (x : Nat) (hx : val l = x) (h : Sl w a cap l)
    (a2 : Option Addr) (cap2 : Nat) (l2 : List Nat) (y : Nat) (hy : val l2 = y) (h2 : Sl w a2 cap2 l2) (hb : l.length + l2.length ≤ 70368744177664) :
    Calls Oaag.prog 27 #[.slice a l.length cap, .slice a2 l2.length cap2] w fun e w' => ∃ a' cap', e = .returned (.slice a' (lim (x * y)).length cap') ∧ Res w.heap.size w' a' cap' (x * y) ∧ Below w.heap.size w w' := by
  have ht1 := trim_any w a cap l h (by omega)
  have ht2 := trim_any w a2 cap2 l2 h2 (by omega)
  have hle := lim_length_le' l h.lt
  have hle2 := lim_length_le' l2 h2.lt
  rw [hx] at ht1 hle
  rw [hy] at ht2 hle2
  have HT1 := hide ht1
  have HT2 := hide ht2
  clear ht1 ht2
  go_enter Oaag.func27, Oaag.ntmps27
  go_wp2_with fail
  refine (unhide HT1).mono ?_; rintro e w' ⟨rfl, a1', cap1', rfl, ht1⟩
  go_wp2_with fail
  refine (unhide HT2).mono ?_; rintro e w' ⟨rfl, a2', cap2', rfl, ht2⟩
  rw [← hx] at ht1
  rw [← hy] at ht2
  have s1 := h.trim ht1
  have s2 := h2.trim ht2
  rw [hx] at s1
  rw [hy] at s2
  clear HT1 HT2 ht1 ht2 h h2 hx hy
  obtain ⟨L, hL⟩ : ∃ L, L = lim x := ⟨_, rfl⟩
  obtain ⟨M, hM⟩ : ∃ M, M = lim y := ⟨_, rfl⟩
  rw [← hL] at s1 hle ⊢
  rw [← hM] at s2 hle2 ⊢
  have HL := hide hL
  have HM := hide hM
  clear hL hM
  have hbound : L.length + M.length ≤ 70368744177664 := by omega
  clear hle hle2 hb
  go_wp2_with (at_make; refine wpList_mk _ rfl (.tmp 17) rfl (L.length + M.length) _ rfl (by omega) (by omega) ?_; intro w1 hr1 hb1)
  have hz1 := hr1.size
  go_loopw [21] (fun t wr => ∃ k : Nat, k ≤ L.length ∧ t = .int .i64 k ∧ Below w.heap.size w wr ∧ ∃ cl, Row wr w.heap.size cl ∧ cl.length = L.length + M.length ∧ Lt cl ∧ val cl = val (L.take k) * val M ∧ ∀ t, k + M.length ≤ t → cl.getD t 0 = 0)
    (fun t _ => L.length - (intOf t).toNat)
  case atStart => exact ⟨0, Nat.zero_le _, rfl, hb1, _, hr1, by simp, Lt_replicate _, by simp [val_replicate, val], fun t _ => getD_replicate _ _⟩
  case round =>
    obtain ⟨k, hk, rfl, hbw, cl, hr, hcl, hlt, hv, hzero⟩ := hrel
    have HV := hide hv
    have HZ := hide hzero
    have HC := hide hcl
    clear hv hzero hcl hr1 hb1
    by_cases hkl : k < L.length
    · obtain ⟨b1, o1, rfl, -⟩ := s1.row (by omega)
      go_wp2
      go_loopw [26, 7] (fun t c wr => ∃ j C : Nat, j ≤ M.length ∧ C < 4294967296 ∧ t = .int .i64 j ∧ c = .int .u64 C ∧ Below w.heap.size w wr ∧ ∃ cl, Row wr w.heap.size cl ∧ cl.length = L.length + M.length ∧ Lt cl ∧ val cl + 4294967296 ^ (k + j) * C = val (L.take k) * val M + 4294967296 ^ k * (L.getD k 0 * val (M.take j)) ∧ ∀ t, k + M.length ≤ t → cl.getD t 0 = 0)
        (fun t _ _ => M.length - (intOf t).toNat)
      case atStart => exact ⟨0, 0, Nat.zero_le _, by omega, rfl, rfl, hbw, cl, hr, unhide HC, hlt, by simp [val, unhide HV], unhide HZ⟩
      case round =>
        clear hr hbw HV HZ HC hlt
        obtain ⟨j, C, hj, hC, rfl, rfl, hbw, cl, hr, hcl, hlt, hv, hzero⟩ := hrel
        have HV := hide hv
        have HZ := hide hzero
        have HC := hide hcl
        clear hv hzero
        by_cases hjl : j < M.length
        · obtain ⟨b2, o2, rfl, -⟩ := s2.row (by omega)
          have c1 := s1.at_ hbw k (by omega)
          have c2 := s2.at_ hbw j (by omega)
          have c3 := hr.cell (k + j) (by omega)
          have f3 := hr.free (k + j)
          have p1 := getD_lt L s1.lt k
          have p2 := getD_lt M s2.lt j
          have p3 := getD_lt cl hlt (k + j)
          have hlen : cl.length = L.length + M.length := hcl
          clear hcl
          obtain ⟨X, hX⟩ : ∃ X, X = L.getD k 0 := ⟨_, rfl⟩
          obtain ⟨Y, hY⟩ : ∃ Y, Y = M.getD j 0 := ⟨_, rfl⟩
          obtain ⟨Z, hZ⟩ : ∃ Z, Z = cl.getD (k + j) 0 := ⟨_, rfl⟩
          rw [← hX] at c1 p1
          rw [← hY] at c2 p2
          rw [← hZ] at c3 p3
          have hp : (X : Int) * (Y : Int) ≤ 18446744065119617025 := by have := prod_lt X Y p1 p2; rw [← Int.natCast_mul]; omega
          have hp0 : 0 ≤ (X : Int) * (Y : Int) := by rw [← Int.natCast_mul]; omega
          have HX := hide hX
          have HY := hide hY
          have HZ' := hide hZ
          have HN := hide hlen
          clear hX hY hZ hlen
          go_wp2_with fail
          go_quiet (fail)
          go_wp2
          go_roundw
          case rel =>
            have ex : C + (X * Y + Z) = C + (L.getD k 0 * M.getD j 0 + cl.getD (k + j) 0) := by rw [unhide HX, unhide HY, unhide HZ']
            have hN := unhide HN
            have hxy := prod_lt X Y p1 p2
            refine ⟨j + 1, (C + (X * Y + Z)) / 4294967296, by omega, by omega, by simp, by go_num, below_store (below_drewN hbw _) (Nat.le_refl _) _, _, (hr.drewN nq).put (k + j) ((C + (X * Y + Z)) % 4294967296) _ (by omega), by simpa using hN, Lt_set hlt _ _ (by omega), ?_, ?_⟩
            · exact mul_step cl M k j _ C _ _ hjl (by omega) ex (unhide HV)
            · intro t ht
              rw [gset_ne _ _ _ _ (by omega)]
              exact unhide HZ t ht
          case measure => simp [intOf]; omega
        · have hjl' : j = M.length := by omega
          subst hjl'
          have c3 := hr.cell (k + M.length) (by omega)
          have f3 := hr.free (k + M.length)
          obtain ⟨Z, hZ⟩ : ∃ Z, Z = cl.getD (k + M.length) 0 := ⟨_, rfl⟩
          rw [← hZ] at c3
          have hzz := unhide HZ (k + M.length) (Nat.le_refl _)
          have HZZ := hide hzz
          clear hZ hcl hzz
          go_wp2
          go_roundw
          case rel =>
            have hN := unhide HC
            refine ⟨k + 1, by omega, by simp, below_store hbw (Nat.le_refl _) _, _, hr.put (k + M.length) C _ (by omega), by simpa using hN, Lt_set hlt _ _ hC, ?_, ?_⟩
            · rw [mul_top cl M k _ C _ (by omega) (unhide HZZ) (unhide HV), mul_next L k _ hkl]
            · intro t ht
              rw [gset_ne _ _ _ _ (by omega)]
              exact unhide HZ t (by omega)
          case measure => simp [intOf]; omega
    · have hk' : k = L.length := by omega
      subst hk'
      have hv : val cl = x * y := by
        have := unhide HV
        rw [List.take_length, unhide HL, unhide HM, val_lim, val_lim] at this
        exact this
      have hcl := unhide HC
      have ht := trim_any _ _ _ _ (hr.sl hlt) (by omega)
      rw [hcl, hv] at ht
      have HT := hide ht
      have HV2 := hide hv
      clear hv ht HV hcl
      go_wp2_with (go_at_call 60; refine (unhide HT).mono ?_; rintro e w' ⟨rfl, a', cap', rfl, ht⟩)
      go_ret
      refine ⟨_, _, rfl, ?_, hbw⟩
      rw [← unhide HV2]
      rw [← unhide HC, ← unhide HV2] at ht
      exact Res.of_trim hr hlt (Nat.le_refl _) ht

end Go.Proofs.YgcoaaGreat.NatW
