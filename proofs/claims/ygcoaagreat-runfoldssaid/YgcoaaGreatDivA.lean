/-
  divLimb, guess: the walks.
-/
import Derived.Test.YgcoaaGreatPow
import Derived.Test.YgcoaaGreatDivPlain
set_option linter.unusedVariables false
set_option linter.unusedSimpArgs false
namespace Go.Proofs.YgcoaaGreat.NatW
open Go.RowKit
open Go.Proofs.YgcoaaGreat.Limbs

theorem or_join (R X : Nat) (hR : R < 4294967296) (hX : X < 4294967296) : bits .or .u64 ((R : Int) * 4294967296) (X : Int) = (R : Int) * 4294967296 + (X : Int) := by
  have e : (R : Int) * 4294967296 = ((R * 4294967296 : Nat) : Int) := by simp
  rw [e, u64_or_nat _ _ (by omega) (by omega), nat_join 32 _ _ (by omega) hX]
  simp

set_option maxRecDepth 20000 in
set_option maxHeartbeats 1000000 in
theorem divLimb_any (w : World) (a : Option Addr) (cap : Nat) (L : List Nat) (x : Nat) (hx : val L = x) (h : Sl w a cap L) (hb : L.length ≤ 70368744177664) (d : Nat) (hd0 : 0 < d) (hd : d < 4294967296) :
    Calls Oaag.prog 113 #[.slice a L.length cap, .int .u32 d] w fun e w' => ∃ a' cap', e = .returned (.tuple #[.slice a' (lim (x / d)).length cap', .int .u32 (x % d : Nat)]) ∧ Res w.heap.size w' a' cap' (x / d) ∧ Below w.heap.size w w' := by
  have HX := hide hx
  clear hx
  go_enter Oaag.func113, Oaag.ntmps113
  go_wp2_with (at_make; refine wpList_mk _ rfl (.tmp 10) rfl L.length _ rfl rfl (by omega) ?_; intro w1 hr1 hb1)
  go_loopw [8, 7] (fun t r wr => ∃ m R : Nat, m ≤ L.length ∧ R < d ∧ t = .int .i64 ((m : Int) - 1) ∧ r = .int .u64 R ∧ Below w.heap.size w wr ∧ ∃ ql, Row wr w.heap.size ql ∧ ql.length = L.length ∧ Lt ql ∧ R = val (L.drop m) % d ∧ val ql = 4294967296 ^ m * (val (L.drop m) / d) ∧ ∀ t, t < m → ql.getD t 0 = 0)
    (fun t _ _ => (intOf t + 1).toNat)
  case atStart => exact ⟨L.length, 0, Nat.le_refl _, hd0, rfl, rfl, hb1, _, hr1, by simp, Lt_replicate _, by simp [val], by simp [val_replicate, val], fun t _ => getD_replicate _ _⟩
  case round =>
    clear hb1 hr1
    obtain ⟨m, R, hm, hR, rfl, rfl, hbw, ql, hr, hql, hlt, hRv, hv, hzero⟩ := hrel
    have HR := hide hRv
    have HV := hide hv
    have HZ := hide hzero
    have HC := hide hql
    clear hRv hv hzero
    by_cases hm0 : m = 0
    · subst hm0
      have hv : val ql = x / d := by
        rw [unhide HV]; simp [unhide HX]
      have ht := trim_any _ _ _ _ (hr.sl hlt) (by omega)
      rw [hql, hv] at ht
      have HT := hide ht
      have HV2 := hide hv
      clear hv ht HV hql
      go_wp2_with (go_at_call 60; refine (unhide HT).mono ?_; rintro e w' ⟨rfl, a', cap', rfl, ht⟩)
      go_ret2
      refine ⟨a', cap', ?_, ?_, hbw⟩
      · have e : R = x % d := by rw [unhide HR]; simp [unhide HX]
        rw [← e]; rfl
      · rw [← unhide HV2]
        rw [← unhide HC, ← unhide HV2] at ht
        exact Res.of_trim hr hlt (Nat.le_refl _) ht
    · obtain ⟨j, rfl⟩ : ∃ j, m = j + 1 := ⟨m - 1, by omega⟩
      obtain ⟨b1, o1, rfl, -⟩ := h.row (by omega)
      have c1 := h.at_ hbw j (by omega)
      have c2 := hr.cell j (by omega)
      have f2 := hr.free j
      have p1 := getD_lt L h.lt j
      clear hql
      obtain ⟨X, hX⟩ : ∃ X, X = L.getD j 0 := ⟨_, rfl⟩
      obtain ⟨Z, hZ⟩ : ∃ Z, Z = ql.getD j 0 := ⟨_, rfl⟩
      rw [← hX] at c1 p1
      rw [← hZ] at c2
      have HX1 := hide hX
      clear hX hZ
      have hor := or_join R X (by omega) p1
      have ej : ((j + 1 : Nat) : Int) - 1 = (j : Int) := by omega
      rw [ej]
      clear ej
      go_wp2
      go_roundw
      case rel =>
        have hst := divLimb_step L ql j d R X (by omega) (by rw [unhide HC]; omega) hd0 (unhide HX1) (unhide HR) (unhide HV) (unhide HZ j (by omega))
        have hdl := digit_lt R d X hR p1
        refine ⟨j, (R * 4294967296 + X) % d, by omega, Nat.mod_lt _ hd0, rfl, by simp, below_store hbw (Nat.le_refl _) _, _, hr.put j ((R * 4294967296 + X) / d) _ ?_, by simpa using unhide HC, Lt_set hlt _ _ hdl, hst.1, hst.2, ?_⟩
        · have e : ((R : Int) * 4294967296 + X) / d = (((R * 4294967296 + X) / d : Nat) : Int) := by simp
          rw [e]
          have key : ∀ z : Nat, z < 4294967296 → (z : Int) % 4294967296 = z := fun z hz => by omega
          exact key _ hdl
        · intro t ht
          rw [gset_ne _ _ _ _ (by omega)]
          exact unhide HZ t (by omega)
      case measure => simp [intOf]

set_option maxRecDepth 20000 in
set_option maxHeartbeats 1000000 in
theorem guess_any (w : World) (u2 u1 u0 d1 d0 : Nat) (h2 : u2 ≤ d1) (h1 : u1 < 4294967296) (h0 : u0 < 4294967296) (hd1 : d1 < 4294967296) (hd0 : d0 < 4294967296) (hd : 2147483648 ≤ d1) :
    Calls Oaag.prog 211 #[.int .u32 u2, .int .u32 u1, .int .u32 u0, .int .u32 d1, .int .u32 d0] w fun e w' => e = .returned (.int .u32 (gst (u2 * 4294967296 + u1) u0 d1 d0 : Nat)) ∧ ∃ n, w' = w.drewN n := by
  have hs := guess_start (u2 * 4294967296 + u1) u2 u1 u0 d1 d0 rfl h1 h0 h2 hd1 hd
  have HS := hide hs
  clear hs
  have hor := or_join u2 u1 (by omega) h1
  obtain ⟨head, hh⟩ : ∃ head, head = u2 * 4294967296 + u1 := ⟨_, rfl⟩
  have hhi : (u2 : Int) * 4294967296 + u1 = (head : Int) := by omega
  rw [hhi] at hor
  have hhl : head < 18446744073709551616 := by omega
  have HH := hide hh
  have hq0 : 0 ≤ (head : Int) / (d1 : Int) := by rw [← Int.natCast_ediv]; exact Int.natCast_nonneg _
  have hq1 : (head : Int) / (d1 : Int) ≤ 4294967297 := by
    have := (unhide HS).2.2.1
    rw [← hh] at this
    rw [← Int.natCast_ediv]; omega
  clear hh hhi
  go_enter Oaag.func211, Oaag.ntmps211
  go_wp2_with fail
  go_quiet (fail)
  go_wp2
  go_loop [12, 13] (fun e r => ∃ est rest : Nat, e = .int .u64 est ∧ r = .int .u64 rest ∧ est * d1 + rest = head ∧ rest < 4294967296 ∧ est ≤ 4294967297 ∧ (est = 4294967297 → rest + d1 < 4294967296) ∧ gst head u0 d1 d0 ≤ est) (fun e _ => (intOf e).toNat)
  case atStart =>
    have hs := unhide HS
    rw [← unhide HH] at hs
    exact ⟨head / d1, head % d1, by simp, by simp, hs.1, by omega, hs.2.2.1, hs.2.2.2.1, hs.2.2.2.2⟩
  case round =>
    clear HS hor
    obtain ⟨est, rest, rfl, rfl, he, hr, he2, he3, hm⟩ := hrel
    have HE := hide he
    have HE3 := hide he3
    have HM := hide hm
    clear he he3 hm
    by_cases hbig : 4294967296 ≤ est
    · have hgo := guess_go est rest head u0 d1 d0 (by omega) (unhide HE) (.inl hbig) (unhide HM)
      obtain ⟨g1, g2, g3⟩ := hgo
      have G2 := hide g2
      have G3 := hide g3
      clear g2 g3
      have hbig2 : (4294967296 : Int) ≤ (est : Int) := by omega
      have HB := hide hbig
      clear hbig
      by_cases hover : rest + d1 < 4294967296
      · have hd2 : decide ((4294967296 : Int) ≤ (rest : Int) + (d1 : Int)) = false := decide_eq_false (by omega)
        go_wp2
        go_round
        case rel =>
          have hb := unhide HB
          exact ⟨est - 1, rest + d1, by go_num, by simp, unhide G3, hover, by omega, by omega, unhide G2⟩
        case measure => simp [intOf]; omega
      · have hover2 : (4294967296 : Int) ≤ (rest : Int) + (d1 : Int) := by omega
        have HO := hide hover
        clear hover
        go_wp2
        go_ret
        refine ⟨ret_int ?_, nq, rfl⟩
        have hb := unhide HB
        have ho := unhide HO
        have h3 := unhide HE3
        have e : est = 4294967296 := by omega
        have := guess_exit (est - 1) (rest + d1) head u0 d1 d0 (by omega) (unhide G3) (by omega) (guess_far _ _ _ _ (by omega) hd0 (by omega)) (unhide G2)
        rw [← unhide HH, ← this]
        omega
    · have hsm : est < 4294967296 := by omega
      clear hbig
      have hd3 : decide ((4294967296 : Int) ≤ (est : Int)) = false := decide_eq_false (by omega)
      have hor2 := or_join rest u0 hr h0
      have hp := prod_lt est d0 (by omega) hd0
      have hp1 : (est : Int) * (d0 : Int) ≤ 18446744065119617025 := by rw [← Int.natCast_mul]; omega
      have hp0 : 0 ≤ (est : Int) * (d0 : Int) := by rw [← Int.natCast_mul]; omega
      have HP := hide hp
      clear hp
      by_cases hgt : rest * 4294967296 + u0 < est * d0
      · have hgo := guess_go est rest head u0 d1 d0 (by omega) (unhide HE) (.inr hgt) (unhide HM)
        obtain ⟨g1, g2, g3⟩ := hgo
        have G2 := hide g2
        have G3 := hide g3
        clear g2 g3
        have hgt2 : (rest : Int) * 4294967296 + (u0 : Int) < (est : Int) * (d0 : Int) := by rw [← Int.natCast_mul]; omega
        have HG := hide hgt
        clear hgt
        by_cases hover : rest + d1 < 4294967296
        · have hd2 : decide ((4294967296 : Int) ≤ (rest : Int) + (d1 : Int)) = false := decide_eq_false (by omega)
          go_wp2
          go_round
          case rel =>
            exact ⟨est - 1, rest + d1, by go_num, by simp, unhide G3, hover, by omega, by omega, unhide G2⟩
          case measure => simp [intOf]; omega
        · have hover2 : (4294967296 : Int) ≤ (rest : Int) + (d1 : Int) := by omega
          have HO := hide hover
          clear hover
          go_wp2
          go_ret
          refine ⟨ret_int ?_, nq, rfl⟩
          have ho := unhide HO
          have := guess_exit (est - 1) (rest + d1) head u0 d1 d0 (by omega) (unhide G3) (by omega) (guess_far _ _ _ _ (by omega) hd0 (by omega)) (unhide G2)
          rw [← unhide HH, ← this]
          omega
      · have hgt2 : ¬ (rest : Int) * 4294967296 + (u0 : Int) < (est : Int) * (d0 : Int) := by rw [← Int.natCast_mul]; omega
        have HG := hide hgt
        clear hgt
        go_wp2
        go_ret
        refine ⟨ret_int ?_, nq, rfl⟩
        have hg := unhide HG
        have := guess_exit est rest head u0 d1 d0 (by omega) (unhide HE) (by omega) (by omega) (unhide HM)
        rw [← unhide HH, ← this]

end Go.Proofs.YgcoaaGreat.NatW
