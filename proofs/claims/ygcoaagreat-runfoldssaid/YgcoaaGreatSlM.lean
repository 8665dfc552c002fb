/-
  Package slow: quotient returns.
-/
import Derived.Test.YgcoaaGreatSlL
set_option linter.unusedVariables false
set_option linter.unusedSimpArgs false
set_option maxRecDepth 20000
namespace Go.Proofs.YgcoaaGreat.NatW
open Go.RowKit
open Go.Proofs.YgcoaaGreat.Det
attribute [local go_sem] Go.Instr.field Go.asAgg

theorem shl_q {W : World} {b n : Nat} {c : Nat → Nat} {k : Int} {K : Ending → World → Prop} (hX : BigX b n c W) (ht : W.tape = fun _ _ => 0) (h0 : 0 ≤ k) (h1 : k ≤ 4000)
    (hK : ∀ W', ShP b (min (n + (k / 64).toNat + 1) 52) (k / 64).toNat (k % 64).toNat c W W' → K (.returned (.tuple #[])) W') : Calls Oaag.prog 356 #[.pointer (some ⟨b, 0, none⟩), .int .i64 k] W K := by
  refine (shl_run W b n c k (k / 64).toNat (k % 64).toNat h0 h1 (by omega) (by omega) hX ht).mono ?_
  rintro _ W' ⟨rfl, hP⟩
  exact hK W' hP
theorem div_q {W : World} {a b d : Int} {K : Ending → World → Prop} (ha : U64 a) (hb : U64 b) (hd : U64 d) (hK : ∀ q r o W', U64 q → Below W.heap.size W W' → K (.returned (.tuple #[.int .u64 q, .int .u64 r, .bool o])) W') : Calls Oaag.prog 358 #[.agg #[.int .u64 a, .int .u64 b], .int .u64 d] W K := by
  refine (div_ret a b d ha hb hd) W K ?_
  rintro _ W' ⟨q, r, o, rfl, uq, ur⟩ hbl
  exact hK q r o W' uq hbl
theorem low6 (n : Int) : bits .and .i64 n 63 = n % 64 := by
  have hm : (BitVec.ofInt 64 63).toNat = 2 ^ 6 - 1 := by decide
  have hb : (BitVec.ofInt 64 n &&& BitVec.ofInt 64 63).toNat = (n % ((2 ^ 64 : Nat) : Int)).toNat % 2 ^ 6 := by
    rw [BitVec.toNat_and, BitVec.toNat_ofInt, hm, Nat.and_two_pow_sub_one_eq_mod]
  show IntKind.i64.wrap ((BitVec.ofInt 64 n &&& BitVec.ofInt 64 63).toNat : Nat) = n % 64
  rw [hb, IntKind.wrap_i64]
  omega
theorem or64q (x y : Int) : U64 (bits .or .u64 x y) := by
  unfold bits
  exact wr64 _
def limbAt (W : World) (b i : Nat) : Nat := match W.cell? ⟨b, 1 + i, none⟩ with
  | some (.int _ v) => v.toNat
  | _ => 0
theorem nval_congr {c d : Nat → Nat} : ∀ k, (∀ i, i < k → c i = d i) → nval c k = nval d k
  | 0, _ => rfl
  | k + 1, h => by
    unfold nval
    rw [nval_congr k (fun i hi => h i (by omega)), h k (by omega)]
theorem nval_at {b n : Nat} {c : Nat → Nat} {W : World} (h : BigX b n c W) : nval (limbAt W b) 52 = nval c 52 :=
  nval_congr 52 fun i hi => by unfold limbAt; rw [h.cw i hi]; simp
def ZZ : Nat := 18446744073709551616 ^ 52
def qMeas (bx : Nat) (t12 : Value) (wr : World) : Nat := match t12 with
  | .bool true => 1 + (ZZ - nval (limbAt wr bx) 52)
  | _ => 0
/-- What stands in quotient's loop. -/
def QlR (w : World) (bx nx bY ny : Nat) (cy : Nat → Nat) (p : Nat) (t9 t12 : Value) (wr : World) : Prop :=
  ∃ (sg : Int) (b : Bool) (c : Nat → Nat), t9 = .int .u64 sg ∧ U64 sg ∧ t12 = .bool b ∧ QS w bx nx c bY ny cy p wr
theorem q_dec (z x x' y t : Nat) (he : x' + 0 * t = x + y) (h1 : 1 ≤ y) (h2 : x' < z) : 1 + (z - x') < 1 + (z - x) := by
  rw [Nat.zero_mul] at he
  omega
theorem qMeas_t (bx : Nat) (W : World) : qMeas bx (.bool true) W = 1 + (ZZ - nval (limbAt W bx) 52) := rfl
theorem qMeas_f (bx : Nat) (W : World) : qMeas bx (.bool false) W = 0 := rfl
theorem zz_lt {c : Nat → Nat} (h : ∀ i, c i < 18446744073709551616) : nval c 52 < ZZ := by
  unfold ZZ
  exact nval_lt c h 52
theorem q_round {w : World} {bx nx bY ny : Nat} {c cy c' : Nat → Nat} {p : Nat} {cr : Bool} {W W' : World} (hp : p < 3328) (h : QS w bx nx c bY ny cy p W) (hX : BigX bx nx c' W') (he : nval c' 52 + b2n cr * 18446744073709551616 ^ 52 = nval c 52 + nval cy 52) :
    qMeas bx (.bool (!cr)) W' < qMeas bx (.bool true) W := by
  rw [qMeas_t, nval_at h.x]
  cases cr
  · rw [Bool.not_false, qMeas_t, nval_at hX]
    exact q_dec _ _ _ _ _ he (nval_top h.top hp) (zz_lt hX.u)
  · rw [Bool.not_true, qMeas_f, Nat.add_comm]
    exact Nat.succ_pos _

/-- What quotient answers. -/
def QuR (v : Value) : Prop := ∃ q e : Int, v = .tuple #[.int .u64 q, .int .i64 e] ∧ U64 q ∧ -10000 ≤ e ∧ e ≤ 10000

set_option maxHeartbeats 4000000 in
theorem quot_run (w : World) (bx nx bY ny : Nat) (cx cy : Nat → Nat) (hX : BigX bx nx cx w) (hY : BigX bY ny cy w) (hxy : bx ≠ bY) (hnx : nx ≤ 51) (hny : ny ≤ 51) (hNz : Nz ny cy) (hz : ∀ j, ny ≤ j → cy j = 0) (ht : w.tape = fun _ _ => 0) :
    Calls Oaag.prog 210 #[.pointer (some ⟨bx, 0, none⟩), .pointer (some ⟨bY, 0, none⟩)] w (fun z w' => ∃ v, z = .returned v ∧ QuR v ∧ Keep2 bx bY w w' ∧ w'.tape = (fun _ _ => 0)) := by
  go_enter Oaag.func210, Oaag.ntmps210
  go_wp2_with fail
  refine (bits_x355 w bx nx cx hX ht).mono ?_
  rintro _ W1 ⟨B1, rfl, hb1, hB1⟩
  have b1lo : 0 ≤ B1 ∧ B1 ≤ 3264 := by
    rcases Nat.eq_zero_or_pos nx with e | e
    · have := hB1.1 e; omega
    · obtain ⟨k, k0, k1, e1, _⟩ := hB1.2 e; omega
  go_wp2_with fail
  refine (bits_x355 W1 bY ny cy (hY.later hb1) (hb1.tape.trans ht)).mono ?_
  rintro _ W2 ⟨B2, rfl, hb2, hB2⟩
  obtain ⟨p, hp, rfl⟩ := top_of_bits hNz hz hB2
  have S : QS w bx nx cx bY ny cy p W2 := ⟨(hX.later hb1).later hb2, (hY.later hb1).later hb2, hp, hb2.tape.trans (hb1.tape.trans ht), ((Keep2.refl _ _ _).later hb1).later hb2⟩
  have hp1 : p < 3264 := by have := hp.n; omega
  obtain ⟨ex, hex⟩ : ∃ ex, B1 - ((p : Int) + 1) = ex := ⟨_, rfl⟩
  have he1 : -3264 ≤ ex ∧ ex ≤ 3264 := by omega
  have hpe : (p : Int) + ex < 3264 := by omega
  clear hX hY hb1 hb2 hB1 hB2 hNz hz hp
  have HS := hide S
  clear S
  by_cases hneg : ex < 0
  · go_wp2_with (first
      | (with_reducible refine at_fn 356 ?_
         refine shl_q (unhide HS).x (unhide HS).tape (by omega) (by omega) ?_
         intro W3 hP
         obtain ⟨nx3, cx3, S3⟩ := (unhide HS).shlx hxy hP
         obtain ⟨p3, hp3e⟩ : ∃ p3, p = p3 := ⟨_, rfl⟩
         have hp3 : p3 < 3264 := by omega
         rw [hp3e] at S3
         have HS3 := hide S3
         clear hP S3 HS hp3e)
      | (with_reducible refine at_fn 357 ?_
         refine (less_run _ bx _ bY _ _ _ (unhide HS3).x (unhide HS3).y (unhide HS3).tape).mono ?_
         rintro _ W4 ⟨_, rfl, ⟨q, rfl⟩, hb4⟩
         have HS4 := hide ((unhide HS3).later hb4)
         clear hb4 HS3)
      | (with_reducible refine at_fn 356 ?_
         refine shl_q (unhide HS4).y (unhide HS4).tape (by omega) (by omega) ?_
         intro W5 hP
         obtain ⟨ny5, cy5, S5⟩ := (unhide HS4).shly hxy (by omega) (by omega) hP
         obtain ⟨p5, hp5⟩ : ∃ p5, p3 + (64 * ((1 : Int) / 64).toNat + ((1 : Int) % 64).toNat) = p5 := ⟨_, rfl⟩
         rw [hp5] at S5
         have hp5' : p5 ≤ 3264 := by omega
         have HS5 := hide S5
         clear hP S5 HS4 hp5)
      | (with_reducible refine at_fn 355 ?_
         refine (bits_x355 _ bY _ _ (unhide HS5).y (unhide HS5).tape).mono ?_
         rintro _ W6 ⟨B6, rfl, hb6, hB6⟩
         have HS6 := hide ((unhide HS5).later hb6)
         obtain rfl := bits_of_top (unhide HS5).top hB6
         have hl6 := low6 (-((p5 : Int) + 1))
         clear hb6 hB6 HS5)
      | (with_reducible refine at_fn 355 ?_
         obtain ⟨p5, rfl⟩ : ∃ p5, p5 = p3 := ⟨_, rfl⟩
         have hp5' : p5 ≤ 3264 := by omega
         refine (bits_x355 _ bY _ _ (unhide HS4).y (unhide HS4).tape).mono ?_
         rintro _ W6 ⟨B6, rfl, hb6, hB6⟩
         have HS6 := hide ((unhide HS4).later hb6)
         obtain rfl := bits_of_top (unhide HS4).top hB6
         have hl6 := low6 (-((p5 : Int) + 1))
         clear hb6 hB6 HS4)
      | (with_reducible refine at_fn 356 ?_
         refine shl_q (unhide HS6).x (unhide HS6).tape (by omega) (by omega) ?_
         intro W7 hP
         obtain ⟨nx7, cx7, S7⟩ := (unhide HS6).shlx hxy hP
         have HS7 := hide S7
         clear hP S7 HS6)
      | (with_reducible refine at_fn 356 ?_
         refine shl_q (unhide HS7).y (unhide HS7).tape (by omega) (by omega) ?_
         intro W8 hP
         obtain ⟨ny8, cy8, S8⟩ := (unhide HS7).shly hxy (by omega) (by omega) hP
         obtain ⟨p8, hp8⟩ : ∃ p8, p5 + (64 * ((-((p5 : Int) + 1) % 64) / 64).toNat + ((-((p5 : Int) + 1) % 64) % 64).toNat) = p8 := ⟨_, rfl⟩
         rw [hp8] at S8
         have hp8' : p8 < 3328 := by omega
         obtain ⟨m, hm⟩ : ∃ m, p8 / 64 = m := ⟨_, rfl⟩
         have hm1 : ny8 = m + 1 := by have := S8.top.n; omega
         subst hm1
         have hm51 : m ≤ 51 := by omega
         have kn := S8.y.cn
         have ky := S8.y.cw m (by omega)
         have kx := S8.x.cw m (by omega)
         have kx2 := S8.x.cw (m - 1) (by omega)
         have ux := S8.x.u m
         have ux2 := S8.x.u (m - 1)
         have uy := S8.y.u m
         have HS8 := hide S8
         clear hP S8 HS7 hp8)
      | (with_reducible refine at_reg 13 ?_
         refine wp_region_zero_list (unhide HS8).tape (by kernel_rfl) ?_)
      | (with_reducible refine at_reg 14 ?_
         refine wp_region_zero_list (unhide HS8).tape (by kernel_rfl) ?_)
      | (with_reducible refine at_fn 358 ?_
         refine gen_calls ?_
         intro W hW
         have S8 : QS w bx nx7 cx7 bY (m + 1) cy8 p8 W := by
           rw [← hW]
           first
             | exact (unhide HS8).later (drew_below _)
             | exact ((unhide HS8).later (drew_below _)).later (drew_below _)
         clear hW HS8 kn ky kx kx2
         have v1 : U64 ((cx7 m : Nat) : Int) := ⟨by omega, by omega⟩
         have v2 : U64 ((cx7 (m - 1) : Nat) : Int) := ⟨by omega, by omega⟩
         have v3 : U64 ((cy8 m : Nat) : Int) := ⟨by omega, by omega⟩
         first
           | with_reducible refine div_q v1 v2 v3 ?_
           | with_reducible refine div_q v1 u64_zero v3 ?_
         intro sg rr okk W9 uq hb
         have HS9 := hide (S8.later hb)
         clear hb S8)
      | (with_reducible refine at_fn 356 ?_
         refine shl_q (unhide HS9).x (unhide HS9).tape (by omega) (by omega) ?_
         intro W10 hP
         obtain ⟨nx10, cx10, S10⟩ := (unhide HS9).shlx hxy hP
         have HS10 := hide S10
         clear hP S10 HS9)
      | (with_reducible refine at_fn 359 ?_
         refine (subMul_run _ bx _ bY _ _ _ _ (by first | exact uq | exact ⟨by omega, by omega⟩) (unhide HS10).x (unhide HS10).y hxy (unhide HS10).tape).mono ?_
         rintro _ W11 ⟨_, rfl, ⟨blw, rfl⟩, c11, hX11, hY11, hT11, hK11⟩
         have HS11 := hide (show QS w bx nx10 c11 bY (m + 1) cy8 p8 W11 from ⟨hX11, hY11, (unhide HS10).top, hT11, (unhide HS10).keep.left hK11⟩)
         clear hX11 hY11 hT11 hK11 HS10)
      | fail)
    all_goals
      go_loopw [9, 12] (fun t9 t12 wr => QlR w bx nx10 bY (m + 1) cy8 p8 t9 t12 wr) (fun _ t12 wr => qMeas bx t12 wr)
      case atStart => exact ⟨_, _, _, rfl, (by first | exact uq | exact ⟨by decide, by decide⟩), rfl, unhide HS11⟩
      case round =>
        obtain ⟨sg2, b2, c2, rfl, us2, rfl, S⟩ := hrel
        clear HS11
        have HS := hide S
        clear S
        cases b2
        · go_wp2_with (first
            | (with_reducible refine at_fn 361 ?_
               refine (isZero_run _ bx _ _ (unhide HS).x).mono ?_
               rintro _ _ ⟨_, rfl, ⟨zz, rfl⟩, rfl⟩)
            | fail)
          all_goals
            go_ret2
            exact ⟨_, rfl, ⟨_, _, rfl, (by first | exact us2 | exact or64q _ _), by omega, by omega⟩, (unhide HS).keep, (unhide HS).tape⟩
        · go_wp2_with (first
            | (with_reducible refine at_fn 360 ?_
               refine (add_run _ bx _ bY _ _ _ (unhide HS).x (unhide HS).y hxy (unhide HS).tape).mono ?_
               rintro _ W12 ⟨cr, c3, rfl, hX3, hY3, hT3, hK3, he3⟩
               have hms := q_round hp8' (unhide HS) hX3 he3
               have HMs := hide hms
               have HS12 := hide (show QS w bx nx10 c3 bY (m + 1) cy8 p8 W12 from ⟨hX3, hY3, (unhide HS).top, hT3, (unhide HS).keep.left hK3⟩)
               clear hms hX3 hY3 hT3 hK3 he3 HS)
            | fail)
          exact ⟨⟨_, _, c3, rfl, wr64 _, rfl, unhide HS12⟩, unhide HMs⟩
  · go_wp2_with (first
      | (with_reducible refine at_fn 356 ?_
         refine shl_q (unhide HS).y (unhide HS).tape (by omega) (by omega) ?_
         intro W3 hP
         obtain ⟨ny3, cy3, S3⟩ := (unhide HS).shly hxy (by omega) (by omega) hP
         obtain ⟨p3, hp3e⟩ : ∃ p3, p + (64 * (ex / 64).toNat + (ex % 64).toNat) = p3 := ⟨_, rfl⟩
         have hp3 : p3 < 3264 := by omega
         rw [hp3e] at S3
         have HS3 := hide S3
         clear hP S3 HS hp3e)
      | (with_reducible refine at_fn 357 ?_
         refine (less_run _ bx _ bY _ _ _ (unhide HS3).x (unhide HS3).y (unhide HS3).tape).mono ?_
         rintro _ W4 ⟨_, rfl, ⟨q, rfl⟩, hb4⟩
         have HS4 := hide ((unhide HS3).later hb4)
         clear hb4 HS3)
      | (with_reducible refine at_fn 356 ?_
         refine shl_q (unhide HS4).y (unhide HS4).tape (by omega) (by omega) ?_
         intro W5 hP
         obtain ⟨ny5, cy5, S5⟩ := (unhide HS4).shly hxy (by omega) (by omega) hP
         obtain ⟨p5, hp5⟩ : ∃ p5, p3 + (64 * ((1 : Int) / 64).toNat + ((1 : Int) % 64).toNat) = p5 := ⟨_, rfl⟩
         rw [hp5] at S5
         have hp5' : p5 ≤ 3264 := by omega
         have HS5 := hide S5
         clear hP S5 HS4 hp5)
      | (with_reducible refine at_fn 355 ?_
         refine (bits_x355 _ bY _ _ (unhide HS5).y (unhide HS5).tape).mono ?_
         rintro _ W6 ⟨B6, rfl, hb6, hB6⟩
         have HS6 := hide ((unhide HS5).later hb6)
         obtain rfl := bits_of_top (unhide HS5).top hB6
         have hl6 := low6 (-((p5 : Int) + 1))
         clear hb6 hB6 HS5)
      | (with_reducible refine at_fn 355 ?_
         obtain ⟨p5, rfl⟩ : ∃ p5, p5 = p3 := ⟨_, rfl⟩
         have hp5' : p5 ≤ 3264 := by omega
         refine (bits_x355 _ bY _ _ (unhide HS4).y (unhide HS4).tape).mono ?_
         rintro _ W6 ⟨B6, rfl, hb6, hB6⟩
         have HS6 := hide ((unhide HS4).later hb6)
         obtain rfl := bits_of_top (unhide HS4).top hB6
         have hl6 := low6 (-((p5 : Int) + 1))
         clear hb6 hB6 HS4)
      | (with_reducible refine at_fn 356 ?_
         refine shl_q (unhide HS6).x (unhide HS6).tape (by omega) (by omega) ?_
         intro W7 hP
         obtain ⟨nx7, cx7, S7⟩ := (unhide HS6).shlx hxy hP
         have HS7 := hide S7
         clear hP S7 HS6)
      | (with_reducible refine at_fn 356 ?_
         refine shl_q (unhide HS7).y (unhide HS7).tape (by omega) (by omega) ?_
         intro W8 hP
         obtain ⟨ny8, cy8, S8⟩ := (unhide HS7).shly hxy (by omega) (by omega) hP
         obtain ⟨p8, hp8⟩ : ∃ p8, p5 + (64 * ((-((p5 : Int) + 1) % 64) / 64).toNat + ((-((p5 : Int) + 1) % 64) % 64).toNat) = p8 := ⟨_, rfl⟩
         rw [hp8] at S8
         have hp8' : p8 < 3328 := by omega
         obtain ⟨m, hm⟩ : ∃ m, p8 / 64 = m := ⟨_, rfl⟩
         have hm1 : ny8 = m + 1 := by have := S8.top.n; omega
         subst hm1
         have hm51 : m ≤ 51 := by omega
         have kn := S8.y.cn
         have ky := S8.y.cw m (by omega)
         have kx := S8.x.cw m (by omega)
         have kx2 := S8.x.cw (m - 1) (by omega)
         have ux := S8.x.u m
         have ux2 := S8.x.u (m - 1)
         have uy := S8.y.u m
         have HS8 := hide S8
         clear hP S8 HS7 hp8)
      | (with_reducible refine at_reg 13 ?_
         refine wp_region_zero_list (unhide HS8).tape (by kernel_rfl) ?_)
      | (with_reducible refine at_reg 14 ?_
         refine wp_region_zero_list (unhide HS8).tape (by kernel_rfl) ?_)
      | (with_reducible refine at_fn 358 ?_
         refine gen_calls ?_
         intro W hW
         have S8 : QS w bx nx7 cx7 bY (m + 1) cy8 p8 W := by
           rw [← hW]
           first
             | exact (unhide HS8).later (drew_below _)
             | exact ((unhide HS8).later (drew_below _)).later (drew_below _)
         clear hW HS8 kn ky kx kx2
         have v1 : U64 ((cx7 m : Nat) : Int) := ⟨by omega, by omega⟩
         have v2 : U64 ((cx7 (m - 1) : Nat) : Int) := ⟨by omega, by omega⟩
         have v3 : U64 ((cy8 m : Nat) : Int) := ⟨by omega, by omega⟩
         first
           | with_reducible refine div_q v1 v2 v3 ?_
           | with_reducible refine div_q v1 u64_zero v3 ?_
         intro sg rr okk W9 uq hb
         have HS9 := hide (S8.later hb)
         clear hb S8)
      | (with_reducible refine at_fn 356 ?_
         refine shl_q (unhide HS9).x (unhide HS9).tape (by omega) (by omega) ?_
         intro W10 hP
         obtain ⟨nx10, cx10, S10⟩ := (unhide HS9).shlx hxy hP
         have HS10 := hide S10
         clear hP S10 HS9)
      | (with_reducible refine at_fn 359 ?_
         refine (subMul_run _ bx _ bY _ _ _ _ (by first | exact uq | exact ⟨by omega, by omega⟩) (unhide HS10).x (unhide HS10).y hxy (unhide HS10).tape).mono ?_
         rintro _ W11 ⟨_, rfl, ⟨blw, rfl⟩, c11, hX11, hY11, hT11, hK11⟩
         have HS11 := hide (show QS w bx nx10 c11 bY (m + 1) cy8 p8 W11 from ⟨hX11, hY11, (unhide HS10).top, hT11, (unhide HS10).keep.left hK11⟩)
         clear hX11 hY11 hT11 hK11 HS10)
      | fail)
    all_goals
      go_loopw [9, 12] (fun t9 t12 wr => QlR w bx nx10 bY (m + 1) cy8 p8 t9 t12 wr) (fun _ t12 wr => qMeas bx t12 wr)
      case atStart => exact ⟨_, _, _, rfl, (by first | exact uq | exact ⟨by decide, by decide⟩), rfl, unhide HS11⟩
      case round =>
        obtain ⟨sg2, b2, c2, rfl, us2, rfl, S⟩ := hrel
        clear HS11
        have HS := hide S
        clear S
        cases b2
        · go_wp2_with (first
            | (with_reducible refine at_fn 361 ?_
               refine (isZero_run _ bx _ _ (unhide HS).x).mono ?_
               rintro _ _ ⟨_, rfl, ⟨zz, rfl⟩, rfl⟩)
            | fail)
          all_goals
            go_ret2
            exact ⟨_, rfl, ⟨_, _, rfl, (by first | exact us2 | exact or64q _ _), by omega, by omega⟩, (unhide HS).keep, (unhide HS).tape⟩
        · go_wp2_with (first
            | (with_reducible refine at_fn 360 ?_
               refine (add_run _ bx _ bY _ _ _ (unhide HS).x (unhide HS).y hxy (unhide HS).tape).mono ?_
               rintro _ W12 ⟨cr, c3, rfl, hX3, hY3, hT3, hK3, he3⟩
               have hms := q_round hp8' (unhide HS) hX3 he3
               have HMs := hide hms
               have HS12 := hide (show QS w bx nx10 c3 bY (m + 1) cy8 p8 W12 from ⟨hX3, hY3, (unhide HS).top, hT3, (unhide HS).keep.left hK3⟩)
               clear hms hX3 hY3 hT3 hK3 he3 HS)
            | fail)
          exact ⟨⟨_, _, c3, rfl, wr64 _, rfl, unhide HS12⟩, unhide HMs⟩
end Go.Proofs.YgcoaaGreat.NatW
