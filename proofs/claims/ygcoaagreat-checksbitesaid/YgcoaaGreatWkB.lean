/-
  Package bound: run; copied.
-/
import Derived.Test.YgcoaaGreatWkA
import Derived.Test.YgcoaaGreatLaxG
import Derived.Test.YgcoaaGreatBdA
import Derived.Test.YgcoaaGreatExG
set_option linter.unusedVariables false
set_option linter.unusedSimpArgs false
namespace Go.Proofs.YgcoaaGreat.NatW
attribute [local go_sem] Go.Instr.field Go.asAgg
open Go.RowKit
open Go.Proofs.YgcoaaGreat.Limbs Go.Proofs.YgcoaaGreat.Bits

theorem div_r (w : World) {B B2 : Nat} {a a2 : Option Addr} {cap cap2 x y : Nat} (h : Res B w a cap x) (h2 : Res B2 w a2 cap2 y) (hx : (lim x).length ≤ 1000000) (hy : (lim y).length ≤ 1000000) :
    Calls Oaag.prog 62 #[.slice a (lim x).length cap, .slice a2 (lim y).length cap2] w fun e w' => ∃ a1 cap1 a2 cap2, e = .returned (.tuple #[.slice a1 (lim (dq x y)).length cap1, .slice a2 (lim (dr x y)).length cap2, .bool (decide (y ≠ 0))]) ∧ Res w.heap.size w' a1 cap1 (dq x y) ∧ Res w.heap.size w' a2 cap2 (dr x y) ∧ Below w.heap.size w w' :=
  divMod_any w a cap (lim x) x (val_lim x) h.sl (by omega) a2 cap2 (lim y) y (val_lim y) h2.sl (by omega)

set_option maxRecDepth 20000 in
set_option maxHeartbeats 4000000 in
theorem run_any (w : World) {B : Nat} {a a2 : Option Addr} {cap cap2 x y : Nat} (h : Res B w a cap x) (h2 : Res B w a2 cap2 y) (hl : (lim x).length ≤ 10000) (hy : 1 ≤ y) (hxy : y < x) (room stride : Nat) (hs : 1 ≤ stride) (hs2 : stride < 18446744073709551616) (hr2 : room < 18446744073709551616) :
    Calls Oaag.prog 119 #[.slice a (lim x).length cap, .slice a2 (lim y).length cap2, .int .u64 (room : Int), .int .u64 (stride : Int)] w fun e w' => ∃ (k : Nat) (a' : Option Addr) (cap' : Nat), e = .returned (.tuple #[.int .u64 (k : Int), .slice a' (lim (x - y * k)).length cap']) ∧ Res w.heap.size w' a' cap' (x - y * k) ∧ y * k < x ∧ k * stride ≤ room ∧ Below w.heap.size w w' := by
  have HX := hide h
  have HY := hide h2
  have hly : (lim y).length ≤ 10000 := Nat.le_trans (lim_length_mono y x (by omega)) hl
  have HS2 := hide hs2
  have HR2 := hide hr2
  clear h h2 hs2 hr2
  go_enter Oaag.func119, Oaag.ntmps119
  go_wp2_with fail
  refine (fromU64_any w 1 (by decide)).mono ?_
  rintro e w1 ⟨a1, c1, rfl, hr1, hb1⟩
  have HX1 := hide ((unhide HX).later hb1)
  have HY1 := hide ((unhide HY).later hb1)
  have HO := hide hr1
  have HB1 := hide hb1
  clear hr1 hb1 HX HY
  go_wp2_with fail
  refine (sub_r w1 (unhide HX1) (unhide HO) (by omega) (by decide)).mono ?_
  rintro e w2 ⟨a3, c3, rfl, hr2', hb2⟩
  have HX2 := hide ((unhide HX1).later hb2)
  have HY2 := hide ((unhide HY1).later hb2)
  have HL2 := hide hr2'
  have HB2 := hide ((unhide HB1).trans (hb2.mono (unhide HB1).size))
  have ll : (lim (x - 1)).length ≤ 10000 := Nat.le_trans (lim_length_mono (x - 1) x (by omega)) hl
  clear hr2' hb2 HX1 HY1 HO HB1
  (repeat (first | (rewrite [Go.Proofs.YgcoaaGreat.NatW.frz_ite]; generalize Go.Proofs.YgcoaaGreat.NatW.frzI _ = x__) | (rewrite [Go.Proofs.YgcoaaGreat.NatW.frz_dec]; generalize Go.Proofs.YgcoaaGreat.NatW.frzB _ = x__) | (rewrite [Go.Proofs.YgcoaaGreat.NatW.frz_beq]; generalize Go.Proofs.YgcoaaGreat.NatW.frzB _ = x__) | (rewrite [Go.Proofs.YgcoaaGreat.NatW.frz_not]; generalize Go.Proofs.YgcoaaGreat.NatW.frzB _ = x__) | (rewrite [Go.Proofs.YgcoaaGreat.NatW.frz_and]; generalize Go.Proofs.YgcoaaGreat.NatW.frzB _ = x__) | (rewrite [Go.Proofs.YgcoaaGreat.NatW.frz_or]; generalize Go.Proofs.YgcoaaGreat.NatW.frzB _ = x__) | (rewrite [show ∀ (a b : Int), Value.bool (a != b) = Value.bool (Go.Proofs.YgcoaaGreat.NatW.frzB (a != b)) from fun _ _ => rfl]; generalize Go.Proofs.YgcoaaGreat.NatW.frzB _ = x__)))
  go_wp2_with fail
  refine (div_r w2 (unhide HL2) (unhide HY2) (by omega) (by omega)).mono ?_
  rintro e w3 ⟨a4, c4, a5, c5, rfl, hq, -, hb3⟩
  have HX3 := hide ((unhide HX2).later hb3)
  have HY3 := hide ((unhide HY2).later hb3)
  have HB3 := hide ((unhide HB2).trans (hb3.mono (unhide HB2).size))
  have eq : dq (x - 1) y = (x - 1) / y := by unfold dq; rw [if_neg (by omega)]
  rw [eq] at hq ⊢
  have lq : (lim ((x - 1) / y)).length ≤ 10000 := Nat.le_trans (lim_length_mono _ (x - 1) (Nat.div_le_self _ _)) ll
  have HQ3 := hide hq
  clear hq hb3 HX2 HY2 HL2 HB2 eq
  (repeat (first | (rewrite [Go.Proofs.YgcoaaGreat.NatW.frz_ite]; generalize Go.Proofs.YgcoaaGreat.NatW.frzI _ = x__) | (rewrite [Go.Proofs.YgcoaaGreat.NatW.frz_dec]; generalize Go.Proofs.YgcoaaGreat.NatW.frzB _ = x__) | (rewrite [Go.Proofs.YgcoaaGreat.NatW.frz_beq]; generalize Go.Proofs.YgcoaaGreat.NatW.frzB _ = x__) | (rewrite [Go.Proofs.YgcoaaGreat.NatW.frz_not]; generalize Go.Proofs.YgcoaaGreat.NatW.frzB _ = x__) | (rewrite [Go.Proofs.YgcoaaGreat.NatW.frz_and]; generalize Go.Proofs.YgcoaaGreat.NatW.frzB _ = x__) | (rewrite [Go.Proofs.YgcoaaGreat.NatW.frz_or]; generalize Go.Proofs.YgcoaaGreat.NatW.frzB _ = x__) | (rewrite [show ∀ (a b : Int), Value.bool (a != b) = Value.bool (Go.Proofs.YgcoaaGreat.NatW.frzB (a != b)) from fun _ _ => rfl]; generalize Go.Proofs.YgcoaaGreat.NatW.frzB _ = x__)))
  go_wp2_with fail
  obtain ⟨Q, hQ⟩ : ∃ Q, Q = (x - 1) / y := ⟨_, rfl⟩
  rw [← hQ] at HQ3 lq ⊢
  have HQE := hide hQ
  clear hQ
  obtain ⟨wb, x0, hx, hsame⟩ : ∃ (wb : World) (x0 : Later wb), w3 = x0.at_ ∧ ∀ x : Later wb, Below w3.heap.size w3 x.at_ := ⟨w3, ⟨w3, Below.refl _ _⟩, rfl, fun x => x.ok⟩
  have hne3 : Nonempty (Later wb) := ⟨x0⟩
  have HQY := hide (fun z : Later wb => (unhide HQ3).later (hsame z))
  have HXY := hide (fun z : Later wb => (unhide HX3).later (hsame z))
  have HYY := hide (fun z : Later wb => (unhide HY3).later (hsame z))
  have HBY := hide (fun z : Later wb => (unhide HB3).trans ((hsame z).mono (unhide HB3).size))
  rw [hx]
  clear hx hsame HQ3 HX3 HY3 HB3
  have hst0 : ¬ (stride : Int) = 0 := by omega
  obtain ⟨D, hD⟩ : ∃ D, D = room / stride := ⟨_, rfl⟩
  have hdv : (room : Int).tdiv (stride : Int) = (D : Int) := by rw [Int.tdiv_eq_ediv_of_nonneg (by omega), hD]; simp
  have hdv2 : (room : Int) / (stride : Int) = (D : Int) := by rw [hD]; simp
  have hDr : D ≤ room := by rw [hD]; exact Nat.div_le_self _ _
  have hwD : IntKind.u64.wrap (D : Int) = (D : Int) := by have := unhide HR2; rw [IntKind.wrap_u64]; omega
  have HDD := hide hD
  clear hD
  (repeat (first | (rewrite [Go.Proofs.YgcoaaGreat.NatW.frz_ite]; generalize Go.Proofs.YgcoaaGreat.NatW.frzI _ = x__) | (rewrite [Go.Proofs.YgcoaaGreat.NatW.frz_dec]; generalize Go.Proofs.YgcoaaGreat.NatW.frzB _ = x__) | (rewrite [Go.Proofs.YgcoaaGreat.NatW.frz_beq]; generalize Go.Proofs.YgcoaaGreat.NatW.frzB _ = x__) | (rewrite [Go.Proofs.YgcoaaGreat.NatW.frz_not]; generalize Go.Proofs.YgcoaaGreat.NatW.frzB _ = x__) | (rewrite [Go.Proofs.YgcoaaGreat.NatW.frz_and]; generalize Go.Proofs.YgcoaaGreat.NatW.frzB _ = x__) | (rewrite [Go.Proofs.YgcoaaGreat.NatW.frz_or]; generalize Go.Proofs.YgcoaaGreat.NatW.frzB _ = x__) | (rewrite [show ∀ (a b : Int), Value.bool (a != b) = Value.bool (Go.Proofs.YgcoaaGreat.NatW.frzB (a != b)) from fun _ _ => rfl]; generalize Go.Proofs.YgcoaaGreat.NatW.frzB _ = x__)))
  refine Go.LaxS.region_gen _ 5 4 [(1, fun v => ∃ r : Nat, v = .int .u64 (r : Int) ∧ r ≤ Q ∧ r < 18446744073709551616)] [] [] (fun _ => True) (by kernel_rfl) (by kernel_rfl) (by kernel_rfl) (by kernel_rfl) trivial (fun _ _ _ _ => trivial) (fun _ h => by cases h) (List.forall_mem_cons.2 ⟨⟨_, 0, rfl, by omega, by decide⟩, fun _ h => by cases h⟩) ?_
  (refine Go.LaxS.walk_det rfl rfl rfl rfl ?_; go_big_quiet_want; go_big_quiet_op; go_big_quiet_on; refine wpQuiet_nil ?_)
  refine Go.LaxS.gen_call rfl rfl rfl (fun _ _ _ _ => trivial) ?_ (fun z K hI hG hK => by
    go_wp2_with fail
    refine (toU64b z.at_ (unhide HQY z) (by omega)).mono ?_
    rintro e w' ⟨r, rfl, h1, h2, hb⟩
    have hh := Go.Proofs.YgcoaaGreat.NatW.hide (hK _ w' ⟨r, rfl, h1, h2⟩ trivial hb)
    clear hK h1 h2
    go_wp2_with fail
    exact Eq.mp (by kernel_rfl) (Go.Proofs.YgcoaaGreat.NatW.unhide hh))
  rintro v ⟨r, rfl, hr1, hr3⟩
  have HR3 := hide hr3
  clear hr3
  ((try dsimp only); go_big_quiet_want; go_big_quiet_op; go_big_quiet_on; refine wpQuiet_nil ?_)
  iterate 3 (refine Go.LaxS.walk_det rfl rfl rfl rfl ?_; go_big_quiet_want; go_big_quiet_op; go_big_quiet_on; refine wpQuiet_nil ?_)
  refine Go.LaxS.gen_end ?_
  intro z hI hG
  clear hI hG
  go_wp2_with fail
  all_goals
    refine (fromU64_i z.at_ _ (by have := unhide HR2; have := unhide HR3; exact ⟨by omega, by omega⟩)).mono ?_
    rintro e w4 ⟨k, a6, c6, hk, hk64, rfl, hr6, hb6⟩
    have hkr : k ≤ r := by omega
    have hkD : k ≤ D := by omega
    have lk := len_small k hk64
    have HX4 := hide ((unhide HXY z).later hb6)
    have HY4 := hide ((unhide HYY z).later hb6)
    have HB4 := hide ((unhide HBY z).trans (hb6.mono (unhide HBY z).size))
    have HK4 := hide hr6
    have HK64 := hide hk64
    have HKE := hide hk
    clear hr6 hb6 HXY HYY HBY hk64 hk
    go_wp2_with fail
    refine (mul_r w4 (unhide HY4) (unhide HK4) (by omega) (by omega)).mono ?_
    rintro e w5 ⟨a7, c7, rfl, hr7, hb7⟩
    have lm := len_mul y k
    have HX5 := hide ((unhide HX4).later hb7)
    have HB5 := hide ((unhide HB4).trans (hb7.mono (unhide HB4).size))
    have HM5 := hide hr7
    clear hr7 hb7 HX4 HY4 HK4 HB4
    go_wp2_with fail
    refine (sub_r w5 (unhide HX5) (unhide HM5) (by omega) (by omega)).mono ?_
    rintro e w6 ⟨a8, c8, rfl, hr8, hb8⟩
    have HB6 := hide ((unhide HB5).trans (hb8.mono (unhide HB5).size))
    have HR8 := hide (hr8.lower (unhide HB5).size)
    clear hr8 hb8 HX5 HM5 HB5
    (repeat (first | (rewrite [Go.Proofs.YgcoaaGreat.NatW.frz_ite]; generalize Go.Proofs.YgcoaaGreat.NatW.frzI _ = x__) | (rewrite [Go.Proofs.YgcoaaGreat.NatW.frz_dec]; generalize Go.Proofs.YgcoaaGreat.NatW.frzB _ = x__) | (rewrite [Go.Proofs.YgcoaaGreat.NatW.frz_beq]; generalize Go.Proofs.YgcoaaGreat.NatW.frzB _ = x__) | (rewrite [Go.Proofs.YgcoaaGreat.NatW.frz_not]; generalize Go.Proofs.YgcoaaGreat.NatW.frzB _ = x__) | (rewrite [Go.Proofs.YgcoaaGreat.NatW.frz_and]; generalize Go.Proofs.YgcoaaGreat.NatW.frzB _ = x__) | (rewrite [Go.Proofs.YgcoaaGreat.NatW.frz_or]; generalize Go.Proofs.YgcoaaGreat.NatW.frzB _ = x__) | (rewrite [show ∀ (a b : Int), Value.bool (a != b) = Value.bool (Go.Proofs.YgcoaaGreat.NatW.frzB (a != b)) from fun _ _ => rfl]; generalize Go.Proofs.YgcoaaGreat.NatW.frzB _ = x__)))
    go_wp2_with fail
    refine bodyPost_box rfl ?_
    intro rr hrr
    simp [results, Oaag.results119, go_sem] at hrr
    subst hrr
    refine ⟨_, rfl, ?_⟩
    have hyk : y * k < x := by
      have h1 : k ≤ (x - 1) / y := by rw [← unhide HQE]; omega
      have h2 : y * k ≤ y * ((x - 1) / y) := Nat.mul_le_mul (Nat.le_refl _) h1
      have h3 := Nat.mul_div_le (x - 1) y
      omega
    have hks : k * stride ≤ room := by
      have h1 : k ≤ room / stride := by rw [← unhide HDD]; exact hkD
      have h2 : k * stride ≤ room / stride * stride := Nat.mul_le_mul h1 (Nat.le_refl _)
      have h3 := Nat.div_mul_le_self room stride
      omega
    refine ⟨k, a8, c8, ?_, unhide HR8, hyk, hks, unhide HB6⟩
    have := unhide HKE
    first | rfl | (simp; omega) | (simp only [← this]) | skip
end Go.Proofs.YgcoaaGreat.NatW
