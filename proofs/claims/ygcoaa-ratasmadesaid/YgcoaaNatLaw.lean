/-
  NatAsTaken: the walk.
-/
import Derived.Test.YgcoaaNatAll
set_option linter.unusedVariables false
set_option linter.unusedSimpArgs false
namespace Go.Proofs.Ygcoaa.NatW
open Go.RowKit
open Go.Proofs.Ygcoaa.Limbs

/-- What twin gives, in a later world. -/
def Twin (a : Option Addr) (l : List Nat) (w : World) (a' : Option Addr) (cap' : Nat) : Prop := Sl w a' cap' l ∧ a'.isNone = a.isNone

theorem Twin.later {a : Option Addr} {l : List Nat} {w w' : World} {a' : Option Addr} {cap' : Nat} (h : Twin a l w a' cap') (hb : Below w.heap.size w w') : Twin a l w' a' cap' := ⟨h.1.later hb, h.2⟩

theorem twin_two (w : World) (a : Option Addr) (cap : Nat) (l : List Nat) (h : Sl w a cap l) (hb : l.length ≤ 70368744177664) :
    Calls Oaag.prog 8 #[.slice a l.length cap] w fun e w' => ∃ a' cap', e = .returned (.slice a' l.length cap') ∧ Below w.heap.size w w' ∧ Twin a l w' a' cap' := by
  refine (twin_any w a cap l h hb).mono ?_
  rintro e w' ⟨a', cap', rfl, hbel, ht⟩
  refine ⟨a', cap', rfl, hbel, ?_⟩
  rcases ht with ⟨rfl, rfl, rfl⟩ | ⟨hn, rfl, rfl, hr⟩
  · have e : l = [] := List.eq_nil_of_length_eq_zero (by have := h.nil rfl; have := h.le; omega)
    subst e
    exact ⟨Sl.empty _, rfl⟩
  · exact ⟨hr.sl h.lt, hn.symm⟩

theorem eq_res {B B' : Nat} {w w' : World} {a a' : Option Addr} {cap cap' n : Nat} (h : Res B w a cap n) (h' : Res B' w' a' cap' n) : ((a.isNone == a'.isNone) && decide (lim n = lim n)) = true := by
  have e1 := h.nil_iff
  have e2 := h'.nil_iff
  have : a.isNone = a'.isNone := by
    rw [Bool.eq_iff_iff, Option.isNone_iff_eq_none, Option.isNone_iff_eq_none, e1, e2]
  simp [this]
theorem eq_twin {a a' : Option Addr} {l : List Nat} (h : a'.isNone = a.isNone) : ((a'.isNone == a.isNone) && decide (l = l)) = true := by simp [h]

theorem not_u32 (X : Nat) (hX : X < 4294967296) : ∃ v : Nat, v < 4294967296 ∧ bits .xor .u32 (if IntKind.u32.signed = true then -1 else IntKind.u32.max) (X : Int) = (v : Int) := by
  refine ⟨4294967295 ^^^ X, Nat.xor_lt_two_pow (n := 32) (by omega) (by omega), ?_⟩
  have e : (if IntKind.u32.signed = true then -1 else IntKind.u32.max) = ((4294967295 : Nat) : Int) := by decide
  rw [e]
  exact u32_xor_nat 4294967295 X (by omega) hX

set_option maxRecDepth 20000 in
set_option maxHeartbeats 4000000 in
theorem natAsTaken_any (w : World) (fn : Int) (hf0 : 0 ≤ fn) (hf1 : fn ≤ 255) (a : Option Addr) (cap : Nat) (l : List Nat) (h : Sl w a cap l)
    (a2 : Option Addr) (cap2 : Nat) (l2 : List Nat) (h2 : Sl w a2 cap2 l2) (hb : l.length ≤ 35184372088000) (hb2 : l2.length ≤ 35184372088000) (k : Nat) (hk : k < 65536) (i : Int) (hi : -9223372036854775808 ≤ i ∧ i ≤ 9223372036854775807) :
    Calls Oaag.prog 3 #[.int .u8 fn, .slice a l.length cap, .slice a2 l2.length cap2, .int .u16 k, .int .i64 i] w fun e w' => e = .returned (.bool true) ∧ Below w.heap.size w w' := by
  have hl1 := lim_length_le' l h.lt
  have hl2 := lim_length_le' l2 h2.lt
  obtain ⟨rx, ry, u, v, hlx, hly, hans⟩ := ans_any fn hf0 hf1 (val l) (val l2) (by omega) (by omega) k hk i hi
  have HA := hide hans
  clear hans
  have ht1 := twin_two w a cap l h (by omega)
  have HT1 := hide ht1
  clear ht1
  have q22 := eqnil22
  go_enter Oaag.func3, Oaag.ntmps3
  go_wp2_with fail
  refine (unhide HT1).mono ?_
  rintro e w1 ⟨ap, capp, rfl, hb1, htw1⟩
  have hz1 := hb1.size
  have ht2 := twin_two w1 a2 cap2 l2 (h2.later hb1) (by omega)
  have HT2 := hide ht2
  have HW1 := hide htw1
  clear ht2 HT1 htw1
  go_wp2_with fail
  refine (unhide HT2).mono ?_
  rintro e w2 ⟨aq, capq, rfl, hb2', htw2⟩
  have hz2 := hb2'.size
  have htw1 := (unhide HW1).later hb2'
  have hbw2 : Below w.heap.size w w2 := hb1.trans (hb2'.mono hz1)
  have ha1 := unhide HA w2 ap capp l rfl htw1.1 aq capq l2 rfl htw2.1 hb hb2
  have HA1 := hide ha1
  have HW1' := hide htw1
  have HW2 := hide htw2
  clear ha1 HT2 HW1 htw1 htw2 hb1 hb2'
  go_wp2_with fail
  refine (unhide HA1).mono ?_
  rintro e w3 ⟨ax, cx, ay, cy, rfl, hresx, hresy, hb3⟩
  have hz3 := hb3.size
  have hbw3 : Below w.heap.size w w3 := hbw2.trans (hb3.mono (by omega))
  have htk := take_any w3 a cap l (h.later hbw3) (by omega)
  have HTK := hide htk
  have HX := hide hresx
  have HY := hide hresy
  clear htk HA1 hresx hresy
  go_wp2_with fail
  refine (unhide HTK).mono ?_
  rintro e w4 ⟨ata, cta, rfl, hrta, hb4⟩
  have hz4 := hb4.size
  have hbw4 : Below w.heap.size w w4 := hbw3.trans (hb4.mono (by omega))
  have htk := take_any w4 a2 cap2 l2 (h2.later hbw4) (by omega)
  have HTK2 := hide htk
  have HTA := hide hrta
  clear htk HTK hrta
  go_wp2_with fail
  refine (unhide HTK2).mono ?_
  rintro e w5 ⟨atb, ctb, rfl, hrtb, hb5⟩
  have hz5 := hb5.size
  have hbw5 : Below w.heap.size w w5 := hbw4.trans (hb5.mono (by omega))
  have ha2 := unhide HA w5 ata cta _ (val_lim _) ((unhide HTA).later hb5).sl atb ctb _ (val_lim _) hrtb.sl (by omega) (by omega)
  have HA2 := hide ha2
  clear ha2 HTK2 HTA hrtb
  go_wp2_with fail
  refine (unhide HA2).mono ?_
  rintro e w6 ⟨ax2, cx2, ay2, cy2, rfl, hresx2, hresy2, hb6⟩
  have hz6 := hb6.size
  have hb36 : Below w3.heap.size w3 w6 := (hb4.trans (hb5.mono (by omega))).trans (hb6.mono (by omega))
  have hx6 := (unhide HX).later hb36
  have hy6 := (unhide HY).later hb36
  have hbw6 : Below w.heap.size w w6 := hbw5.trans (hb6.mono (by omega))
  have he1 := eqRaw_any w6 ax cx _ hx6.sl hlx ax2 cx2 _ hresx2.sl hlx
  rw [eq_res hx6 hresx2] at he1
  have HE1 := hide he1
  have HX6 := hide hx6
  have HY6 := hide hy6
  have HY2 := hide hresy2
  clear he1 HA2 hresx2 hresy2 hx6 hy6 HX HY hb4 hb5 hb6
  go_wp2_with fail
  refine (unhide HE1).mono ?_
  rintro e w7 ⟨hb7, rfl⟩
  have hz7 := hb7.size
  have hy7 := (unhide HY6).later hb7
  have hx7 := (unhide HX6).later hb7
  have hy27 := (unhide HY2).later hb7
  have he2 := eqRaw_any w7 ay cy _ hy7.sl hly ay2 cy2 _ hy27.sl hly
  rw [eq_res hy7 hy27] at he2
  have HE2 := hide he2
  have HX7 := hide hx7
  have HY7 := hide hy7
  clear he2 hx7 hy7 hy27 HX6 HY6 HY2 HE1
  go_wp2_with fail
  refine (unhide HE2).mono ?_
  rintro e w8 ⟨hb8, rfl⟩
  have hz8 := hb8.size
  have hx8 := (unhide HX7).later hb8
  have hy8 := (unhide HY7).later hb8
  have hn1 := normal_any w8 ax cx _ hx8.sl hlx
  rw [normal_lim hx8] at hn1
  have hn2 := normal_any w8 ay cy _ hy8.sl hly
  rw [normal_lim hy8] at hn2
  have HN1 := hide hn1
  have HN2 := hide hn2
  have HX8 := hide hx8.wr
  have HY8 := hide hy8.wr
  have hb38 : Below w3.heap.size w3 w8 := (hb36.trans (hb7.mono (by omega))).trans (hb8.mono (by omega))
  have hb28 : Below w2.heap.size w2 w8 := hb3.trans (hb38.mono hz3)
  clear hn1 hn2 hx8 hy8 HX7 HY7 HE2 hb7 hb8 hb36 hb38 hbw3 hbw4 hbw5 hbw6 hb3
  go_wp2_with fail
  refine (unhide HN1).mono ?_
  rintro e w9 ⟨rfl, rfl⟩
  go_wp2_with fail
  refine (unhide HN2).mono ?_
  rintro e w9 ⟨rfl, rfl⟩
  clear HN1 HN2 HA
  go_wp2
  obtain ⟨nx, hnx⟩ : ∃ n, n = (lim rx).length := ⟨_, rfl⟩
  obtain ⟨ny, hny⟩ : ∃ n, n = (lim ry).length := ⟨_, rfl⟩
  have hwx := unhide HX8
  have hwy := unhide HY8
  rw [← hnx] at hlx hwx ⊢
  rw [← hny] at hly hwy ⊢
  have HWX := hide hwx
  have HWY := hide hwy
  have HB28 := hide hb28
  clear hnx hny hwx hwy HX8 HY8 hb28
  go_loopw [84] (fun t wr => ∃ j : Nat, j ≤ nx ∧ t = .int .i64 j ∧ Below w2.heap.size w2 wr ∧ Wr w2.heap.size wr ax nx ∧ Wr w2.heap.size wr ay ny) (fun t _ => nx - (intOf t).toNat)
  case atStart => exact ⟨0, Nat.zero_le _, rfl, unhide HB28, unhide HWX, unhide HWY⟩
  case round =>
    clear HB28 HWX HWY
    obtain ⟨j, hj, rfl, hbw, hwx, hwy⟩ := hrel
    have HWX := hide hwx
    have HWY := hide hwy
    by_cases hjl : j < nx
    · rcases hwx with h0 | ⟨g, xl, rfl, hg, hr, hle, hxlt⟩
      · omega
      · have c1 := hr.cell j (by omega)
        have f1 := hr.free j
        have p1 := getD_lt xl hxlt j
        obtain ⟨X, hX⟩ : ∃ X, X = xl.getD j 0 := ⟨_, rfl⟩
        rw [← hX] at c1 p1
        clear hX hwy
        go_wp2
        obtain ⟨nv, hnv, env⟩ := not_u32 X p1
        rw [env]
        go_roundw
        case rel => exact ⟨j + 1, by omega, by simp, below_store hbw hg _, (unhide HWX).put g j nv hnv _ rfl, (unhide HWY).put g j nv hnv _ rfl⟩
        case measure => simp [intOf]; omega
    · clear hwx hwy
      go_wp2
      go_loopw [98] (fun t wr => ∃ j : Nat, j ≤ ny ∧ t = .int .i64 j ∧ Below w2.heap.size w2 wr ∧ Wr w2.heap.size wr ay ny) (fun t _ => ny - (intOf t).toNat)
      case atStart => exact ⟨0, Nat.zero_le _, rfl, hbw, unhide HWY⟩
      case round =>
        clear HWX HWY hbw
        obtain ⟨j2, hj2, rfl, hbw, hwy⟩ := hrel
        by_cases hjl : j2 < ny
        · rcases hwy with h0 | ⟨g, xl, rfl, hg, hr, hle, hxlt⟩
          · omega
          · have c1 := hr.cell j2 (by omega)
            have f1 := hr.free j2
            have p1 := getD_lt xl hxlt j2
            obtain ⟨X, hX⟩ : ∃ X, X = xl.getD j2 0 := ⟨_, rfl⟩
            rw [← hX] at c1 p1
            clear hX
            have HWY := hide (show Wr w2.heap.size wr (some ⟨g, 0, none⟩) ny from .inr ⟨g, xl, rfl, hg, hr, hle, hxlt⟩)
            go_wp2
            obtain ⟨nv, hnv, env⟩ := not_u32 X p1
            rw [env]
            go_roundw
            case rel => exact ⟨j2 + 1, by omega, by simp, below_store hbw hg _, (unhide HWY).put g j2 nv hnv _ rfl⟩
            case measure => simp [intOf]; omega
        · clear hwy
          have hbwr : Below w.heap.size w wr := hbw2.trans (hbw.mono (by omega))
          have tw1 := (unhide HW1').later hbw
          have tw2 := (unhide HW2).later hbw
          have ha := h.later hbwr
          have hb' := h2.later hbwr
          have he1 := eqRaw_any wr ap capp l tw1.1 (by omega) a cap l ha (by omega)
          rw [eq_twin tw1.2] at he1
          have he2 := fun wx (hx : Below wr.heap.size wr wx) => eqRaw_any wx aq capq l2 (tw2.1.later hx) (by omega) a2 cap2 l2 (hb'.later hx) (by omega)
          rw [eq_twin tw2.2] at he2
          have hn := fun wx (hx : Below wr.heap.size wr wx) => normal_any wx ap capp l (tw1.1.later hx) (by omega)
          rw [tw1.2] at hn
          have HE1 := hide he1
          have HE2 := hide he2
          have HN := hide hn
          have hzr := hbwr.size
          clear he1 he2 hn HW1' HW2 tw1 tw2 hb'
          have fin : ∀ pb : Bool, (a.isNone || (decide (0 < l.length) && l.getD (l.length - 1) 0 != 0)) = pb → Hid (∀ wx, Below wr.heap.size wr wx → Calls Oaag.prog 12 #[.slice ap l.length capp] wx fun e w' => wx = w' ∧ e = .returned (.bool pb)) := by
            intro pb hpb
            have := unhide HN
            rw [hpb] at this
            exact hide this
          have FIN := hide fin
          clear fin HN
          by_cases hni : a.isNone = true
          · have HN := unhide FIN true (by rw [hni]; rfl)
            clear FIN
            go_wp2_with fail
            refine (unhide HE1).mono ?_
            rintro e w9 ⟨hb9, rfl⟩
            have he2 := unhide HE2 w9 hb9
            have HE2' := hide he2
            clear he2 HE1 HE2
            go_wp2_with fail
            refine (unhide HE2').mono ?_
            rintro e w10 ⟨hb10, rfl⟩
            have hbr10 : Below wr.heap.size wr w10 := hb9.trans (hb10.mono hb9.size)
            have hn := unhide HN w10 hbr10
            have HN' := hide hn
            clear hn HN HE2'
            go_wp2_with fail
            refine (unhide HN').mono ?_
            rintro e w11 ⟨rfl, rfl⟩
            go_wp2
            go_ret
            exact ⟨rfl, hbwr.trans (hbr10.mono hzr)⟩
          · have hni' : a.isNone = false := by cases hh : a.isNone <;> simp_all
            by_cases hl0 : l.length = 0
            · have hl0' : ((l.length : Int) != 0) = false := by rw [bne_eq_false_iff_eq]; omega
              have HN := unhide FIN false (by rw [hni']; simp [hl0])
              have HL0 := hide hl0
              clear FIN hl0 hni
              go_wp2_with fail
              refine (unhide HE1).mono ?_
              rintro e w9 ⟨hb9, rfl⟩
              have he2 := unhide HE2 w9 hb9
              have HE2' := hide he2
              clear he2 HE1 HE2
              go_wp2_with fail
              refine (unhide HE2').mono ?_
              rintro e w10 ⟨hb10, rfl⟩
              have hbr10 : Below wr.heap.size wr w10 := hb9.trans (hb10.mono hb9.size)
              have hn := unhide HN w10 hbr10
              have HN' := hide hn
              clear hn HN HE2'
              go_wp2_with fail
              refine (unhide HN').mono ?_
              rintro e w11 ⟨rfl, rfl⟩
              go_wp2
              go_ret
              exact ⟨rfl, hbwr.trans (hbr10.mono hzr)⟩
            · have hl0' : ((l.length : Int) != 0) = true := by rw [bne_iff_ne]; omega
              obtain ⟨ba, oa, rfl, hca⟩ := ha.row (by omega)
              have ct := hca (l.length - 1) (by omega)
              obtain ⟨X, hX⟩ : ∃ X, X = l.getD (l.length - 1) 0 := ⟨_, rfl⟩
              rw [← hX] at ct
              have hlp : 0 < l.length := by omega
              have hpb : ((some (⟨ba, oa, none⟩ : Addr)).isNone || (decide (0 < l.length) && l.getD (l.length - 1) 0 != 0)) = ((X : Int) != 0) := by
                rw [← hX]
                simp [hlp, bne]
                rw [Bool.eq_iff_iff]; simp
              have HF := unhide FIN ((X : Int) != 0) hpb
              clear FIN hl0 hni hni' hpb hca hX
              obtain ⟨z, hz⟩ : ∃ z, z = ((X : Int) != 0) := ⟨_, rfl⟩
              rw [← hz] at HF
              have hz' := hz.symm
              clear hz
              cases z
              all_goals
                have HN := HF
                clear HF
                go_wp2_with fail
                refine (unhide HE1).mono ?_
                rintro e w9 ⟨hb9, rfl⟩
                have he2 := unhide HE2 w9 hb9
                have HE2' := hide he2
                clear he2 HE1 HE2
                go_wp2_with fail
                refine (unhide HE2').mono ?_
                rintro e w10 ⟨hb10, rfl⟩
                have hbr10 : Below wr.heap.size wr w10 := hb9.trans (hb10.mono hb9.size)
                have hn := unhide HN w10 hbr10
                have HN' := hide hn
                clear hn HN HE2'
                go_wp2_with fail
                refine (unhide HN').mono ?_
                rintro e w11 ⟨rfl, rfl⟩
                go_wp2
                go_ret
                exact ⟨rfl, hbwr.trans (hbr10.mono hzr)⟩

end Go.Proofs.Ygcoaa.NatW
