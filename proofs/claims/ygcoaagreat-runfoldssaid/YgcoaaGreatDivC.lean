/-
  divLong: the walk.
-/
import Derived.Test.YgcoaaGreatDivB
import Derived.Test.YgcoaaGreatDivPlain2
set_option linter.unusedVariables false
set_option linter.unusedSimpArgs false
namespace Go.Proofs.YgcoaaGreat.NatW
open Go.RowKit
open Go.Proofs.YgcoaaGreat.Limbs

/-- divLong's round: what it leaves. -/
theorem div_rel {w1 w6 : World} {gu gq j q nu nq A : Nat} {ul ul6 ql D : List Nat} {v : Int} (hv : v = (q : Nat)) (hbel : Below w1.heap.size w1 w6) (hgq : w1.heap.size ≤ gq) (hgg : gu ≠ gq)
    (hru : Row w6 gu ul6) (hul : ul.length = nu) (hul6 : ul6.length = ul.length) (hltu : Lt ul) (hltu6 : Lt ul6) (hrq : Row w6 gq ql) (hql : ql.length = nq) (hltq : Lt ql) (hq : q < 4294967296) (hj : j < nq) (hju : j ≤ nu) (hW : 0 < val D)
    (hqv : q = val (ul.drop j) / val D) (hA : val ul + val ql * val D = A) (hz : ∀ t, t < j + 1 → ql.getD t 0 = 0) (h : val ul6 + 4294967296 ^ j * (q * val D) = val ul) :
    Below w1.heap.size w1 (w6.setCell ⟨gq, j, none⟩ (.int .u32 v)) ∧ ∃ ul ql, Row (w6.setCell ⟨gq, j, none⟩ (.int .u32 v)) gu ul ∧ ul.length = nu ∧ Lt ul ∧ Row (w6.setCell ⟨gq, j, none⟩ (.int .u32 v)) gq ql ∧ ql.length = nq ∧ Lt ql ∧ val ul + val ql * val D = A ∧ val ul < 4294967296 ^ j * val D ∧ ∀ t, t < j → ql.getD t 0 = 0 := by
  refine ⟨below_store hbel hgq _, ul6, ql.set j q, hru.other (p := ⟨gq, j, none⟩) hgg _, by omega, hltu6, hrq.put j q v hv, by simpa using hql, Lt_set hltq _ _ hq, ?_, ?_, ?_⟩
  · exact round_quot ql j q (val D) A (val ul) (val ul6) (by omega) (hz j (by omega)) hA h
  · exact round_rest ul ul6 j (val D) q hltu (by omega) hW hqv h
  · intro t ht
    rw [gset_ne _ _ _ _ (by omega)]
    exact hz t (by omega)

set_option maxRecDepth 20000 in
set_option maxHeartbeats 2000000 in
theorem divLong_any (w : World) (a : Option Addr) (cap : Nat) (x : Nat) (h : Sl w a cap (lim x)) (b : Option Addr) (capb : Nat) (y : Nat) (hb : Sl w b capb (lim y))
    (hn2 : 2 ≤ (lim y).length) (hle : (lim y).length ≤ (lim x).length) (hlen : (lim x).length + 2 ≤ 70368744177664) :
    Calls Oaag.prog 114 #[.slice a (lim x).length cap, .slice b (lim y).length capb] w fun e w' => ∃ a1 cap1 a2 cap2, e = .returned (.tuple #[.slice a1 (lim (x / y)).length cap1, .slice a2 (lim (x % y)).length cap2]) ∧
      Res w.heap.size w' a1 cap1 (x / y) ∧ Res w.heap.size w' a2 cap2 (x % y) ∧ Below w.heap.size w w' := by
  have hy0 : y ≠ 0 := (lim_length_pos y).1 (by omega)
  obtain ⟨n, hn⟩ : ∃ n, n = (lim y).length := ⟨_, rfl⟩
  obtain ⟨b2, o2, rfl, hcb⟩ := hb.row (by omega)
  have c1 := hcb ((lim y).length - 1) (by omega)
  have p1 := getD_lt (lim y) (Lt_lim y) ((lim y).length - 1)
  clear hcb
  obtain ⟨T, hT⟩ : ∃ T, T = (lim y).getD ((lim y).length - 1) 0 := ⟨_, rfl⟩
  rw [← hT] at c1 p1
  obtain ⟨s, hs⟩ : ∃ s, s = 32 - bl T := ⟨_, rfl⟩
  have hnd := norm_div y n s hy0 hn.symm (by rw [hs, hT, hn])
  have hT0 : T ≠ 0 := by rw [hT]; exact lim_top y hy0
  have hbl := bl32 T p1
  have hbp := bl_pos T hT0
  rw [← hn] at hn2 hle c1 ⊢
  have HND := hide hnd
  have hs32 := hnd.2.2
  have hbb : bl T = 32 - s := by omega
  have HBB := hide hbb
  have HT := hide hT
  have HSs := hide hs
  have HN := hide hn
  clear hnd hs hT hn hbb
  go_enter Oaag.func114, Oaag.ntmps114
  have hes : (32 : Int) - ((bl T : Nat) : Int) = (s : Int) := by have := unhide HBB; omega
  go_wp2_with (go_at_call 112; refine (width32_any _ _ p1).mono ?_; rintro e w' ⟨rfl, rfl⟩)
  have hl1 := lift_any w (some ⟨b2, o2, none⟩) capb _ y (val_lim y) hb s (by rw [← unhide HN]; omega)
  rw [← unhide HN] at hl1
  refine hl1.mono ?_
  clear hl1
  rintro e w1 ⟨ad, capd, rfl, hresd, hb1⟩
  obtain ⟨D, hD⟩ : ∃ D, D = lim (y * 2 ^ s) := ⟨_, rfl⟩
  have hDn : D.length = n := by rw [hD]; exact (unhide HND).1
  have hd1 : 2147483648 ≤ D.getD (n - 1) 0 := by rw [hD]; exact (unhide HND).2.1
  have hsd : Sl w1 ad capd D := by rw [hD]; exact hresd.sl
  rw [← hD]
  have HD := hide hD
  have HD1 := hide hd1
  have HRD := hide hresd
  clear hD hd1 hresd HND
  subst hDn
  obtain ⟨bd, od, rfl, hcd⟩ := hsd.row (by omega)
  have hbd : w.heap.size ≤ bd := by
    rcases unhide HRD with ⟨_, e, _⟩ | ⟨_, g, l, e, hg, _⟩
    · cases e
    · cases e; exact hg
  have hod : od = 0 := by
    rcases unhide HRD with ⟨_, e, _⟩ | ⟨_, g, l, e, hg, _⟩
    · cases e
    · cases e; rfl
  subst hod
  clear hcd c1 hes
  have hsz1 := hb1.size
  go_wp2_with (at_make; refine wpList_mk _ rfl (.tmp 29) rfl ((lim x).length + 1) _ rfl (by omega) (by omega) ?_; intro w2 hr2 hb2)
  have hsz2 := hr2.size
  have hl2 := lift_any w2 a cap _ x (val_lim x) ((h.later hb1).later hb2) s (by omega)
  refine hl2.mono ?_
  clear hl2
  rintro e w3 ⟨al, capl, rfl, hresl, hb3⟩
  have hb3' : Below w.heap.size w w3 := (hb1.trans (hb2.mono hsz1)).trans (hb3.mono (by omega))
  have hr3 := hr2.later hb3
  have hl3 : (lim (x * 2 ^ s)).length ≤ (lim x).length + 1 := by
    apply lim_length_le
    have h1 := lt_of_lim_length x
    have h2 : 2 ^ s ≤ 4294967296 := by have := pow32_le s hs32; omega
    rw [Nat.pow_succ]
    exact Nat.lt_of_lt_of_le (Nat.mul_lt_mul_of_pos_right h1 (Nat.pow_pos (by omega))) (Nat.mul_le_mul_left _ h2)
  go_wp2_with (first
    | (at_make; refine wpList_mk _ rfl (.tmp 40) rfl ((lim x).length - D.length + 1) _ rfl (by omega) (by omega) ?_; intro w5 hr5 hb5)
    | (refine wpList_cp rfl (.tmp 31) (.tmp 34) _ _ rfl Oaag.underlying53 _ _ _ rfl hr3 _ _ (lim (x * 2 ^ s)) _ rfl rfl hresl.sl hl3 w1.heap.size w3 (Below.refl _ _) (Nat.le_refl _) ?_; intro w4 hr4 hb4))
  have hsz4 : w1.heap.size < w4.heap.size := hr4.size
  have hb5' : Below w1.heap.size w1 w5 := ((hb2.trans (hb3.mono (by omega))).trans hb4).trans (hb5.mono (by omega))
  have hr45 := hr4.later hb5
  have hbd2 : bd < w1.heap.size := by
    have := hsd.row (by omega)
    obtain ⟨b', o', e, hc⟩ := this
    cases e
    exact World.block_lt_of_cell? _ _ (hc 0 (by omega))
  have hWpos : 0 < val D := by
    rw [unhide HD, val_lim]; exact Nat.mul_pos (by omega) (Nat.pow_pos (by omega))
  have hstart := div_start x y (lim x).length D.length s (lt_of_lim_length x) hy0 (unhide HN).symm hle
  have HST := hide hstart
  have HWP := hide hWpos
  have HR5 := hide hr5
  have HR45 := hide hr45
  have HB5 := hide hb5'
  have HL3 := hide hl3
  obtain ⟨gq, hgq⟩ : ∃ gq, gq = w4.heap.size := ⟨_, rfl⟩
  obtain ⟨gu, hgu⟩ : ∃ gu, gu = w1.heap.size := ⟨_, rfl⟩
  obtain ⟨la, hla⟩ : ∃ la, la = (lim x).length := ⟨_, rfl⟩
  rw [← hgq, ← hgu, ← hla]
  have hgg : gu < gq := by omega
  have hlen' : la + 2 ≤ 70368744177664 := by omega
  have hle' : D.length ≤ la := by omega
  have HGQ := hide hgq
  have HGU := hide hgu
  have HLA := hide hla
  clear hgq hgu hla hr5 hr45 hb5' hstart hWpos hl3 hr4 hb4 hr3 hresl hb3 hr2 hb2 hb5 hb3' hlen hle hsz4 hsz1 hsz2 HT HSs HBB hbl hbp hT0 h hb
  go_loopw [11] (fun t wr => ∃ m : Nat, m ≤ la - D.length + 1 ∧ t = .int .i64 ((m : Int) - 1) ∧ Below w1.heap.size w1 wr ∧ ∃ ul ql, Row wr gu ul ∧ ul.length = la + 1 ∧ Lt ul ∧ Row wr gq ql ∧ ql.length = la - D.length + 1 ∧ Lt ql ∧ val ul + val ql * val D = x * 2 ^ s ∧ val ul < 4294967296 ^ m * val D ∧ ∀ t, t < m → ql.getD t 0 = 0)
    (fun t _ => (intOf t + 1).toNat)
  case atStart =>
    have hgq := unhide HGQ
    have hgu := unhide HGU
    have hla := unhide HLA
    have h3 := unhide HL3
    have hd := unhide HD
    refine ⟨la - D.length + 1, Nat.le_refl _, by go_num, unhide HB5, lim (x * 2 ^ s) ++ List.replicate (la + 1 - (lim (x * 2 ^ s)).length) 0, List.replicate (la - D.length + 1) 0, ?_, ?_, Lt_append (Lt_lim _) (Lt_replicate _), ?_, by simp, Lt_replicate _, ?_, ?_, fun t _ => getD_replicate _ _⟩
    · rw [hgu, hla]; exact unhide HR45
    · simp; omega
    · rw [hgq, hla]; exact unhide HR5
    · rw [val_replicate, val_append, val_replicate, val_lim]; simp
    · rw [val_append, val_replicate, val_lim, hd, val_lim, hla]
      have := unhide HST
      rw [hd] at this
      simpa using this
  case round =>
    clear HB5 HR5 HR45 HL3 HST
    obtain ⟨m, hm, rfl, hbw, ul, ql, hru, hul, hltu, hrq, hql, hltq, hA, hB, hz⟩ := hrel
    have HA := hide hA
    have HB := hide hB
    have HZ := hide hz
    have HUL := hide hul
    have HQL := hide hql
    clear hA hB hz
    by_cases hm0 : m = 0
    · subst hm0
      have hend := div_end x y s (val ul) (val ql) hy0 (by have := unhide HA; rw [unhide HD, val_lim] at this; exact this) (by have := unhide HB; rw [unhide HD, val_lim] at this; simpa using this)
      have hsh := shr_any wr (some ⟨gu, 0, none⟩) (la + 1) ul _ rfl (by rw [← hul]; exact hru.sl hltu) s (by omega) (by omega)
      rw [hul, hend.2] at hsh
      have HSH := hide hsh
      have HE := hide hend
      clear hsh hend hul hql
      go_wp2_with fail
      refine (unhide HSH).mono ?_
      rintro e w6 ⟨ar, capr, rfl, hresr, hb6⟩
      have hrq6 := hrq.later hb6
      have htr := trim_any w6 _ _ _ (hrq6.sl hltq) (by rw [unhide HQL]; omega)
      rw [unhide HQL, (unhide HE).1] at htr
      have HTR := hide htr
      have HRR := hide hresr
      clear htr hresr
      go_wp2_with fail
      refine (unhide HTR).mono ?_
      rintro e w' ⟨rfl, aq, capq, rfl, htq⟩
      go_wp2
      go_ret2
      have hgu := unhide HGU
      have hsz := hbw.size
      have hb1s := hb1.size
      have hb6' : Below w.heap.size w w6 := (hb1.trans (hbw.mono hb1s)).trans (hb6.mono (by omega))
      refine ⟨aq, capq, ar, capr, rfl, ?_, (unhide HRR).lower (by omega), hb6'⟩
      rw [← (unhide HE).1]
      rw [← (unhide HE).1, ← unhide HQL] at htq
      exact Res.of_trim hrq6 hltq (by omega) htq
    · obtain ⟨j, rfl⟩ : ∃ j, m = j + 1 := ⟨m - 1, by omega⟩
      have ej : ((j + 1 : Nat) : Int) - 1 = (j : Int) := by omega
      rw [ej]
      clear ej
      have hsd' := hsd.later hbw
      obtain ⟨b', o', e, hcd⟩ := hsd'.row (by omega)
      cases e
      have k1 := hcd (D.length - 1) (by omega)
      have k0 := hcd (D.length - 2) (by omega)
      rw [Nat.zero_add] at k1 k0
      have q1 := getD_lt D hsd.lt (D.length - 1)
      have q0 := getD_lt D hsd.lt (D.length - 2)
      have c2 := hru.cell (j + D.length) (by omega)
      have c1 := hru.cell (j + D.length - 1) (by omega)
      have c0 := hru.cell (j + D.length - 2) (by omega)
      have p2 := getD_lt ul hltu (j + D.length)
      have p1' := getD_lt ul hltu (j + D.length - 1)
      have p0 := getD_lt ul hltu (j + D.length - 2)
      have hrg := round_guess ul D j D.length hltu hsd.lt rfl hn2 (by omega) (unhide HD1) (unhide HB)
      have hd1 := unhide HD1
      obtain ⟨U2, hU2⟩ : ∃ U, U = ul.getD (j + D.length) 0 := ⟨_, rfl⟩
      obtain ⟨U1, hU1⟩ : ∃ U, U = ul.getD (j + D.length - 1) 0 := ⟨_, rfl⟩
      obtain ⟨U0, hU0⟩ : ∃ U, U = ul.getD (j + D.length - 2) 0 := ⟨_, rfl⟩
      obtain ⟨d1, hd1e⟩ : ∃ U, U = D.getD (D.length - 1) 0 := ⟨_, rfl⟩
      obtain ⟨d0, hd0e⟩ : ∃ U, U = D.getD (D.length - 2) 0 := ⟨_, rfl⟩
      rw [← hU2] at c2 p2
      rw [← hU1] at c1 p1'
      rw [← hU0] at c0 p0
      rw [← hd1e] at k1 q1 hd1
      rw [← hd0e] at k0 q0
      rw [← hU2, ← hU1, ← hU0, ← hd1e, ← hd0e] at hrg
      obtain ⟨hu2, hq⟩ := hrg
      have hgs := gst_lt (U2 * 4294967296 + U1) U0 d1 d0
      have HQ := hide hq
      have hgc := fun wx => guess_any wx U2 U1 U0 d1 d0 hu2 p1' p0 q1 q0 hd1
      have HGC := hide hgc
      clear hgc hd1 hq hcd hsd' hU2 hU1 hU0 hd1e hd0e hul hql
      go_wp2_with fail
      go_quiet ((go_at_call 211; exact Calls.quiet_of (unhide HGC _)))
      obtain ⟨dg, hdg⟩ : ∃ dg, dg = gst (U2 * 4294967296 + U1) U0 d1 d0 := ⟨_, rfl⟩
      rw [← hdg] at hgs ⊢
      rw [← hdg] at HQ
      have HDG := hide hdg
      clear hdg k1 k0 c2 c1 c0 HGC
      go_wp2_with fail
      have en : j + D.length + 1 - j = D.length + 1 := by omega
      rw [en]
      have hne : bd ≠ gu := by have := unhide HGU; omega
      have hru' : Row (wr.drewN nq) gu ul := hru
      have hsd2 : Sl (wr.drewN nq) (some ⟨bd, 0, none⟩) capd D := hsd.later (below_drewN hbw nq)
      have hUL := unhide HUL
      have hta := takeAway_any (wr.drewN nq) gu j D.length (la + 1 - j) ul hru' hltu (by omega) (by omega) bd 0 capd D hsd2 rfl hne dg hgs
      refine hta.mono ?_
      clear hta
      rintro e w6 ⟨ul6, bo, rfl, hbo, hbut6, hr6, hl6, hlt6, hv6, hs6⟩
      have hulb : val ul < 4294967296 ^ (j + (D.length + 1)) := by
        refine Nat.lt_of_lt_of_le (unhide HB) ?_
        rw [show j + (D.length + 1) = (j + 1) + D.length from by omega, Nat.pow_add 4294967296 (j + 1)]
        exact Nat.mul_le_mul_left _ (Nat.le_of_lt (val_lt D hsd.lt))
      have hul6 : val ul6 < 4294967296 ^ (j + (D.length + 1)) := lt_of_zero ul6 _ hlt6 (fun t ht => by rw [hs6 t ht]; exact zero_above ul _ t hulb ht)
      obtain ⟨q, hq⟩ : ∃ q, q = val (ul.drop j) / val D := ⟨_, rfl⟩
      have hqq := unhide HQ q hq
      have hrq6 := hbut6.row (show Row (wr.drewN nq) gq ql from hrq) (by omega)
      have hQL := unhide HQL
      have hqc := hrq6.cell j (by omega)
      have hqf := hrq6.free j
      obtain ⟨Z, hZ⟩ : ∃ Z, Z = ql.getD j 0 := ⟨_, rfl⟩
      rw [← hZ] at hqc
      have hz0 := unhide HZ j (by omega)
      have hWP := unhide HWP
      have HZ0 := hide hz0
      have HV6 := hide hv6
      have HS6 := hide hs6
      have HULB := hide hulb
      have HUL6 := hide hul6
      have HQ2 := hide hq
      have HQQ := hide hqq
      have HL6 := hide hl6
      clear hz0 hv6 hs6 hulb hul6 hq hqq hZ HQ hl6 hUL hQL hru hrq hru' hsd2
      have hbo2 : bo = 0 ∨ bo = 1 := by omega
      rcases hbo2 with rfl | rfl
      · have hv6 := unhide HV6
        rw [Nat.mul_zero, Nat.add_zero] at hv6
        have hdq := round_no ul ul6 j dg (val D) q hltu (by rw [unhide HUL]; omega) hWP (unhide HQ2) (unhide HQQ).1 hv6
        have HDQ := hide hdq
        have HV6' := hide hv6
        clear hdq hv6
        go_wp2
        go_roundw
        case rel =>
          have hgu := unhide HGU
          have hdq := unhide HDQ
          have hUL := unhide HUL
          have hQL := unhide HQL
          have hb6 : Below w1.heap.size w1 w6 := (below_drewN hbw nq).trans (hbut6.below (by omega))
          have hv6 := unhide HV6'
          rw [hdq] at hv6
          exact ⟨j, by omega, rfl, div_rel (q := q) (by rw [hdq]) hb6 (by omega) (by omega) hr6 hUL (unhide HL6) hltu hlt6 hrq6 hQL hltq (by omega) (by omega) (by omega) hWP (unhide HQ2) (unhide HA) (unhide HZ) hv6⟩
        case measure => simp [intOf]
      · have hdg1 : 1 ≤ dg := by
          have h1 := unhide HV6
          have h2 := unhide HUL6
          rcases Nat.eq_zero_or_pos dg with e | e
          · rw [e] at h1; simp at h1; omega
          · exact e
        go_wp2_with fail
        rw [en]
        have hsd6 : Sl w6 (some ⟨bd, 0, none⟩) capd D := hbut6.sl (hsd.later (below_drewN hbw nq)) (fun b off e => by cases e; exact hne)
        have hpb := putBack_any w6 gu j D.length (la + 1 - j) ul6 hr6 hlt6 (by rw [unhide HL6, unhide HUL]; omega) (by rw [unhide HL6, unhide HUL]; omega) bd 0 capd D hsd6 rfl hne
        refine hpb.mono ?_
        clear hpb hqc hqf
        rintro e w7 ⟨rfl, ul7, co, hbut7, hr7, hl7, hlt7, hv7, hs7⟩
        have hrq7 := hbut7.row hrq6 (by omega)
        have hqc := hrq7.cell j (by rw [unhide HQL]; omega)
        have hqf := hrq7.free j
        obtain ⟨Z, hZ⟩ : ∃ Z, Z = ql.getD j 0 := ⟨_, rfl⟩
        rw [← hZ] at hqc
        have hul7 : val ul7 < 4294967296 ^ (j + (D.length + 1)) := lt_of_zero ul7 _ hlt7 (fun t ht => by rw [hs7 t ht, unhide HS6 t ht]; exact zero_above ul _ t (unhide HULB) ht)
        have hv6 := unhide HV6
        rw [Nat.mul_one] at hv6
        have hyes := round_yes ul ul6 ul7 j (j + (D.length + 1)) dg (val D) q co hltu (by rw [unhide HUL]; omega) hWP (unhide HQ2) (unhide HQQ).2 (unhide HULB) (unhide HUL6) hul7 hv6 hv7
        have HY := hide hyes
        have HL7 := hide hl7
        clear hyes hv6 hul7 hZ hv7 hs7 hl7
        go_wp2
        go_roundw
        case rel =>
          have hgu := unhide HGU
          have hyes := unhide HY
          have hUL := unhide HUL
          have hQL := unhide HQL
          have hb6 : Below w1.heap.size w1 w7 := ((below_drewN hbw nq).trans (hbut6.below (by omega))).trans (hbut7.below (by omega))
          exact ⟨j, by omega, rfl, div_rel (q := q) (by omega) hb6 (by omega) (by omega) hr7 hUL (by rw [unhide HL7, unhide HL6]) hltu hlt7 hrq7 hQL hltq (by omega) (by omega) (by omega) hWP (unhide HQ2) (unhide HA) (unhide HZ) hyes.2⟩
        case measure => simp [intOf]

end Go.Proofs.YgcoaaGreat.NatW
