/-
  Package expand: expand.
-/
import Derived.Test.YgcoaaGreatExpC
set_option linter.unusedVariables false
set_option linter.unusedSimpArgs false
namespace Go.Proofs.YgcoaaGreat.NatW
attribute [local go_sem] Go.Instr.field Go.asAgg
open Go.RowKit

/-- expand's memory: the expansion d, the parts in a block of its own. -/
structure ER (w : World) (d nb : Nat) (sig prec e m : Int) (wr : World) : Prop where
  dlt : d < w.heap.size
  nlt : w.heap.size ≤ nb
  ex : ∃ n top, Exps wr d n top sig prec ∧ n ≤ 1440
  own : Mine wr nb
  c2 : wr.cell? ⟨nb, 2, none⟩ = some (.int .i16 e)
  c3 : wr.cell? ⟨nb, 3, none⟩ = some (.int .u64 m)
  g : w.grownBy wr (some d)
theorem ER.later {w wr wr' : World} {d nb : Nat} {sig prec e m : Int} (h : ER w d nb sig prec e m wr) (hb : Below wr.heap.size wr wr') : ER w d nb sig prec e m wr' :=
  ⟨h.dlt, h.nlt, by obtain ⟨n, t, h1, h2⟩ := h.ex; exact ⟨n, t, h1.kept hb, h2⟩, h.own.kept hb h.own.1, (hb.cell (p := ⟨nb, 2, none⟩) h.own.1).trans h.c2, (hb.cell (p := ⟨nb, 3, none⟩) h.own.1).trans h.c3, grow_trans h.g (grow_below hb _)⟩
theorem ER.put {w wr wr' : World} {d nb n' : Nat} {sig prec e m top' : Int} (h : ER w d nb sig prec e m wr) (he : Exps wr' d n' top' sig prec) (hn : n' ≤ 1440) (hg : wr.grownBy wr' (some d)) : ER w d nb sig prec e m wr' := by
  have hne : some nb ≠ some d := by have h1 := h.dlt; have h2 := h.nlt; simp; omega
  have hb : wr'.heap[nb]? = wr.heap[nb]? := hg.block _ h.own.1 hne
  exact ⟨h.dlt, h.nlt, ⟨n', top', he, hn⟩, h.own.blk hb, (World.cell?_of_block (a := ⟨nb, 2, none⟩) hb).trans h.c2, (World.cell?_of_block (a := ⟨nb, 3, none⟩) hb).trans h.c3, grow_trans h.g hg⟩
theorem ER.gset {w wr : World} {d nb : Nat} (hg : w.grownBy wr (some d)) (hn : w.heap.size ≤ nb) (i : Nat) (v : Value) : w.grownBy (wr.setCell ⟨nb, i, none⟩ v) (some d) :=
  ⟨hg.os, hg.tape, hg.output, by rw [World.size_setCell]; exact hg.size, fun k hk hr => (Below.heap_setCell _ _ _ _ (by simp; omega)).trans (hg.block k hk hr)⟩
theorem ER.setM {w wr : World} {d nb : Nat} {sig prec e m : Int} (h : ER w d nb sig prec e m wr) (m' : Int) : ER w d nb sig prec e m' (wr.setCell ⟨nb, 3, none⟩ (.int .u64 m')) := by
  have h1 := h.dlt
  have h2 := h.nlt
  obtain ⟨n, t, e1, e2⟩ := h.ex
  exact ⟨h1, h2, ⟨n, t, e1.other (by omega), e2⟩, h.own.set _ _, by rw [cell_set _ _ _ _ _ _ _ h.c2, if_neg (by omega)], by rw [cell_set _ _ _ _ _ _ _ h.c3, if_pos ⟨rfl, rfl⟩], ER.gset h.g h2 _ _⟩
theorem ER.setE {w wr : World} {d nb : Nat} {sig prec e m : Int} (h : ER w d nb sig prec e m wr) (e' : Int) : ER w d nb sig prec e' m (wr.setCell ⟨nb, 2, none⟩ (.int .i16 e')) := by
  have h1 := h.dlt
  have h2 := h.nlt
  obtain ⟨n, t, q1, q2⟩ := h.ex
  exact ⟨h1, h2, ⟨n, t, q1.other (by omega), q2⟩, h.own.set _ _, by rw [cell_set _ _ _ _ _ _ _ h.c2, if_pos ⟨rfl, rfl⟩], by rw [cell_set _ _ _ _ _ _ _ h.c3, if_neg (by omega)], ER.gset h.g h2 _ _⟩
theorem ER.setTop {w wr : World} {d nb : Nat} {sig prec e m : Int} (h : ER w d nb sig prec e m wr) {t : Int} (ht : I64 t) : ER w d nb sig prec e m (wr.setCell ⟨d, 1442, none⟩ (.int .i64 t)) := by
  have h1 := h.dlt
  have h2 := h.nlt
  obtain ⟨n, t', q1, q2⟩ := h.ex
  exact ⟨h1, h2, ⟨n, t, q1.setTop ht, q2⟩, h.own.set _ _, by rw [cell_set _ _ _ _ _ _ _ h.c2, if_neg (by omega)], by rw [cell_set _ _ _ _ _ _ _ h.c3, if_neg (by omega)], grow_set1 h.g _ _⟩

def ExpL (w : World) (d nb : Nat) (sig prec : Int) (wr : World) : Prop := ∃ (e : Int) (m : Nat), -1126 ≤ e ∧ e ≤ 1021 ∧ m < 18446744073709551616 ∧ ER w d nb sig prec e m wr
def eOf (nb : Nat) (wr : World) : Nat := match wr.cell? ⟨nb, 2, none⟩ with | some v => (-(intOf v)).toNat | none => 0
def ExpG (w : World) (d nb gb : Nat) (sig prec e m : Int) (t8 : Value) (wr : World) : Prop := ∃ i : Nat, t8 = .int .i64 ((i : Int) - 1) ∧ i ≤ 20 ∧ ER w d nb sig prec e m wr ∧ Bank wr gb 0 20 .u64 U64 ∧ Mine wr gb ∧ gb ≠ d ∧ w.heap.size ≤ gb

theorem and_le (m k : Nat) (hm : m < 18446744073709551616) (b : Int) : U64 (bits .and .u64 (m : Int) b) := wr64' _

theorem bne_nat (q : Nat) : ((q : Int) != 0) = !decide (q = 0) := by
  by_cases h : q = 0 <;> simp [h]
theorem gr_one {cs : List Value} {n : Nat} (hl : cs.length = 21) (hc : ∀ i, i < 20 → ∃ x, cs[i]? = some (.int .u64 x) ∧ U64 x) (hn : cs[20]? = some (.int .i64 n)) : ∀ v ∈ cs, v.oneCell' = true := by
  intro v hv
  obtain ⟨j, hj, rfl⟩ := List.getElem_of_mem hv
  by_cases h : j < 20
  · obtain ⟨x, hx, _⟩ := hc j h
    rw [List.getElem?_eq_getElem hj] at hx
    simp at hx; rw [hx]; rfl
  · have : j = 20 := by omega
    subst this
    rw [List.getElem?_eq_getElem hj] at hn
    simp at hn; rw [hn]; rfl
theorem gr_stored (w : World) (cs : List Value) (n : Nat) (hl : cs.length = 21) (hc : ∀ i, i < 20 → ∃ x, cs[i]? = some (.int .u64 x) ∧ U64 x) (hn : cs[20]? = some (.int .i64 n)) :
    ∃ W, (storeVar 375 ⟨w.heap.size, 0, none⟩ (.agg cs.toArray)).run Oaag.prog (w.alloc (.cells ((Array.replicate 20 (.int .u64 0)).push (.int .i64 0)) 375)) = .ok () W ∧ Below w.heap.size w W ∧ Mine W w.heap.size ∧ Bank W w.heap.size 0 20 .u64 U64 ∧ W.cell? ⟨w.heap.size, 20, none⟩ = some (.int .i64 n) := by
  obtain ⟨X, hX⟩ : ∃ X, X = w.alloc (.cells ((Array.replicate 20 (.int .u64 0)).push (.int .i64 0)) 375) := ⟨_, rfl⟩
  have hmX : Mine X w.heap.size := by rw [hX]; exact Mine.new w _ _
  have hbX : Below w.heap.size w X := by rw [hX]; exact (Below.refl _ _).alloc (Nat.le_refl _) _
  have hold : ∀ j, j < 21 → ∃ v, X.cell? ⟨w.heap.size, j, none⟩ = some v := fun j hj => by
    rw [hX, World.cell?_alloc_new]
    exact ⟨_, Array.getElem?_eq_getElem (by simp; omega)⟩
  have hg := setCells_grow w.heap.size cs 0 X
  have hat := setCells_at w.heap.size cs X (fun j hj => hold j (by omega))
  refine ⟨_, by rw [← hX]; exact store_agg X 375 21 size375 w.heap.size cs hl hold hmX.2 (gr_one hl hc hn), ?_, ?_, ?_, hat 20 _ hn⟩
  · exact ⟨hg.os.trans hbX.os, hg.tape.trans hbX.tape, hg.output.trans hbX.output, Nat.le_trans hbX.size hg.size, fun k hk => (hg.block k (Nat.lt_of_lt_of_le hk hbX.size) (by simp; omega)).trans (hbX.block k hk)⟩
  · exact ⟨Nat.lt_of_lt_of_le hmX.1 hg.size, fun i => by rw [World.frozen?_setCells]; exact hmX.2 i⟩
  · intro i hi
    obtain ⟨x, hx, hu⟩ := hc i hi
    rw [Nat.zero_add]
    exact ⟨x, hat i _ hx, hu⟩
theorem shr_nat (m k : Nat) (hm : m < 18446744073709551616) : ∃ q : Nat, (m : Int) / 2 ^ k = (q : Int) ∧ q = m / 2 ^ k ∧ q < 18446744073709551616 := by
  refine ⟨m / 2 ^ k, by simp, rfl, ?_⟩
  have := Nat.div_le_self m (2 ^ k)
  omega
theorem fraction_int (d n : Nat) (top sig prec : Int) (hn : n ≤ 1440) (hprec : prec ≤ 3000) (v : Int) (uv : U64 v) (k : Int) (hk1 : 1 ≤ k) (hk2 : k ≤ 1151) (w : World) (h : Exps w d n top sig prec) (K : Ending → World → Prop)
    (hK : ∀ n' top' w', Exps w' d n' top' sig prec → w.grownBy w' (some d) → K (.returned (.tuple #[])) w') : Calls Oaag.prog 411 #[.pointer (some ⟨d, 0, none⟩), .int .u64 v, .int .i16 k] w K := by
  obtain ⟨m, rfl⟩ : ∃ m : Nat, v = (m : Int) := ⟨v.toNat, by have := uv.1; omega⟩
  exact fraction_any d n top sig prec hn hprec m (by have := uv.2; omega) k hk1 hk2 w h K hK

set_option maxRecDepth 20000 in
set_option maxHeartbeats 8000000 in
theorem expand_any (E M : Nat) (hf : fok E M = true) (d n : Nat) (top sig prec : Int) (hn : n ≤ 1440) (hprec : prec ≤ 3000) (x : Int) (hx : U64 x) (w : World) (h : Exps w d n top sig prec) (K : Ending → World → Prop)
    (hK : ∀ n' top' w', Exps w' d n' top' sig prec → w.grownBy w' (some d) → K (.returned (.tuple #[])) w') : Calls Oaag.prog 330 #[.pointer (some ⟨d, 0, none⟩), fmt E M, .int .u64 x] w K := by
  obtain ⟨g1, g2, g3, g4⟩ := fok_bd hf
  have HK := hide hK
  clear hK
  go_enter Oaag.func330, Oaag.ntmps330
  have hd := h.own.1
  have H := hide h
  clear h
  go_wp2_with fail
  refine (unpack_i E M hf x hx) _ _ ?_
  rintro _ w3 ⟨xn, xc, xe, xm, rfl, xp, xq⟩ hb3
  obtain ⟨xe0, xe1, uxm, xc0, xc1⟩ := Pb.bd g4 xp
  clear xp xq
  have hb3' : Below w.heap.size w w3 := ((Below.refl _ _).alloc (Nat.le_refl _) _).trans (hb3.mono (by simp))
  have hz3 : w.heap.size < w3.heap.size := by have := hb3.size; simp at this; omega
  clear hb3
  go_wp2_with fail
  obtain ⟨m0, hm0⟩ : ∃ m0 : Nat, xm = (m0 : Int) := ⟨xm.toNat, by have := uxm.1; omega⟩
  have hst : ExpL w d w3.heap.size sig prec (w3.alloc (.cells #[.bool xn, .int .i8 xc, .int .i16 xe, .int .u64 xm] 113)) := by
    have hb4 : Below w3.heap.size w3 (w3.alloc (.cells #[.bool xn, .int .i8 xc, .int .i16 xe, .int .u64 xm] 113)) := (Below.refl _ _).alloc (Nat.le_refl _) _
    refine ⟨xe, m0, xe0, xe1, by have := uxm.2; omega, hd, by omega, ⟨n, top, ?_, hn⟩, Mine.new w3 _ _, by rw [World.cell?_alloc_new]; rfl, by rw [World.cell?_alloc_new, ← hm0]; rfl, ?_⟩
    · exact ((unhide H).kept hb3').kept hb4
    · exact grow_trans (grow_below hb3' _) (grow_below hb4 _)
  have HST := hide hst
  clear hst uxm hm0
  ((first | with_reducible refine Go.Proofs.YgcoaaGreat.NatW.gen_calls ?_ | with_reducible refine Go.Proofs.YgcoaaGreat.NatW.gen_wp ?_ | with_reducible refine Go.Proofs.YgcoaaGreat.NatW.gen_list ?_ | with_reducible refine Go.Proofs.YgcoaaGreat.NatW.gen_body ?_); intro W hW)
  rw [hW] at HST
  obtain ⟨nb, hnb⟩ : ∃ nb, w3.heap.size = nb := ⟨_, rfl⟩
  rw [hnb] at HST hz3 ⊢
  clear hW hnb hb3' H
  go_loopw [14] (fun _ wr => ExpL w d nb sig prec wr) (fun _ wr => eOf nb wr)
  case atStart => exact unhide HST
  case round =>
    clear HST
    obtain ⟨e, m, he0, he1, hm, hr⟩ := hrel
    have k2 := hr.c2
    have k3 := hr.c3
    have f2 := hr.own.2 2
    have f3 := hr.own.2 3
    have ks2 : ∀ u, (wr.setCell ⟨nb, 3, none⟩ u).cell? ⟨nb, 2, none⟩ = some (.int .i16 e) := fun u => by rw [cell_set _ _ _ _ _ _ _ k2, if_neg (by omega)]
    have heo : eOf nb wr = (-e).toNat := by unfold eOf; rw [k2]; rfl
    have HEO := hide heo
    have HR := hide hr
    clear hr heo
    obtain ⟨n1, top1, he1', hn1⟩ := (unhide HR).ex
    have kt := he1'.top_
    have ft := he1'.own.2 1442
    clear he1'
    have hdl := (unhide HR).dlt
    have hnl := (unhide HR).nlt
    have kd2 : ∀ u, (wr.setCell ⟨d, 1442, none⟩ u).cell? ⟨nb, 2, none⟩ = some (.int .i16 e) := fun u => by rw [cell_set _ _ _ _ _ _ _ k2, if_neg (by omega)]
    have kd3 : ∀ u, (wr.setCell ⟨d, 1442, none⟩ u).cell? ⟨nb, 3, none⟩ = some (.int .u64 m) := fun u => by rw [cell_set _ _ _ _ _ _ _ k3, if_neg (by omega)]
    have HT := hide ((unhide HR).setTop (t := -1) ⟨by decide, by decide⟩)
    obtain ⟨qb, hqb⟩ : ∃ qb, (bits .and .u64 (m : Int) 1 == 0) = qb := ⟨_, rfl⟩
    by_cases hneg : e < 0
    · cases qb
      · obtain ⟨hq, hhq, hq1, hq2⟩ := shr_nat m (-e).toNat hm
        have eq0 := bne_nat hq
        clear hq1
        by_cases hk : -e < 64
        · by_cases hh : hq = 0
          · simp only [hh, decide_true, Bool.not_true] at eq0
            go_wp2_with fail
            all_goals first
              | (obtain ⟨n7, top7, e7, hn7⟩ := (unhide HT).ex
                 refine fraction_int d n7 top7 sig prec hn7 hprec _ ⟨by omega, by omega⟩ _ (by omega) (by omega) _ e7 _ ?_
                 intro n9 top9 w9 e9 hg9
                 have HG9 := hide (grow_trans (unhide HT).g hg9)
                 have HE9 := hide e9
                 clear e9 hg9 e7
                 go_wp2_with fail
                 refine bodyPost_box rfl ?_; intro r hr; simp [results, Oaag.results330, go_sem] at hr; subst hr; refine ⟨_, rfl, ?_⟩
                 exact unhide HK _ _ _ (unhide HE9) (unhide HG9))
              | (obtain ⟨n7, top7, e7, hn7⟩ := (unhide HT).ex
                 refine bodyPost_box rfl ?_; intro r hr; simp [results, Oaag.results330, go_sem] at hr; subst hr; refine ⟨_, rfl, ?_⟩
                 exact unhide HK _ _ _ e7 (unhide HT).g)
              | skip
          · simp only [hh, decide_false, Bool.not_false] at eq0
            go_wp2_with fail
            obtain ⟨n4, top4, e4, hn4⟩ := (unhide HT).ex
            refine put_any d n4 top4 sig prec _ ⟨by omega, by omega⟩ false hn4 _ e4 _ ?_
            intro n4' top4' w4 e4' hn4' hg4
            have HP4 := hide ((unhide HT).put e4' hn4' hg4)
            clear e4 e4' hg4
            go_wp2_with fail
            obtain ⟨n5, top5, e5, hn5⟩ := (unhide HP4).ex
            refine put_any d n5 top5 sig prec _ ⟨by omega, by omega⟩ false hn5 _ e5 _ ?_
            intro n5' top5' w5 e5' hn5' hg5
            have HP5 := hide ((unhide HP4).put e5' hn5' hg5)
            clear e5 e5' hg5
            clear HR HT HEO k2 k3 f2 f3 ks2 kd2 kd3 kt ft hqb HP4
            go_wp2_with fail
            obtain ⟨wb, x0, hwb, hB⟩ := boxes0 w5
            have hr' : ∀ x : Later wb, ER w d nb sig prec e m x.at_ := fun x => by subst hwb; exact (unhide HP5).later (hB x)
            subst hwb
            have hne : Nonempty (Later wb) := ⟨x0⟩
            have k3 := fun x => (hr' x).c3
            have f3 := fun x => (hr' x).own.2 3
            have HRR := hide hr'
            clear hr' HP5
            with_reducible refine Go.Proofs.YgcoaaGreat.NatW.at_reg 18 ?_
            (repeat (first | (rewrite [Go.Proofs.YgcoaaGreat.NatW.frz_ite]; generalize Go.Proofs.YgcoaaGreat.NatW.frzI _ = x__) | (rewrite [Go.Proofs.YgcoaaGreat.NatW.frz_dec]; generalize Go.Proofs.YgcoaaGreat.NatW.frzB _ = x__) | (rewrite [Go.Proofs.YgcoaaGreat.NatW.frz_beq]; generalize Go.Proofs.YgcoaaGreat.NatW.frzB _ = x__) | (rewrite [Go.Proofs.YgcoaaGreat.NatW.frz_not]; generalize Go.Proofs.YgcoaaGreat.NatW.frzB _ = x__) | (rewrite [Go.Proofs.YgcoaaGreat.NatW.frz_and]; generalize Go.Proofs.YgcoaaGreat.NatW.frzB _ = x__) | (rewrite [Go.Proofs.YgcoaaGreat.NatW.frz_or]; generalize Go.Proofs.YgcoaaGreat.NatW.frzB _ = x__)))
            (refine region_then _ 7 4 (by kernel_rfl) (by kernel_rfl) (by kernel_rfl) ?_; simp only [List.take, List.drop]; (repeat (first | go_big_quiet_skip | (go_big_quiet_want; go_big_quiet_op; go_big_quiet_on))); refine wpQuiet_nil ?_)
            intro y
            have HM := hide ((unhide HRR y).setM (bits .and .u64 (m : Int) (IntKind.u64.wrap (IntKind.u64.wrap (2 ^ (-e).toNat) - 1))))
            go_wp2_with fail
            all_goals first
              | (obtain ⟨n7, top7, e7, hn7⟩ := (unhide HM).ex
                 refine fraction_int d n7 top7 sig prec hn7 hprec _ (wr64' _) _ (by omega) (by omega) _ e7 _ ?_
                 intro n9 top9 w9 e9 hg9
                 have HG9 := hide (grow_trans (unhide HM).g hg9)
                 have HE9 := hide e9
                 clear e9 hg9 e7
                 go_wp2_with fail
                 refine bodyPost_box rfl ?_; intro r hr; simp [results, Oaag.results330, go_sem] at hr; subst hr; refine ⟨_, rfl, ?_⟩
                 exact unhide HK _ _ _ (unhide HE9) (unhide HG9))
              | (obtain ⟨n7, top7, e7, hn7⟩ := (unhide HM).ex
                 refine bodyPost_box rfl ?_; intro r hr; simp [results, Oaag.results330, go_sem] at hr; subst hr; refine ⟨_, rfl, ?_⟩
                 exact unhide HK _ _ _ e7 (unhide HM).g)
              | skip
        · go_wp2_with fail
          all_goals first
              | (obtain ⟨n7, top7, e7, hn7⟩ := (unhide HT).ex
                 refine fraction_int d n7 top7 sig prec hn7 hprec _ ⟨by omega, by omega⟩ _ (by omega) (by omega) _ e7 _ ?_
                 intro n9 top9 w9 e9 hg9
                 have HG9 := hide (grow_trans (unhide HT).g hg9)
                 have HE9 := hide e9
                 clear e9 hg9 e7
                 go_wp2_with fail
                 refine bodyPost_box rfl ?_; intro r hr; simp [results, Oaag.results330, go_sem] at hr; subst hr; refine ⟨_, rfl, ?_⟩
                 exact unhide HK _ _ _ (unhide HE9) (unhide HG9))
              | (obtain ⟨n7, top7, e7, hn7⟩ := (unhide HT).ex
                 refine bodyPost_box rfl ?_; intro r hr; simp [results, Oaag.results330, go_sem] at hr; subst hr; refine ⟨_, rfl, ?_⟩
                 exact unhide HK _ _ _ e7 (unhide HT).g)
              | skip
      · go_wp2_with fail
        refine ⟨⟨e + 1, m / 2, by omega, by omega, by omega, ?_⟩, ?_⟩
        · exact ((unhide HR).setM _).setE _
        · rw [unhide HEO]; unfold eOf
          rw [cell_set _ _ _ _ _ _ _ (ks2 _), if_pos ⟨rfl, rfl⟩]; simp [intOf]; omega
    · cases qb
      · obtain ⟨en, hen⟩ : ∃ en : Nat, e = (en : Int) := ⟨e.toNat, by omega⟩
        subst hen
        go_wp2_with fail
        refine (whole_any m en hm (by omega)) _ _ ?_
        rintro _ w6 ⟨gn, hgn, cs, rfl, hcl, hcs, hcn⟩ hb6
        have hr6 := (unhide HT).later hb6
        clear hb6
        obtain ⟨w7, hsto, hb7, hm7, hk7, hc7⟩ := gr_stored w6 cs gn hcl hcs hcn
        have hgs : w.heap.size ≤ w6.heap.size := hr6.g.size
        have HST := hide hsto
        have HS7 : Hid (ER w d nb sig prec en m w7 ∧ Bank w7 w6.heap.size 0 20 .u64 U64 ∧ Mine w7 w6.heap.size) := hide ⟨hr6.later hb7, hk7, hm7⟩
        clear hsto hb7 hm7 hk7 hr6 hcl hcs hcn HR HT HEO k2 k3 f2 f3 ks2 kd2 kd3 kt ft hqb
        go_wp2_with (first
          | (refine wpList_newc 375 _ z375 rfl rfl ?_)
          | ((first | with_reducible refine Go.Proofs.YgcoaaGreat.NatW.at_load 375 ?_ | with_reducible refine Go.Proofs.YgcoaaGreat.NatW.at_store 375 ?_); refine wpList_stA rfl rfl 375 _ _ rfl w6.heap.size rfl (.agg cs.toArray) rfl (unhide HST) ?_))
        obtain ⟨gb, hgb⟩ : ∃ gb, w6.heap.size = gb := ⟨_, rfl⟩
        have hst : ExpG w d nb gb sig prec en m (.int .i64 ((gn : Int) - 1)) w7 := ⟨gn, rfl, hgn, (unhide HS7).1, hgb ▸ (unhide HS7).2.1, hgb ▸ (unhide HS7).2.2, by omega, by omega⟩
        have HG := hide hst
        rw [hgb]
        clear hst HS7 HST hgb hc7 hgs
        go_loopw [8] (ExpG w d nb gb sig prec en m) (fun t8 _ => (intOf t8 + 1).toNat)
        case atStart => exact unhide HG
        case round =>
          clear HG
          obtain ⟨i, rfl, hi, hr, hbk, hmg, hgd, hgw⟩ := hrel
          rcases Nat.eq_zero_or_pos i with hi0 | hi0
          · subst hi0
            go_wp2_with fail
            obtain ⟨n7, top7, e7, hn7⟩ := hr.ex
            refine bodyPost_box rfl ?_; intro r hr'; simp [results, Oaag.results330, go_sem] at hr'; subst hr'; refine ⟨_, rfl, ?_⟩
            exact unhide HK _ _ _ e7 hr.g
          · obtain ⟨j, rfl⟩ : ∃ j, i = j + 1 := ⟨i - 1, by omega⟩
            obtain ⟨vj, kj, uj⟩ := hbk.cell j (by omega)
            have HA := hide hr
            have HB := hide hbk
            have HM := hide hmg
            clear hr hbk hmg
            go_wp2_with fail
            obtain ⟨n8, top8, e8, hn8⟩ := (unhide HA).ex
            refine put_any d n8 top8 sig prec vj uj false hn8 _ e8 _ ?_
            intro n8' top8' w8 e8' hn8' hg8
            have hblk : w8.heap[gb]? = wr.heap[gb]? := hg8.block gb (unhide HM).1 (by simp; omega)
            have HA8 := hide ((unhide HA).put e8' hn8' hg8)
            have HB8 := hide ((unhide HB).blk hblk)
            have HM8 := hide ((unhide HM).blk hblk)
            clear e8 e8' hg8 hblk HA HB HM kj
            go_wp2_with fail
            exact ⟨⟨j, congrArg (Value.int .i64) (by omega), by omega, unhide HA8, unhide HB8, unhide HM8, hgd, hgw⟩, by simp [intOf]; try omega⟩
      · obtain ⟨en, hen⟩ : ∃ en : Nat, e = (en : Int) := ⟨e.toNat, by omega⟩
        subst hen
        go_wp2_with fail
        refine (whole_any m en hm (by omega)) _ _ ?_
        rintro _ w6 ⟨gn, hgn, cs, rfl, hcl, hcs, hcn⟩ hb6
        have hr6 := (unhide HT).later hb6
        clear hb6
        obtain ⟨w7, hsto, hb7, hm7, hk7, hc7⟩ := gr_stored w6 cs gn hcl hcs hcn
        have hgs : w.heap.size ≤ w6.heap.size := hr6.g.size
        have HST := hide hsto
        have HS7 : Hid (ER w d nb sig prec en m w7 ∧ Bank w7 w6.heap.size 0 20 .u64 U64 ∧ Mine w7 w6.heap.size) := hide ⟨hr6.later hb7, hk7, hm7⟩
        clear hsto hb7 hm7 hk7 hr6 hcl hcs hcn HR HT HEO k2 k3 f2 f3 ks2 kd2 kd3 kt ft hqb
        go_wp2_with (first
          | (refine wpList_newc 375 _ z375 rfl rfl ?_)
          | ((first | with_reducible refine Go.Proofs.YgcoaaGreat.NatW.at_load 375 ?_ | with_reducible refine Go.Proofs.YgcoaaGreat.NatW.at_store 375 ?_); refine wpList_stA rfl rfl 375 _ _ rfl w6.heap.size rfl (.agg cs.toArray) rfl (unhide HST) ?_))
        obtain ⟨gb, hgb⟩ : ∃ gb, w6.heap.size = gb := ⟨_, rfl⟩
        have hst : ExpG w d nb gb sig prec en m (.int .i64 ((gn : Int) - 1)) w7 := ⟨gn, rfl, hgn, (unhide HS7).1, hgb ▸ (unhide HS7).2.1, hgb ▸ (unhide HS7).2.2, by omega, by omega⟩
        have HG := hide hst
        rw [hgb]
        clear hst HS7 HST hgb hc7 hgs
        go_loopw [8] (ExpG w d nb gb sig prec en m) (fun t8 _ => (intOf t8 + 1).toNat)
        case atStart => exact unhide HG
        case round =>
          clear HG
          obtain ⟨i, rfl, hi, hr, hbk, hmg, hgd, hgw⟩ := hrel
          rcases Nat.eq_zero_or_pos i with hi0 | hi0
          · subst hi0
            go_wp2_with fail
            obtain ⟨n7, top7, e7, hn7⟩ := hr.ex
            refine bodyPost_box rfl ?_; intro r hr'; simp [results, Oaag.results330, go_sem] at hr'; subst hr'; refine ⟨_, rfl, ?_⟩
            exact unhide HK _ _ _ e7 hr.g
          · obtain ⟨j, rfl⟩ : ∃ j, i = j + 1 := ⟨i - 1, by omega⟩
            obtain ⟨vj, kj, uj⟩ := hbk.cell j (by omega)
            have HA := hide hr
            have HB := hide hbk
            have HM := hide hmg
            clear hr hbk hmg
            go_wp2_with fail
            obtain ⟨n8, top8, e8, hn8⟩ := (unhide HA).ex
            refine put_any d n8 top8 sig prec vj uj false hn8 _ e8 _ ?_
            intro n8' top8' w8 e8' hn8' hg8
            have hblk : w8.heap[gb]? = wr.heap[gb]? := hg8.block gb (unhide HM).1 (by simp; omega)
            have HA8 := hide ((unhide HA).put e8' hn8' hg8)
            have HB8 := hide ((unhide HB).blk hblk)
            have HM8 := hide ((unhide HM).blk hblk)
            clear e8 e8' hg8 hblk HA HB HM kj
            go_wp2_with fail
            exact ⟨⟨j, congrArg (Value.int .i64) (by omega), by omega, unhide HA8, unhide HB8, unhide HM8, hgd, hgw⟩, by simp [intOf]; try omega⟩

end Go.Proofs.YgcoaaGreat.NatW
