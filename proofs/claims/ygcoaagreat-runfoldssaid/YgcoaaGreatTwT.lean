/-
  Two runs of one text: THE LAW.
-/
import Derived.Test.YgcoaaGreatTwTa
set_option linter.unusedVariables false
set_option linter.unusedSimpArgs false
namespace Go.Tw
open Go.Mix

section
variable {V : Env} {dr : FuncId → Array Oper → Bool} {v : Value} {w0 : World} {N : Nat}

theorem drawn_late (hv : Given V dr) (hmix : V.P.follows .mixedOrders = true) (ih : ∀ M, M < N → At V dr v w0 M) :
    ∀ (id : Nat) (ops : Array Oper) (a : Act) (w : World) (b : Frame) (k : List Item) (cs : List Frame), okCode V b.fn dr (.region id ops true) = true → Good V.P cs → cs ≠ [] → Mate V b.fn a w →
    Ends V.P v w0 N (lone (b.at a (.code (.region id ops true) :: k)) cs w) → ∀ n0, DrLate V b.fn ops n0 →
    ∃ a1 w1 M, M < N ∧ Keeps V b.fn a w a1 w1 ∧ Ends V.P v w0 M (lone (b.at a1 k) cs w1) ∧
      ∀ a' w' β, AR (V.TT b.fn) β a a' → W β w w' → (Code.region id ops true).wp V.P (fun e' a1' w1' => e' = .normal ∧ Alike2 (V.TT b.fn) β w w' a1 w1 a1' w1') a' w' := by
  intro id ops a w b k cs hok hg hcs hmate h n0 dok
  simp only [okCode, Bool.and_eq_true, Bool.not_true, Bool.false_or, Array.all_eq_true_iff_forall_mem] at hok
  have hle1 := dok.shaped.le
  have hle : n0 ≤ ops.size := by omega
  have hops : ∀ (i : Nat) o, ops[i]? = some o → okOp2 V.P (V.TT b.fn) V.E o = true ∧ okDst V b.fn o = true ∧ okKeeps V b.fn o = true :=
    fun i o ho => (fun q => ⟨q.1.1, q.1.2, q.2⟩) (hok.1 o (Array.mem_of_getElem? ho))
  obtain ⟨os, ty, qx, y, hos, hop, hgd, hdst, hlk, hbl⟩ := dok.store
  obtain ⟨M1, rfl, h1⟩ := h.next rfl step_region_draw
  have hd0 : a.defers = [] := by
    obtain ⟨_, _, _, _, ha, _⟩ := hmate
    exact ha.still.1
  have htz : w.tape = fun _ _ => 0 := hmate.1.1
  let wd : World := { w with drawn := w.drawn + 1 }
  have hmd : Mate V b.fn a wd := by
    obtain ⟨⟨htz, hdi⟩, am, wm, βm, ha, hw⟩ := hmate
    exact ⟨⟨htz, hdi.size (w1 := wd) (Nat.le_refl _)⟩, am, wm, βm, ha, hw.heap (v := wd) (v' := wm) rfl rfl⟩
  have hsch : Region.schedule (V.P.follows .mixedOrders) ops (w.tape w.drawn (.order b.fn id)) = List.range' 0 (ops.size - 0) := by
    rw [htz, hmix, dok.order, List.range_eq_range']
    rfl
  rw [hsch] at h1
  have rep : ∀ i, (Array.replicate ops.size false).getD i false = false := by
    intro i
    simp only [Array.getD_eq_getD_getElem?, Array.getElem?_replicate]
    split <;> rfl
  have hdn : Down ops (Array.replicate ops.size false) := fun j o _ hl => by rw [rep j] at hl; cases hl
  have hup0 : upto ops.size 0 = Array.replicate ops.size false := by simp [upto]
  obtain ⟨ah, wh, av, pw, qw, xs, K, hK, hpt, hmh, h2⟩ := head_A2 hv ih hle dok.shaped.low dok.apart dok.head hg hcs hops n0 0 a wd (fun _ => a) (fun _ => wd) (fun _ => wd) (fun _ => undef) M1 (by omega) (by rw [hup0]; exact PT.begin hd0) hmd (by omega) h1
  obtain ⟨a1, w1, K2, hK2, hk2, h3, hm3, hwp⟩ := ops_at hv ih hg hcs hops (List.range' n0 (ops.size - n0)) hmh (by omega) h2
  have er : List.range' n0 (ops.size - n0) = n0 :: List.range' (n0 + 1) (ops.size - (n0 + 1)) := by
    have : ops.size - n0 = (ops.size - (n0 + 1)) + 1 := by omega
    rw [this, List.range'_succ]
  -- the store, in the first run
  obtain ⟨ws1, hrs⟩ : ∃ ws1, (execOp ah.eval os).run V.P wh = .ok .skip ws1 := by
    rw [er] at h2
    obtain ⟨x, w5, K5, _, _, _, _, hran, _, _⟩ := op_gen hv ih hg hcs hos (hops n0 os hos) _ hmh (by omega) h2
    rcases hran (by simp [notCall, hop]) with ⟨_, n, hrn, _⟩ | ⟨hw, _, _⟩
    · have e := store_skip hop hrn
      subst e
      exact ⟨_, hrn⟩
    · exact absurd (wanted_none hgd) hw
  have tr := hpt.trace hle
  have hkeep : Keeps V b.fn a w a1 w1 := hpt.keeps.trans hk2
  refine ⟨a1, w1, K2, by omega, hkeep, h3, ?_⟩
  intro a' w' β ha hw
  let wd' : World := { w' with drawn := w'.drawn + 1 }
  have hWd : W β wd wd' := hw.heap (v := wd) (v' := wd') rfl rfl
  have hpwn : (fun j => if j < n0 then pw j else wh) n0 = wh := by simp
  have hrs' : (execOp ah.eval os).run V.P ((fun j => if j < n0 then pw j else wh) n0) = .ok .skip ws1 := by rw [hpwn]; exact hrs
  have hdi' : Dist (V.BX b.fn) ah ((fun j => if j < n0 then pw j else wh) n0) := by rw [hpwn]; exact hmh.1.2
  have hoks := (hops n0 os hos).1
  refine wp_region_any hmix ?_
  refine any_of dok.shaped (fun listed a2 w2 => (listed.getD n0 false = false ∧ ∃ β2, InvB V b.fn ops n0 ah (fun j => if j < n0 then pw j else wh) qw β a' wd' listed a2 w2 β2) ∨
    (listed.getD n0 false = true ∧ ∃ w3, (∃ β2, InvB V b.fn ops n0 ah (fun j => if j < n0 then pw j else wh) qw β a' wd' listed a2 w3 β2) ∧ (execOp a2.eval os).run V.P w3 = .ok .skip w2)) ?_ ?_ ops.size (Array.replicate ops.size false) a' wd' (by simp) (by simp) (fun k _ => rep k) hdn ?_
  · intro i o hi ho listed a2 w2 hsz hpre hdown hun hed hJ
    have hnl : n0 < listed.size := by omega
    by_cases hin : i = n0
    · subst hin
      rw [hos] at ho
      cases ho
      rcases hJ with ⟨hn, β2, hI⟩ | ⟨hn, _⟩
      · have hll : ∀ t ∈ os.looksAt ops, ∀ (j : Nat) oj, j < i → ops[j]? = some oj → oj.dst = some t → listed.getD j false = true := by
          intro t ht j oj hj hoj hd
          obtain ⟨e, he, hb, hon⟩ := hlk t ht j oj hj hoj hd
          rw [← hon]
          exact hed e he hb
        obtain ⟨w4, B, b0, s1, _, _, _⟩ := store_B hv.glob hv.eq tr dok.apart ha hop hoks hrs' hI hll
        unfold wpOp
        simp only [hos, wanted_none hgd, if_true]
        refine .inl ?_
        unfold Oper.wp
        rw [s1]
        show (_ ∨ _)
        rw [hdst]
        refine .inr ⟨by simp [hnl], w2, ⟨β2, hI.late fun j hj => ?_⟩, s1⟩
        rw [getD_set_ne false (by omega)]
      · rw [hn] at hun
        cases hun
    · have hi' : i < n0 := by omega
      rcases hJ with ⟨hn, β2, hI⟩ | ⟨hn, w3, ⟨β2, hI⟩, hst⟩
      · refine wpOp_mono ?_ (step_B tr dok.apart ha hWd hi' ho hsz hdown hun hed hI)
        rintro a3 w3 hI3
        exact .inl ⟨by rw [getD_set_ne false hin]; exact hn, hI3⟩
      · rcases hbl i o hi' ho with hb | hb
        · rw [hb listed hsz hdown hn] at hun
          cases hun
        · have hll : ∀ t ∈ os.looksAt ops, ∀ (j : Nat) oj, j < n0 → ops[j]? = some oj → oj.dst = some t → listed.getD j false = true := by
            intro t ht j oj hj hoj hd
            obtain ⟨e, he, hbb, hon⟩ := hlk t ht j oj hj hoj hd
            rw [← hon]
            exact hdown n0 os hos hn e he hbb
          refine wpOp_mono ?_ (blind_B hv.glob hv.eq tr dok.apart ha hWd hdi' hop hoks hrs' hi' ho (hops i o ho).1 hb hsz hdown hun hed hI hll hst)
          rintro a3 w4 ⟨rfl, hI3, hst3⟩
          exact .inr ⟨by rw [getD_set_ne false hin]; exact hn, w3, hI3, hst3⟩
  · intro a2 w2 hJ
    have hl : ∀ i, i < n0 + 1 → (upto ops.size (n0 + 1)).getD i false = true := by
      intro i hi
      rw [Array.getD_eq_getD_getElem?, upto_get _ _ i hle1 (by omega)]
      simp [hi]
    rcases hJ with ⟨hn, _⟩ | ⟨_, w3, ⟨β2, hI⟩, hst⟩
    · rw [hl n0 (by omega)] at hn
      cases hn
    have hWn := hI.w n0 (Nat.le_refl _)
    have hlo := tr.lo n0 (Nat.le_refl _)
    have hcS := tr.cohS n0 (Nat.le_refl _)
    have hdom := hI.dom
    simp only [Nat.lt_irrefl, if_false] at hWn hlo hcS hdom
    have hW2 : W β2 wh w3 := by
      have toc : Le β2 (cut β2 wh.heap.size) := fun b c h => ⟨h, hdom b c h⟩
      refine ⟨fun b c h => ?_, fun b c c' h h' => hWn.fn b c c' (toc b c h) (toc b c' h'), fun b b1 c h h' => hWn.inj b b1 c (toc b c h) (toc b1 c h'), hWn.pos⟩
      obtain ⟨x, y, q1, q2, q3⟩ := hWn.blk b c (toc b c h)
      exact ⟨x, y, q1, q2, obj.mono cut_le q3⟩
    have hA2 : AR (V.TT b.fn) β2 ah a2 := by
      have key : ∀ t, val β2 (ah.tmps.getD t undef) (a2.tmps.getD t undef) ∧ (V.TT b.fn t = false → one β2 (ah.tmps.getD t undef) (a2.tmps.getD t undef)) := by
        intro t
        have := slot_B tr dok.apart ha hI (t := t) fun j oj hj _ _ => hl j (by omega)
        exact ⟨val.mono cut_le this.1, fun h => one.mono cut_le (this.2 h)⟩
      exact ⟨by rw [tr.size, hI.tsize, ha.size], fun t ht => (key t).2 ht, fun t => (key t).1, tr.still, hI.still⟩
    have hE2 : Ext β β2 w w' wh w3 := by
      refine ⟨hI.le, fun b c h => ?_, hlo, hI.sz, fun b hb _ => hcS b hb, fun c hc hn => hI.fr c hc hn, ⟨hpt.keeps.2.1, hI.sys⟩⟩
      rcases hI.new b c h with q | ⟨q, j, hj, _, q2, _⟩
      · exact .inl q
      · refine .inr ⟨?_, q⟩
        have := tr.lo j (Nat.le_of_lt hj)
        exact Nat.le_trans this q2
    have hall := hwp a2 w3 β2 hA2 hW2
    rw [er, wpOps_cons] at hall
    unfold wpOp at hall
    simp only [hos, wanted_none hgd, if_true] at hall
    rcases hall with hall | ⟨_, _, _, hh, _⟩
    · unfold Oper.wp at hall
      rw [hst] at hall
      have hall' : wpOps V.P ops (fun e a1' w1' => e = .normal ∧ Alike2 (V.TT b.fn) β2 wh w3 a1 w1 a1' w1') (List.range' (n0 + 1) (ops.size - (n0 + 1))) (a2.put os.dst undef) w2 := hall
      rw [hdst] at hall'
      refine wpOps_mono ?_ ?_ _ _ _ hall'
      · rintro e a3 w3 ⟨rfl, hh⟩
        exact ⟨rfl, Alike2.trans hE2 hh⟩
      · rintro ⟨_, _, hh, _⟩
        exact absurd hh (by simp)
    · exact absurd hh (by simp)
  · refine .inl ⟨rep n0, β, ?_⟩
    have d0 : ∀ b c, β b c → b < wd.heap.size ∧ c < wd'.heap.size := fun b c h => hWd.size h
    refine { w := fun k hk => ?_, le := Le.refl β, new := fun b c h => .inl h, dom := fun b c h => ?_, sz := Nat.le_refl _, fr := fun c _ _ => rfl, sys := ⟨rfl, rfl, rfl⟩, tsize := rfl, still := ha.still.2, keep := fun t _ => rfl, done := fun j o t _ hl => by rw [rep j] at hl; cases hl }
    · have toc : Le β (cut β (if k < n0 then pw k else wh).heap.size) := fun b c h => ⟨h, Nat.lt_of_lt_of_le (d0 b c h).1 (tr.lo k hk)⟩
      refine ⟨fun b c h => ?_, fun b c c' h h' => hWd.fn b c c' h.1 h'.1, fun b b1 c h h' => hWd.inj b b1 c h.1 h'.1, Nat.lt_of_lt_of_le hWd.pos.1 (tr.lo k hk), hWd.pos.2⟩
      obtain ⟨x, y, q1, q2, q3⟩ := hWd.blk b c h.1
      exact ⟨x, y, by rw [tr.cohS k hk b (d0 b c h.1).1]; exact q1, q2, obj.mono toc q3⟩
    · exact Nat.lt_of_lt_of_le (d0 b c h).1 (tr.lo n0 (Nat.le_refl _))

theorem drawn_at (hv : Given V dr) (hmix : V.P.follows .mixedOrders = true) (hdr : ∀ f ops, dr f ops = true → (∃ n0, DrOk V ops n0) ∨ ∃ n0, DrLate V f ops n0) (ih : ∀ M, M < N → At V dr v w0 M) : DrawnAt V dr v w0 N := by
  intro id ops a w b k cs hok hg hcs hmate h
  have hlt := drawn_late hv hmix ih id ops a w b k cs hok hg hcs hmate h
  simp only [okCode, Bool.and_eq_true, Bool.not_true, Bool.false_or, Array.all_eq_true_iff_forall_mem] at hok
  rcases hdr b.fn ops hok.2 with ⟨n0, dok⟩ | ⟨n0, dok⟩
  case inr => exact hlt n0 dok
  have hle := dok.shaped.le
  have hops : ∀ (i : Nat) o, ops[i]? = some o → okOp2 V.P (V.TT b.fn) V.E o = true ∧ okDst V b.fn o = true ∧ okKeeps V b.fn o = true :=
    fun i o ho => (fun q => ⟨q.1.1, q.1.2, q.2⟩) (hok.1 o (Array.mem_of_getElem? ho))
  obtain ⟨M1, rfl, h1⟩ := h.next rfl step_region_draw
  have hd0 : a.defers = [] := by
    obtain ⟨_, _, _, _, ha, _⟩ := hmate
    exact ha.still.1
  let wd : World := { w with drawn := w.drawn + 1 }
  have hmd : Mate V b.fn a wd := by
    obtain ⟨⟨htz, hdi⟩, am, wm, βm, ha, hw⟩ := hmate
    exact ⟨⟨htz, hdi.size (w1 := wd) (Nat.le_refl _)⟩, am, wm, βm, ha, hw.heap (v := wd) (v' := wm) rfl rfl⟩
  have hsch : Region.schedule (V.P.follows .mixedOrders) ops (w.tape w.drawn (.order b.fn id)) = Region.linearise.go .any ops ops.size (w.tape w.drawn (.order b.fn id)) (Array.replicate ops.size false) [] := by
    simp only [Region.schedule, hmix, Bool.true_or, if_true]
    rfl
  rw [hsch] at h1
  have rep : ∀ i, (Array.replicate ops.size false).getD i false = false := by
    intro i
    simp only [Array.getD_eq_getD_getElem?, Array.getElem?_replicate]
    split <;> rfl
  have hdn : Down ops (Array.replicate ops.size false) := fun j o _ hl => by rw [rep j] at hl; cases hl
  obtain ⟨ah, wh, av, pw, qw, xs, K, hK, hpt, hmh, h2⟩ := head_A hv ih dok hg hcs hops ops.size (w.tape w.drawn (.order b.fn id)) (Array.replicate ops.size false) a wd (fun _ => a) (fun _ => wd) (fun _ => wd) (fun _ => undef) M1 (by simp) (by simp) (fun k _ => rep k) hdn (PT.begin hd0) hmd (by omega) h1
  obtain ⟨a1, w1, K2, hK2, hk2, h3, hm3, hwp⟩ := ops_at hv ih hg hcs hops (List.range' n0 (ops.size - n0)) hmh (by omega) h2
  have tr := hpt.trace hle
  have hkeep : Keeps V b.fn a w a1 w1 := hpt.keeps.trans hk2
  refine ⟨a1, w1, K2, by omega, hkeep, h3, ?_⟩
  intro a' w' β ha hw
  let wd' : World := { w' with drawn := w'.drawn + 1 }
  have hWd : W β wd wd' := hw.heap (v := wd) (v' := wd') rfl rfl
  refine wp_region_any hmix ?_
  refine any_of dok.shaped (fun listed a2 w2 => ∃ β2, InvB V b.fn ops n0 ah (fun j => if j < n0 then pw j else wh) qw β a' wd' listed a2 w2 β2) ?_ ?_ ops.size (Array.replicate ops.size false) a' wd' (by simp) (by simp) (fun k _ => rep k) hdn ?_
  · rintro i o hi ho listed a2 w2 hsz hpre hdown hun hed ⟨β2, hI⟩
    exact step_B tr dok.apart ha hWd hi ho hsz hdown hun hed hI
  · rintro a2 w2 ⟨β2, hI⟩
    have hl : ∀ i, i < n0 → (upto ops.size n0).getD i false = true := by
      intro i hi
      rw [Array.getD_eq_getD_getElem?, upto_get _ _ i hle (by omega)]
      simp [hi]
    have hWn := hI.w n0 (Nat.le_refl _)
    have hlo := tr.lo n0 (Nat.le_refl _)
    have hcS := tr.cohS n0 (Nat.le_refl _)
    have hdom := hI.dom
    simp only [Nat.lt_irrefl, if_false] at hWn hlo hcS hdom
    have hW2 : W β2 wh w2 := by
      have toc : Le β2 (cut β2 wh.heap.size) := fun b c h => ⟨h, hdom b c h⟩
      refine ⟨fun b c h => ?_, fun b c c' h h' => hWn.fn b c c' (toc b c h) (toc b c' h'), fun b b1 c h h' => hWn.inj b b1 c (toc b c h) (toc b1 c h'), hWn.pos⟩
      obtain ⟨x, y, q1, q2, q3⟩ := hWn.blk b c (toc b c h)
      exact ⟨x, y, q1, q2, obj.mono cut_le q3⟩
    have hA2 : AR (V.TT b.fn) β2 ah a2 := by
      have key : ∀ t, val β2 (ah.tmps.getD t undef) (a2.tmps.getD t undef) ∧ (V.TT b.fn t = false → one β2 (ah.tmps.getD t undef) (a2.tmps.getD t undef)) := by
        intro t
        by_cases hd : ∃ j oj, j < n0 ∧ ops[j]? = some oj ∧ oj.dst = some t
        · obtain ⟨j, oj, hj, hoj, hdj⟩ := hd
          obtain ⟨q1, q2⟩ := hI.done j oj t hj (hl j hj) hoj hdj
          exact ⟨val.mono cut_le q1, fun h => one.mono cut_le (q2 h)⟩
        · rw [tr.same t fun j oj hj hoj hdj => hd ⟨j, oj, hj, hoj, hdj⟩, hI.keep t fun j oj hj _ hoj hdj => hd ⟨j, oj, hj, hoj, hdj⟩]
          exact ⟨val.mono hI.le (ha.tup t), fun h => one.mono hI.le (ha.tmp t h)⟩
      exact ⟨by rw [tr.size, hI.tsize, ha.size], fun t ht => (key t).2 ht, fun t => (key t).1, tr.still, hI.still⟩
    have hE2 : Ext β β2 w w' wh w2 := by
      refine ⟨hI.le, fun b c h => ?_, hlo, hI.sz, fun b hb _ => hcS b hb, fun c hc hn => hI.fr c hc hn, ⟨hpt.keeps.2.1, hI.sys⟩⟩
      rcases hI.new b c h with q | ⟨q, j, hj, _, q2, _⟩
      · exact .inl q
      · refine .inr ⟨?_, q⟩
        have := tr.lo j (Nat.le_of_lt hj)
        exact Nat.le_trans this q2
    refine wpOps_mono ?_ ?_ _ _ _ (hwp a2 w2 β2 hA2 hW2)
    · rintro e a3 w3 ⟨rfl, hh⟩
      exact ⟨rfl, Alike2.trans hE2 hh⟩
    · rintro ⟨_, _, hh, _⟩
      exact absurd hh (by simp)
  · refine ⟨β, ?_⟩
    have d0 : ∀ b c, β b c → b < wd.heap.size ∧ c < wd'.heap.size := fun b c h => hWd.size h
    refine { w := fun k hk => ?_, le := Le.refl β, new := fun b c h => .inl h, dom := fun b c h => ?_, sz := Nat.le_refl _, fr := fun c _ _ => rfl, sys := ⟨rfl, rfl, rfl⟩, tsize := rfl, still := ha.still.2, keep := fun t _ => rfl, done := fun j o t _ hl => by rw [rep j] at hl; cases hl }
    · have toc : Le β (cut β (if k < n0 then pw k else wh).heap.size) := fun b c h => ⟨h, Nat.lt_of_lt_of_le (d0 b c h).1 (tr.lo k hk)⟩
      refine ⟨fun b c h => ?_, fun b c c' h h' => hWd.fn b c c' h.1 h'.1, fun b b1 c h h' => hWd.inj b b1 c h.1 h'.1, Nat.lt_of_lt_of_le hWd.pos.1 (tr.lo k hk), hWd.pos.2⟩
      obtain ⟨x, y, q1, q2, q3⟩ := hWd.blk b c h.1
      exact ⟨x, y, by rw [tr.cohS k hk b (d0 b c h.1).1]; exact q1, q2, obj.mono toc q3⟩
    · exact Nat.lt_of_lt_of_le (d0 b c h).1 (tr.lo n0 (Nat.le_refl _))

/-- THE LAW: what one run of a text comes to, every run of it comes to that is alike at the start. -/
theorem twin (hv : Given V dr) (hmix : V.P.follows .mixedOrders = true) (hdr : ∀ f ops, dr f ops = true → (∃ n0, DrOk V ops n0) ∨ ∃ n0, DrLate V f ops n0) : ∀ N, At V dr v w0 N :=
  at_all hv fun N ih => drawn_at hv hmix hdr ih
end
end Go.Tw
