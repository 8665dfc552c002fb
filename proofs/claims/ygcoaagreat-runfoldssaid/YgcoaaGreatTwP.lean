/-
  Two runs of one text: one operation among others, in both runs.
-/
import Derived.Test.YgcoaaGreatTwO
set_option linter.unusedVariables false
set_option linter.unusedSimpArgs false
namespace Go.Tw

/-- An operation that leaves all memory alone: no store; a function that is called stores through none of its parameters. -/
def headOk (V : Env) (o : Oper) : Bool :=
  !storing o && (match o.op with
    | .call { callee := .value (.func g), args, .. } => (List.range args.size).all fun i => !V.FT g i
    | _ => true)

/-- The slots at which an operation looks are alike in two frames. -/
def Agree (ops : Array Oper) (o : Oper) (a b : Act) : Prop := a.tmps.size = b.tmps.size ∧ ∀ t ∈ o.looksAt ops, a.tmps.getD t undef = b.tmps.getD t undef

section
variable {V : Env} {dr : FuncId → Array Oper → Bool} {v : Value} {w0 : World} {N : Nat}

/-- The operation is no call. -/
def notCall (o : Oper) : Bool := match o.op with
  | .call .. => false
  | _ => true

/-- What the first run did there. -/
def Ran (V : Env) (ops : Array Oper) (o : Oper) (a : Act) (w : World) (x : Value) (w1 : World) : Prop :=
  (Region.wanted o (yielded ops a.tmps) = true ∧ ∃ n, (execOp a.eval o).run V.P w = .ok n w1 ∧ (n = .value x ∨ n = .skip ∧ x = undef)) ∨ (¬ Region.wanted o (yielded ops a.tmps) = true ∧ x = undef ∧ w1 = w)

/-- One operation, in both runs; whatever else the frames hold. -/
def Opered2 (V : Env) (f : FuncId) (ops : Array Oper) (i : Nat) (o : Oper) (a : Act) (w : World) (x : Value) (w1 : World) : Prop :=
  ∀ (ac a' ab : Act) (w' : World) (β : Rel), Agree ops o ac a → Agree ops o ab a' → AR (V.TT f) β ac a' → W β w w' → ∀ (Q : Exit → Act → World → Prop) (K : Act → World → Prop),
    (∀ x' w1' β', Ext β β' w w' w1 w1' → W β' w1 w1' → val β' x x' → (∀ t, o.dst = some t → V.TT f t = false → one β' x x') → K (ab.put o.dst x') w1') → wpOp V.P ops Q i K ab w'

theorem exec_agree {ops : Array Oper} {o : Oper} {a b : Act} (h : Agree ops o a b) (hs : ∀ cs b, o.op ≠ .select cs b) : execOp a.eval o = execOp b.eval o := by
  refine execOp_congr o hs fun x hx => ?_
  cases x with
  | tmp t => exact h.2 t (List.mem_append_left _ (List.mem_filterMap.2 ⟨.tmp t, by simpa using hx, rfl⟩))
  | _ => rfl

theorem wanted_agree {ops : Array Oper} {o : Oper} {a b : Act} (h : Agree ops o a b) : Region.wanted o (yielded ops a.tmps) = Region.wanted o (yielded ops b.tmps) := by
  unfold Region.wanted
  cases hg : o.guard with
  | none => rfl
  | some gw =>
    obtain ⟨g, want⟩ := gw
    have hy : yielded ops a.tmps g = yielded ops b.tmps g := by
      unfold yielded
      cases ht : (ops[g]?).bind (·.dst) with
      | none => rfl
      | some t =>
        have e := h.2 t (by simp [Oper.looksAt, hg, ht])
        simp only [Option.bind_some]
        rw [Array.getD_eq_getD_getElem?, Array.getD_eq_getD_getElem?] at e
        by_cases hlt : t < a.tmps.size
        · have hlt' : t < b.tmps.size := by rw [← h.1]; exact hlt
          rw [Array.getElem?_eq_getElem hlt, Array.getElem?_eq_getElem hlt'] at e ⊢
          simp only [Option.getD_some] at e
          rw [e]
        · have hlt' : ¬ t < b.tmps.size := by rw [← h.1]; exact hlt
          rw [Array.getElem?_eq_none (Nat.le_of_not_lt hlt), Array.getElem?_eq_none (Nat.le_of_not_lt hlt')]
    simp only [hy]

theorem ok_nosel {P : Program} {TT : Nat → Bool} {E : TypeId → Bool} {o : Oper} (h : okOp2 P TT E o = true) : ∀ cs b, o.op ≠ .select cs b := by
  intro cs b e
  unfold okOp2 okOp tupMove at h
  rw [e] at h
  exact absurd h (by simp)

theorem op_gen (hv : Given V dr) (ih : ∀ M, M < N → At V dr v w0 M) {ops : Array Oper} {b : Frame} {k : List Item} {cs : List Frame} (hg : Good V.P cs) (hcs : cs ≠ []) {i : Nat} {o : Oper} (ho : ops[i]? = some o)
    (hops : okOp2 V.P (V.TT b.fn) V.E o = true ∧ okDst V b.fn o = true ∧ okKeeps V b.fn o = true) (rest : List Nat) {a : Act} {w : World} {M : Nat} (hm : Mate V b.fn a w) (hM : M ≤ N)
    (h : Ends V.P v w0 M (lone (b.at a (.inRegion ops (i :: rest) :: k)) cs w)) :
    ∃ x w1 K, K < M ∧ Keeps V b.fn a w (a.put o.dst x) w1 ∧ (headOk V o = true → ∀ b, b < w.heap.size → w1.heap[b]? = w.heap[b]?) ∧ Ends V.P v w0 K (lone (b.at (a.put o.dst x) (.inRegion ops rest :: k)) cs w1) ∧ (notCall o = true → Ran V ops o a w x w1) ∧ Mate V b.fn (a.put o.dst x) w1 ∧
      Opered2 V b.fn ops i o a w x w1 := by
  obtain ⟨⟨htz, hdi⟩, am, wm, βm, ham, hwm⟩ := hm
  obtain ⟨hok, hdst, hkp0⟩ := hops
  have hkp := okKeeps_tab hkp0
  have hns := ok_nosel hok
  by_cases hwa : Region.wanted o (yielded ops a.tmps) = true
  · cases hr : (execOp a.eval o).run V.P w with
    | halt e w1 => exact absurd h (no_halt ho hwa hr (SR.runHalt (SR.exec2 hv.glob hv.eq hok ham) hwm hr) ham.still.1 hg)
    | ok n w1 =>
      have key : ∀ ac a' ab w' β, Agree ops o ac a → Agree ops o ab a' → AR (V.TT b.fn) β ac a' → W β w w' → Region.wanted o (yielded ops ab.tmps) = true ∧ ∃ β1 n' w1', (execOp ab.eval o).run V.P w' = .ok n' w1' ∧ Ext β β1 w w' w1 w1' ∧ W β1 w1 w1' ∧ nxt2 (tupMove (V.TT b.fn) o) β1 n n' := by
        intro ac a' ab w' β h1 h2 ha hw
        have hr' : (execOp ac.eval o).run V.P w = .ok n w1 := by rw [exec_agree h1 hns]; exact hr
        obtain ⟨β1, n', w1', r1, r2, r3, r4⟩ := SR.run (SR.exec2 hv.glob hv.eq hok ha) hw hr'
        refine ⟨by rw [wanted_agree h2, wanted_alike ha, wanted_agree h1]; exact hwa, β1, n', w1', ?_, r2, r3, r4⟩
        rw [exec_agree h2 hns]; exact r1
      have self : ∀ x : Act, Agree ops o x x := fun x => ⟨rfl, fun _ _ => rfl⟩
      obtain ⟨_, βk, nk, wk, k1, k2, k3, k4⟩ := key a am am wm βm (self a) (self am) ham hwm
      have k5 := ham.mono k2.le
      have hkeep : ∀ x, (∀ s d, o.dst = some d → V.tab s b.fn d = true → ∀ base, base ≤ w.heap.size → Fresh (V.tab s b.fn) base a → above base x) → (Dist (V.BX b.fn) a w → Dist (V.BX b.fn) (a.put o.dst x) w1) → Keeps V b.fn a w (a.put o.dst x) w1 := by
        intro x hx hdx
        have h0 := op_keeps (base := 0) hv.glob hv.eq hok (hkp true) ham hwm (fun t _ => by cases hh : a.tmps.getD t undef <;> first | exact trivial | (rename_i c; cases c <;> first | exact trivial | exact Nat.zero_le _) | (rename_i c _ _; cases c <;> first | exact trivial | exact Nat.zero_le _)) (Nat.zero_le _) hr
        refine ⟨⟨h0.1, fun s base hb hf => ⟨?_, (op_keeps hv.glob hv.eq hok (hkp s) ham hwm hf hb hr).2.1⟩⟩, k2.sys.1, hdx⟩
        exact Fresh.put hf fun d hd ht => hx s d hd ht base hb hf
      have hstill : headOk V o = true → ∀ b, b < w.heap.size → w1.heap[b]? = w.heap[b]? := by
        intro hh
        simp only [headOk, Bool.and_eq_true, Bool.not_eq_true'] at hh
        have hsr := SR.exec2 hv.glob hv.eq hok ham
        rw [hh.1] at hsr
        exact (SR.still hsr hwm hr).2
      cases n with
      | value x =>
        obtain ⟨K, rfl, h1⟩ := h.next rfl (step_value ho hwa hr)
        have hdx : Dist (V.BX b.fn) a w → Dist (V.BX b.fn) (a.put o.dst x) w1 := by
          intro hd
          refine op_dist (w' := w) ham ?_ (okKeeps_col hkp0) hd k2.szA (fun bb hb => ?_) hr
          · intro t hop f b9 c9 hv9
            have hok1 : okArg (V.TT b.fn) (.tmp t) = true := by
              obtain ⟨dst, op, type, pos, after, guard⟩ := o
              dsimp only at hop
              subst hop
              simpa [okOp2, okOp, tupMove] using hok
            rcases one_kinds (ham.arg hok1) with ⟨b, e, e'⟩ | ⟨k, n, e, e'⟩ | ⟨s, e, e'⟩ | ⟨c, c', e, e', hc⟩ | ⟨c, c', n, d, e, e', hc⟩ | ⟨f, e, e'⟩ | ⟨e, e'⟩ | ⟨c, c', e, e', hc⟩ <;> rw [hv9] at e <;> cases e
            rfl
          · cases nk <;> first | (exfalso; simp [nxt2] at k4; done) | skip
            obtain ⟨c, _, hc⟩ := val_blk k4.1 hb
            exact (k3.size hc).1
        refine ⟨x, w1, K, by omega, hkeep x (fun s d hd ht base hb hf => (op_keeps hv.glob hv.eq hok (hkp s) ham hwm hf hb hr).2.2 x d rfl hd ht) hdx, hstill, h1, fun _ => .inl ⟨hwa, _, hr, .inl rfl⟩, ?_, ?_⟩
        · cases nk <;> first | (exfalso; simp [nxt2] at k4; done) | skip
          exact ⟨⟨k2.sys.1.trans htz, hdx hdi⟩, _, _, βk, k5.put (d := o.dst) k4.1 fun d hd ht => k4.2 (okDst_tup hdst d hd ht), k3⟩
        · intro ac a' ab w' β g1 g2 ha hw Q K hQ
          obtain ⟨q0, β1, n', w1', q1, q2, q3, q4⟩ := key ac a' ab w' β g1 g2 ha hw
          cases n' <;> first | (exfalso; simp [nxt2] at q4; done) | skip
          unfold wpOp
          simp only [ho, q0, if_true]
          refine .inl ?_
          unfold Oper.wp
          rw [q1]
          exact hQ _ _ β1 q2 q3 q4.1 fun d hd ht => q4.2 (okDst_tup hdst d hd ht)
      | skip =>
        obtain ⟨K, rfl, h1⟩ := h.next rfl (step_skip' ho hwa hr)
        refine ⟨undef, w1, K, by omega, hkeep undef (fun _ _ _ _ _ _ _ => trivial) (fun hd => hd.put_old k2.szA fun t _ _ hb => absurd rfl hb), hstill, h1, fun _ => .inl ⟨hwa, _, hr, .inr ⟨rfl, rfl⟩⟩, ⟨⟨k2.sys.1.trans htz, hdi.put_old k2.szA fun t _ _ hb => absurd rfl hb⟩, _, _, βk, k5.put (d := o.dst) one_undef.val fun _ _ _ => one_undef, k3⟩, ?_⟩
        intro ac a' ab w' β g1 g2 ha hw Q K hQ
        obtain ⟨q0, β1, n', w1', q1, q2, q3, q4⟩ := key ac a' ab w' β g1 g2 ha hw
        cases n' <;> first | (exfalso; simp [nxt2] at q4; done) | skip
        unfold wpOp
        simp only [ho, q0, if_true]
        refine .inl ?_
        unfold Oper.wp
        rw [q1]
        exact hQ _ _ β1 q2 q3 one_undef.val fun _ _ _ => one_undef
      | enter g xs =>
        obtain ⟨as, ts, hop, hxs0, hw1⟩ := exec_enter ham hok hr
        have hF : V.F g = true ∧ ∀ d, o.dst = some d → V.TT b.fn d = false → ∀ fn, V.P.funcs[g]? = some fn → fn.results.size ≤ 1 := by
          unfold okDst at hdst
          rw [hop] at hdst
          simp only [Bool.and_eq_true] at hdst
          refine ⟨hdst.1.1, fun d hd ht fn hfn => ?_⟩
          have h2 := hdst.2
          rw [hd] at h2
          simp only [hfn, ht, Bool.false_or, decide_eq_true_eq] at h2
          exact h2
        obtain ⟨K, rfl, h1⟩ := h.next rfl (step_enter ho hwa hr)
        have hgood : Good V.P (b.at a (.inRegion ops (i :: rest) :: k) :: cs) := by
          cases cs with
          | nil => exact absurd rfl hcs
          | cons c cs => exact ⟨⟨ham.still.1, rfl⟩, hg⟩
        have hmate : ∃ args' w' β, arr (one β) xs args' ∧ W β w1 w' := by
          cases nk <;> first | (exfalso; simp [nxt2] at k4; done) | skip
          exact ⟨_, wk, βk, k4.2, k3⟩
        have hsz1 : ∀ fn, V.P.funcs[g]? = some fn → xs.size ≤ fn.params.size := by
          intro fn hfn
          unfold okDst at hdst
          rw [hop] at hdst
          simp only [Bool.and_eq_true, hfn, decide_eq_true_eq] at hdst
          rw [hxs0]
          simpa using hdst.1.2
        have hcol0 : ∀ d, o.dst = some d → V.BX b.fn d = 0 := by
          intro d hd
          have := okKeeps_col hkp0
          simpa [okCol, hop, hd] using this
        obtain ⟨x, w2, K2, hK2, hk2, hg2, h2, hcall⟩ := call_at hv ih hF.1 hmate (k2.sys.1.trans htz) hsz1 hgood hcs (by omega) h1
        have hkeep2 : Keeps V b.fn a w (a.put o.dst x) w2 := by
          subst hw1
          refine ⟨⟨hk2.1.1, fun s base hb hf => ⟨Fresh.put hf fun d hd ht => ?_, hk2.1.2 base hb fun i hi => ?_⟩⟩, hk2.2, fun hd => hd.put_old hk2.1.1 fun t ht hct _ => absurd (hcol0 t ht) hct⟩
          · have hkk := hkp s
            simp only [okKeep, hop, hd, ht, yieldsFT, callFT, Bool.and_eq_true, Bool.not_true, Bool.false_or, List.all_eq_true, List.mem_range] at hkk
            obtain ⟨hq1, hq2⟩ := hkk.1
            cases hfn : V.P.funcs[g]? with
            | none => rw [hfn] at hq1; exact absurd hq1 (by simp)
            | some fn =>
              rw [hfn] at hq1
              dsimp only at hq1
              split at hq1
              · rename_i r hr'
                refine hg2 base hb (fun i hi => ?_) fn r hfn hr' hq1
                rw [hxs0, Array.getD_eq_getD_getElem?, Array.getElem?_map]
                cases hx : as[i]? with
                | none => exact trivial
                | some y =>
                  have h9 := hq2 i (Array.getElem?_eq_some_iff.1 hx).1
                  rw [hx] at h9
                  simp only [hi, Bool.not_true, Bool.false_or] at h9
                  exact isFT_spec hf h9
              · exact absurd hq1 (by simp)
          · rw [hxs0, Array.getD_eq_getD_getElem?, Array.getElem?_map]
            have hkk := hkp s
            simp only [okKeep, hop, Bool.and_eq_true, List.all_eq_true, List.mem_range] at hkk
            cases hx : as[i]? with
            | none => exact trivial
            | some y =>
              have h9 := hkk.2 i (Array.getElem?_eq_some_iff.1 hx).1
              rw [hx] at h9
              simp only [hi, Bool.not_true, Bool.false_or] at h9
              exact isFT_spec hf h9
        have hstill2 : headOk V o = true → ∀ b, b < w.heap.size → w2.heap[b]? = w.heap[b]? := by
          intro hh
          subst hw1
          refine hk2.1.2 w1.heap.size (Nat.le_refl _) fun i hi => ?_
          simp only [headOk, hop, Bool.and_eq_true, List.all_eq_true, List.mem_range] at hh
          rw [hxs0, Array.getD_eq_getD_getElem?, Array.getElem?_map]
          cases hx : as[i]? with
          | none => exact trivial
          | some y =>
            have h9 := hh.2 i (Array.getElem?_eq_some_iff.1 hx).1
            rw [hi] at h9
            exact absurd h9 (by simp)
        have hfin : (b.at a (.inRegion ops (i :: rest) :: k)).finish x = b.at (a.put o.dst x) (.inRegion ops rest :: k) := by rw [Frame.finish_at, ho]; rfl
        rw [hfin] at h2
        refine ⟨x, w2, K2, by omega, hkeep2, hstill2, h2, fun hn => absurd hn (by simp [notCall, hop]), ?_, ?_⟩
        · cases nk <;> first | (exfalso; simp [nxt2] at k4; done) | skip
          obtain ⟨eg, hxs⟩ := k4
          obtain ⟨e, w3, x', β2, _, e1, e2, e3, e4⟩ := calls_ex (hcall _ wk βk hxs k3)
          exact ⟨⟨hkeep2.2.1.trans htz, hkeep2.2.2 hdi⟩, _, w3, β2, (k5.mono e1.le).put (d := o.dst) e3 fun d hd ht => e4 (hF.2 d hd ht), e2⟩
        · intro ac a' ab w' β g1 g2 ha hw Q K hQ
          obtain ⟨q0, β1, n', w1', q1, q2, q3, q4⟩ := key ac a' ab w' β g1 g2 ha hw
          cases n' <;> first | (exfalso; simp [nxt2] at q4; done) | skip
          obtain ⟨eg, hxs⟩ := q4
          subst eg
          unfold wpOp
          simp only [ho, q0, if_true]
          refine .inl ?_
          unfold Oper.wp
          rw [q1]
          refine (hcall _ w1' β1 hxs q3).mono ?_
          rintro e w3 ⟨x', β2, rfl, e1, e2, e3, e4⟩
          exact hQ x' w3 β2 (q2.trans e1) e2 e3 fun t ht htt => e4 (hF.2 t ht htt)
      | _ => cases nk <;> (exfalso; simp [nxt2] at k4; done)
  · have hs := step_op_skip (P := V.P) (b := b) (a := a) (k := k) (cs := cs) (w := w) (ops := ops) (i := i) (rest := rest) (by simp [ho]; simpa using hwa)
    simp only [ho, Option.bind_some] at hs
    obtain ⟨K, rfl, h1⟩ := h.next rfl hs
    refine ⟨undef, w, K, by omega, ⟨⟨Nat.le_refl _, fun s base hb hf => ⟨Fresh.put hf fun _ _ _ => trivial, fun _ _ => rfl⟩⟩, rfl, fun hd => hd.put_old (Nat.le_refl _) fun t _ _ hb => absurd rfl hb⟩, fun _ _ _ => rfl, h1, fun _ => .inr ⟨hwa, rfl, rfl⟩, ⟨⟨htz, hdi.put_old (Nat.le_refl _) fun t _ _ hb => absurd rfl hb⟩, _, wm, βm, ham.put (d := o.dst) one_undef.val fun _ _ _ => one_undef, hwm⟩, ?_⟩
    intro ac a' ab w' β g1 g2 ha hw Q K hQ
    have hwb : ¬ Region.wanted o (yielded ops ab.tmps) = true := by rw [wanted_agree g2, wanted_alike ha, wanted_agree g1]; exact hwa
    unfold wpOp
    simp only [ho, hwb, if_false]
    exact hQ undef w' β Ext.refl hw one_undef.val fun _ _ _ => one_undef
end
end Go.Tw
