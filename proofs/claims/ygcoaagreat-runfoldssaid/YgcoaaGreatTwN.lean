/-
  Two runs of one text: operations in one order, and the text round them.
-/
import Derived.Test.YgcoaaGreatTwM
set_option linter.unusedVariables false
set_option linter.unusedSimpArgs false
namespace Go.Tw

section
variable {V : Env} {dr : FuncId → Array Oper → Bool} {v : Value} {w0 : World} {N : Nat}

theorem Alike2.trans {TT : Nat → Bool} {β β1 : Rel} {w w' w1 w1' : World} {a2 a2' : Act} {w2 w2' : World} (h1 : Ext β β1 w w' w1 w1') (h2 : Alike2 TT β1 w1 w1' a2 w2 a2' w2') : Alike2 TT β w w' a2 w2 a2' w2' := by
  obtain ⟨β2, e, x, y⟩ := h2
  exact ⟨β2, h1.trans e, x, y⟩

theorem wpOps_mono {P : Program} {ops : Array Oper} {Q Q' : Exit → Act → World → Prop} (h : ∀ e a w, Q e a w → Q' e a w) (hQ' : LetsOut Q → LetsOut Q') : ∀ (l : List Nat) (a : Act) (w : World), wpOps P ops Q l a w → wpOps P ops Q' l a w
  | [], a, w, hh => h _ _ _ hh
  | i :: l, a, w, hh => by
    unfold wpOps at hh ⊢
    split
    · rename_i e
      simp only [e] at hh
      exact wpOps_mono h hQ' l a w hh
    · rename_i o e
      simp only [e] at hh
      split
      · rename_i hw
        simp only [hw, if_true] at hh
        rcases hh with hh | ⟨h1, h2⟩
        · refine .inl ?_
          unfold Oper.wp at hh ⊢
          revert hh
          cases (execOp a.eval o).run P w with
          | ok n w1 =>
            cases n <;> simp only [Oper.upon] <;> first
              | exact fun hh => wpOps_mono h hQ' l _ _ hh
              | exact fun hh => hh.elim
              | (intro hh
                 refine hh.mono ?_
                 rintro e w2 hq
                 cases e <;> first | exact wpOps_mono h hQ' l _ _ hq | exact h _ _ _ hq | exact hQ' hq)
              | (intro hh
                 exact hh.mono fun v w2 hq => wpOps_mono h hQ' l _ _ hq)
          | halt e w1 =>
            cases e <;> simp only [Oper.upon] <;> first | exact fun hh => h _ _ _ hh | exact fun hh => hh.elim
        · exact .inr ⟨h1, hQ' h2⟩
      · rename_i hw
        simp only [hw, if_false, Bool.false_eq_true] at hh
        exact wpOps_mono h hQ' l _ _ hh

theorem Fresh.put {FT : Nat → Bool} {base : Nat} {a : Act} (h : Fresh FT base a) {d : Option Tmp} {x : Value} (hx : ∀ t, d = some t → FT t = true → above base x) : Fresh FT base (a.put d x) := by
  cases d with
  | none => exact h
  | some d =>
    intro t ht
    show above base ((a.tmps.setIfInBounds d x).getD t undef)
    rw [getD_set]
    split
    · rename_i e
      exact hx d rfl (by rw [e.1]; exact ht)
    · exact h t ht

/-- One operation, in both runs. -/
def Opered (V : Env) (v : Value) (w0 : World) (ops : Array Oper) (b : Frame) (k : List Item) (cs : List Frame) (i : Nat) (rest : List Nat) (a : Act) (w : World) (M : Nat) : Prop :=
  ∃ a1 w1 K, K < M ∧ Keeps V b.fn a w a1 w1 ∧ Ends V.P v w0 K (lone (b.at a1 (.inRegion ops rest :: k)) cs w1) ∧ Mate V b.fn a1 w1 ∧
    ∀ a' w' β, AR (V.TT b.fn) β a a' → W β w w' → ∀ (Q : Exit → Act → World → Prop),
      (∀ a1' w1' β', Ext β β' w w' w1 w1' → W β' w1 w1' → AR (V.TT b.fn) β' a1 a1' → wpOps V.P ops Q rest a1' w1') → wpOps V.P ops Q (i :: rest) a' w'

theorem op_at (hv : Given V dr) (ih : ∀ M, M < N → At V dr v w0 M) {ops : Array Oper} {b : Frame} {k : List Item} {cs : List Frame} (hg : Good V.P cs) (hcs : cs ≠ [])
    (hops : ∀ (i : Nat) o, ops[i]? = some o → okOp2 V.P (V.TT b.fn) V.E o = true ∧ okDst V b.fn o = true ∧ okKeeps V b.fn o = true) (i : Nat) (rest : List Nat) {a : Act} {w : World} {M : Nat} (hm : Mate V b.fn a w) (hM : M ≤ N)
    (h : Ends V.P v w0 M (lone (b.at a (.inRegion ops (i :: rest) :: k)) cs w)) : Opered V v w0 ops b k cs i rest a w M := by
  obtain ⟨⟨htz, hdi⟩, am, wm, βm, ham, hwm⟩ := hm
  cases ho : ops[i]? with
  | none =>
    have hs := step_op_skip (P := V.P) (b := b) (a := a) (k := k) (cs := cs) (w := w) (ops := ops) (i := i) (rest := rest) (by simp [ho])
    simp only [ho, Option.bind_none, Act.put] at hs
    obtain ⟨K, rfl, h1⟩ := h.next rfl hs
    refine ⟨a, w, K, by omega, Keeps.refl, h1, ⟨⟨htz, hdi⟩, am, wm, βm, ham, hwm⟩, ?_⟩
    intro a' w' β ha hw Q hQ
    unfold wpOps
    simp only [ho]
    exact hQ a' w' β Ext.refl hw ha
  | some o =>
    obtain ⟨hok, hdst, hkp0⟩ := hops i o ho
    have hkp := okKeeps_tab hkp0
    by_cases hwa : Region.wanted o (yielded ops a.tmps) = true
    · cases hr : (execOp a.eval o).run V.P w with
      | halt e w1 => exact absurd h (no_halt ho hwa hr (SR.runHalt (SR.exec2 hv.glob hv.eq hok ham) hwm hr) ham.still.1 hg)
      | ok n w1 =>
        -- what the other run comes to
        have key : ∀ a' w' β, AR (V.TT b.fn) β a a' → W β w w' → Region.wanted o (yielded ops a'.tmps) = true ∧ ∃ β1 n' w1', (execOp a'.eval o).run V.P w' = .ok n' w1' ∧ Ext β β1 w w' w1 w1' ∧ W β1 w1 w1' ∧ nxt2 (tupMove (V.TT b.fn) o) β1 n n' ∧ AR (V.TT b.fn) β1 a a' := by
          intro a' w' β ha hw
          obtain ⟨β1, n', w1', r1, r2, r3, r4⟩ := SR.run (SR.exec2 hv.glob hv.eq hok ha) hw hr
          exact ⟨by rw [wanted_alike ha]; exact hwa, β1, n', w1', r1, r2, r3, r4, ha.mono r2.le⟩
        obtain ⟨_, βk, nk, wk, k1, k2, k3, k4, k5⟩ := key am wm βm ham hwm
        have hkeep : ∀ x, (∀ s d, o.dst = some d → V.tab s b.fn d = true → ∀ base, base ≤ w.heap.size → Fresh (V.tab s b.fn) base a → above base x) → (Dist (V.BX b.fn) a w → Dist (V.BX b.fn) (a.put o.dst x) w1) → Keeps V b.fn a w (a.put o.dst x) w1 := by
          intro x hx hdx
          have h0 := op_keeps (base := 0) hv.glob hv.eq hok (hkp true) ham hwm (fun t _ => by cases hh : a.tmps.getD t undef <;> first | exact trivial | (rename_i c; cases c <;> first | exact trivial | exact Nat.zero_le _) | (rename_i c _ _; cases c <;> first | exact trivial | exact Nat.zero_le _)) (Nat.zero_le _) hr
          refine ⟨⟨h0.1, fun s base hb hf => ⟨?_, (op_keeps hv.glob hv.eq hok (hkp s) ham hwm hf hb hr).2.1⟩⟩, k2.sys.1, hdx⟩
          exact Fresh.put hf fun d hd ht => hx s d hd ht base hb hf
        cases n with
        | value x =>
          obtain ⟨K, rfl, h1⟩ := h.next rfl (step_value ho hwa hr)
          have hdx : Dist (V.BX b.fn) a w → Dist (V.BX b.fn) (a.put o.dst x) w1 := by
            intro hd
            refine op_dist (w' := w) ham ?_ (okKeeps_col hkp0) hd k2.szA (fun bb hb => ?_) hr
            · intro t hop f b9 c9 hv9
              have hok1 : okArg (V.TT b.fn) (.tmp t) = true := by
                obtain ⟨dst, op, type, pos, after, guard⟩ := o
                dsimp only at hop
                subst hop
                simpa [okOp2, okOp, tupMove] using hok
              rcases one_kinds (ham.arg hok1) with ⟨b, e, e'⟩ | ⟨k, n, e, e'⟩ | ⟨s, e, e'⟩ | ⟨c, c', e, e', hc⟩ | ⟨c, c', n, d, e, e', hc⟩ | ⟨f, e, e'⟩ | ⟨e, e'⟩ | ⟨c, c', e, e', hc⟩ <;> rw [hv9] at e <;> cases e
              rfl
            · cases nk <;> first | (exfalso; simp [nxt2] at k4; done) | skip
              obtain ⟨c, _, hc⟩ := val_blk k4.1 hb
              exact (k3.size hc).1
          refine ⟨a.put o.dst x, w1, K, by omega, hkeep x (fun s d hd ht base hb hf => (op_keeps hv.glob hv.eq hok (hkp s) ham hwm hf hb hr).2.2 x d rfl hd ht) hdx, h1, ?_, ?_⟩
          · cases nk <;> first | (exfalso; simp [nxt2] at k4; done) | skip
            exact ⟨⟨k2.sys.1.trans htz, hdx hdi⟩, _, _, βk, k5.put (d := o.dst) k4.1 fun d hd ht => k4.2 (okDst_tup hdst d hd ht), k3⟩
          · intro a' w' β ha hw Q hQ
            obtain ⟨q0, β1, n', w1', q1, q2, q3, q4, q5⟩ := key a' w' β ha hw
            cases n' <;> first | (exfalso; simp [nxt2] at q4; done) | skip
            unfold wpOps
            simp only [ho, q0, if_true]
            refine .inl ?_
            unfold Oper.wp
            rw [q1]
            exact hQ _ _ β1 q2 q3 (q5.put (d := o.dst) q4.1 fun d hd ht => q4.2 (okDst_tup hdst d hd ht))
        | skip =>
          obtain ⟨K, rfl, h1⟩ := h.next rfl (step_skip' ho hwa hr)
          refine ⟨a.put o.dst undef, w1, K, by omega, hkeep undef (fun _ _ _ _ _ _ _ => trivial) (fun hd => hd.put_old k2.szA fun t _ _ hb => absurd rfl hb), h1, ?_, ?_⟩
          · exact ⟨⟨k2.sys.1.trans htz, hdi.put_old k2.szA fun t _ _ hb => absurd rfl hb⟩, _, _, βk, k5.put (d := o.dst) one_undef.val fun _ _ _ => one_undef, k3⟩
          · intro a' w' β ha hw Q hQ
            obtain ⟨q0, β1, n', w1', q1, q2, q3, q4, q5⟩ := key a' w' β ha hw
            cases n' <;> first | (exfalso; simp [nxt2] at q4; done) | skip
            unfold wpOps
            simp only [ho, q0, if_true]
            refine .inl ?_
            unfold Oper.wp
            rw [q1]
            exact hQ _ _ β1 q2 q3 (q5.put (d := o.dst) one_undef.val fun _ _ _ => one_undef)
        | enter g xs =>
          obtain ⟨as, ts, hop, hxs0, hw1⟩ := exec_enter ham hok hr
          have hF : V.F g = true ∧ ∀ d, o.dst = some d → V.TT b.fn d = false → ∀ fn, V.P.funcs[g]? = some fn → fn.results.size ≤ 1 := by
            unfold okDst at hdst
            rw [hop] at hdst
            simp only [Bool.and_eq_true] at hdst
            refine ⟨hdst.1.1, fun d hd ht fn hfn => ?_⟩
            have h2 := hdst.2
            rw [hd] at h2
            simp only [hfn, ht, Bool.false_or, decide_eq_true_eq] at h2
            exact h2
          obtain ⟨K, rfl, h1⟩ := h.next rfl (step_enter ho hwa hr)
          have hgood : Good V.P (b.at a (.inRegion ops (i :: rest) :: k) :: cs) := by
            cases cs with
            | nil => exact absurd rfl hcs
            | cons c cs => exact ⟨⟨ham.still.1, rfl⟩, hg⟩
          have hmate : ∃ args' w' β, arr (one β) xs args' ∧ W β w1 w' := by
            cases nk <;> first | (exfalso; simp [nxt2] at k4; done) | skip
            exact ⟨_, wk, βk, k4.2, k3⟩
          have hsz1 : ∀ fn, V.P.funcs[g]? = some fn → xs.size ≤ fn.params.size := by
            intro fn hfn
            unfold okDst at hdst
            rw [hop] at hdst
            simp only [Bool.and_eq_true, hfn, decide_eq_true_eq] at hdst
            rw [hxs0]
            simpa using hdst.1.2
          have hcol0 : ∀ d, o.dst = some d → V.BX b.fn d = 0 := by
            intro d hd
            have := okKeeps_col hkp0
            simpa [okCol, hop, hd] using this
          obtain ⟨x, w2, K2, hK2, hk2, hg2, h2, hcall⟩ := call_at hv ih hF.1 hmate (k2.sys.1.trans htz) hsz1 hgood hcs (by omega) h1
          have hkeep2 : Keeps V b.fn a w (a.put o.dst x) w2 := by
            subst hw1
            refine ⟨⟨hk2.1.1, fun s base hb hf => ⟨Fresh.put hf fun d hd ht => ?_, hk2.1.2 base hb fun i hi => ?_⟩⟩, hk2.2, fun hd => hd.put_old hk2.1.1 fun t ht hct _ => absurd (hcol0 t ht) hct⟩
            · have hkk := hkp s
              simp only [okKeep, hop, hd, ht, yieldsFT, callFT, Bool.and_eq_true, Bool.not_true, Bool.false_or, List.all_eq_true, List.mem_range] at hkk
              obtain ⟨hq1, hq2⟩ := hkk.1
              cases hfn : V.P.funcs[g]? with
              | none => rw [hfn] at hq1; exact absurd hq1 (by simp)
              | some fn =>
                rw [hfn] at hq1
                dsimp only at hq1
                split at hq1
                · rename_i r hr'
                  refine hg2 base hb (fun i hi => ?_) fn r hfn hr' hq1
                  rw [hxs0, Array.getD_eq_getD_getElem?, Array.getElem?_map]
                  cases hx : as[i]? with
                  | none => exact trivial
                  | some y =>
                    have h9 := hq2 i (Array.getElem?_eq_some_iff.1 hx).1
                    rw [hx] at h9
                    simp only [hi, Bool.not_true, Bool.false_or] at h9
                    exact isFT_spec hf h9
                · exact absurd hq1 (by simp)
            · rw [hxs0, Array.getD_eq_getD_getElem?, Array.getElem?_map]
              have hkk := hkp s
              simp only [okKeep, hop, Bool.and_eq_true, List.all_eq_true, List.mem_range] at hkk
              cases hx : as[i]? with
              | none => exact trivial
              | some y =>
                have h9 := hkk.2 i (Array.getElem?_eq_some_iff.1 hx).1
                rw [hx] at h9
                simp only [hi, Bool.not_true, Bool.false_or] at h9
                exact isFT_spec hf h9
          have hfin : (b.at a (.inRegion ops (i :: rest) :: k)).finish x = b.at (a.put o.dst x) (.inRegion ops rest :: k) := by rw [Frame.finish_at, ho]; rfl
          rw [hfin] at h2
          have hput : ∀ a' β2, AR (V.TT b.fn) β2 a a' → ∀ x', val β2 x x' → ((∀ fn, V.P.funcs[g]? = some fn → fn.results.size ≤ 1) → one β2 x x') → AR (V.TT b.fn) β2 (a.put o.dst x) (a'.put o.dst x') :=
            fun a' β2 har x' hx h1 => har.put (d := o.dst) hx fun d hd ht => h1 (hF.2 d hd ht)
          refine ⟨a.put o.dst x, w2, K2, by omega, hkeep2, h2, ?_, ?_⟩
          · cases nk <;> first | (exfalso; simp [nxt2] at k4; done) | skip
            obtain ⟨eg, hxs⟩ := k4
            obtain ⟨e, w3, x', β2, _, e1, e2, e3, e4⟩ := calls_ex (hcall _ wk βk hxs k3)
            exact ⟨⟨hkeep2.2.1.trans htz, hkeep2.2.2 hdi⟩, _, w3, β2, hput _ β2 (k5.mono e1.le) x' e3 e4, e2⟩
          · intro a' w' β ha hw Q hQ
            obtain ⟨q0, β1, n', w1', q1, q2, q3, q4, q5⟩ := key a' w' β ha hw
            cases n' <;> first | (exfalso; simp [nxt2] at q4; done) | skip
            obtain ⟨eg, hxs⟩ := q4
            subst eg
            unfold wpOps
            simp only [ho, q0, if_true]
            refine .inl ?_
            unfold Oper.wp
            rw [q1]
            refine (hcall _ w1' β1 hxs q3).mono ?_
            rintro e w3 ⟨x', β2, rfl, e1, e2, e3, e4⟩
            exact hQ _ w3 β2 (q2.trans e1) e2 (hput _ β2 (q5.mono e1.le) x' e3 e4)
        | _ => cases nk <;> (exfalso; simp [nxt2] at k4; done)
    · have hs := step_op_skip (P := V.P) (b := b) (a := a) (k := k) (cs := cs) (w := w) (ops := ops) (i := i) (rest := rest) (by simp [ho]; simpa using hwa)
      simp only [ho, Option.bind_some] at hs
      obtain ⟨K, rfl, h1⟩ := h.next rfl hs
      refine ⟨a.put o.dst undef, w, K, by omega, ⟨⟨Nat.le_refl _, fun s base hb hf => ⟨Fresh.put hf fun _ _ _ => trivial, fun _ _ => rfl⟩⟩, rfl, fun hd => hd.put_old (Nat.le_refl _) fun t _ _ hb => absurd rfl hb⟩, h1, ⟨⟨htz, hdi.put_old (Nat.le_refl _) fun t _ _ hb => absurd rfl hb⟩, _, wm, βm, ham.put (d := o.dst) one_undef.val fun _ _ _ => one_undef, hwm⟩, ?_⟩
      intro a' w' β ha hw Q hQ
      have hwb : ¬ Region.wanted o (yielded ops a'.tmps) = true := by rw [wanted_alike ha]; exact hwa
      unfold wpOps
      simp only [ho, hwb, if_false]
      exact hQ _ w' β Ext.refl hw (ha.put (d := o.dst) one_undef.val fun _ _ _ => one_undef)

theorem ops_at (hv : Given V dr) (ih : ∀ M, M < N → At V dr v w0 M) {ops : Array Oper} {b : Frame} {k : List Item} {cs : List Frame} (hg : Good V.P cs) (hcs : cs ≠ [])
    (hops : ∀ (i : Nat) o, ops[i]? = some o → okOp2 V.P (V.TT b.fn) V.E o = true ∧ okDst V b.fn o = true ∧ okKeeps V b.fn o = true) :
    ∀ (l : List Nat) {a : Act} {w : World} {M : Nat}, Mate V b.fn a w → M ≤ N → Ends V.P v w0 M (lone (b.at a (.inRegion ops l :: k)) cs w) →
      ∃ a1 w1 K, K < M ∧ Keeps V b.fn a w a1 w1 ∧ Ends V.P v w0 K (lone (b.at a1 k) cs w1) ∧ Mate V b.fn a1 w1 ∧
        ∀ a' w' β, AR (V.TT b.fn) β a a' → W β w w' → wpOps V.P ops (fun e a1' w1' => e = .normal ∧ Alike2 (V.TT b.fn) β w w' a1 w1 a1' w1') l a' w'
  | [], a, w, M, hm, hM, h => by
    obtain ⟨K, rfl, h1⟩ := h.next rfl step_region_end
    exact ⟨a, w, K, by omega, Keeps.refl, h1, hm, fun a' w' β ha hw => ⟨rfl, β, Ext.refl, hw, ha⟩⟩
  | i :: rest, a, w, M, hm, hM, h => by
    obtain ⟨a1, w1, K, hK, hk1, h1, hm1, hw1⟩ := op_at hv ih hg hcs hops i rest hm hM h
    obtain ⟨a2, w2, K2, hK2, hk2, h2, hm2, hw2⟩ := ops_at hv ih hg hcs hops rest hm1 (by omega) h1
    refine ⟨a2, w2, K2, by omega, hk1.trans hk2, h2, hm2, fun a' w' β ha hw => ?_⟩
    refine hw1 a' w' β ha hw _ fun a1' w1' β' e1 e2 e3 => ?_
    refine wpOps_mono ?_ ?_ rest _ _ (hw2 a1' w1' β' e3 e2)
    · rintro e a3 w3 ⟨rfl, hh⟩
      exact ⟨rfl, Alike2.trans e1 hh⟩
    · rintro ⟨_, _, hh, _⟩
      exact absurd hh (by simp)
end
end Go.Tw
