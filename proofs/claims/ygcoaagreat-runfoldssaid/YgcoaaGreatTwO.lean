/-
  Two runs of one text: the text round the operations.
-/
import Derived.Test.YgcoaaGreatTwN
set_option linter.unusedVariables false
set_option linter.unusedSimpArgs false
namespace Go.Tw

section
variable {V : Env} {dr : FuncId → Array Oper → Bool} {v : Value} {w0 : World} {N : Nat}

/-- What is asked of a region that draws its order. -/
def DrawnAt (V : Env) (dr : FuncId → Array Oper → Bool) (v : Value) (w0 : World) (N : Nat) : Prop :=
  ∀ (id : Nat) (ops : Array Oper) (a : Act) (w : World) (b : Frame) (k : List Item) (cs : List Frame), okCode V b.fn dr (.region id ops true) = true → Good V.P cs → cs ≠ [] → Mate V b.fn a w →
    Ends V.P v w0 N (lone (b.at a (.code (.region id ops true) :: k)) cs w) →
    ∃ a1 w1 M, M < N ∧ Keeps V b.fn a w a1 w1 ∧ Ends V.P v w0 M (lone (b.at a1 k) cs w1) ∧
      ∀ a' w' β, AR (V.TT b.fn) β a a' → W β w w' → (Code.region id ops true).wp V.P (fun e' a1' w1' => e' = .normal ∧ Alike2 (V.TT b.fn) β w w' a1 w1 a1' w1') a' w'

theorem Mate.of_wp {c : Code} {a : Act} {w : World} {f : FuncId} (hm : Mate V f a w) {e : Exit} {a1 : Act} {w1 : World} (hk : Keeps V f a w a1 w1)
    (h : ∀ a' w' β, AR (V.TT f) β a a' → W β w w' → c.wp V.P (fun e' a1' w1' => e' = e ∧ Alike2 (V.TT f) β w w' a1 w1 a1' w1') a' w') : Mate V f a1 w1 := by
  obtain ⟨⟨htz, hdi⟩, a', w', β, ha, hw⟩ := hm
  obtain ⟨e', a1', w1', ⟨_, β', _, h2, h3⟩, _⟩ := h a' w' β ha hw default [] []
  exact ⟨⟨hk.2.1.trans htz, hk.2.2 hdi⟩, a1', w1', β', h3, h2⟩

theorem cond_alike {TT : Nat → Bool} {β : Rel} {a a' : Act} (ha : AR TT β a a') {c : Operand} (hc : okArg TT c = true) {t : Bool} (h : a.eval c = .bool t) : a'.eval c = .bool t := by
  have := ha.arg hc
  rcases one_kinds this with ⟨b, e, e'⟩ | ⟨k, n, e, e'⟩ | ⟨s, e, e'⟩ | ⟨c, c', e, e', hc⟩ | ⟨c, c', n, d, e, e', hc⟩ | ⟨f, e, e'⟩ | ⟨e, e'⟩ | ⟨c, c', e, e', hc⟩ <;> rw [h] at e <;> cases e
  exact e'

theorem at_all (hv : Given V dr) (hd : ∀ N, (∀ M, M < N → At V dr v w0 M) → DrawnAt V dr v w0 N) : ∀ N, At V dr v w0 N := by
  intro N
  induction N using Nat.strongRecOn with
  | _ N ih =>
  intro c a w b k cs hok hg hcs hm h
  cases c with
  | skip =>
    obtain ⟨K, rfl, h1⟩ := h.next rfl step_skip
    exact ⟨.normal, a, w, K, by omega, Keeps.refl, h1, fun a' w' β ha hw => wp_skip ⟨rfl, β, Ext.refl, hw, ha⟩⟩
  | label l =>
    obtain ⟨K, rfl, h1⟩ := h.next rfl step_label
    exact ⟨.normal, a, w, K, by omega, Keeps.refl, h1, fun a' w' β ha hw => wp_label ⟨rfl, β, Ext.refl, hw, ha⟩⟩
  | ret =>
    obtain ⟨K, rfl, h1⟩ := h.next rfl step_ret
    exact ⟨.ret, a, w, K, by omega, Keeps.refl, ⟨_, h1⟩, fun a' w' β ha hw => wp_ret ⟨rfl, β, Ext.refl, hw, ha⟩⟩
  | exit id =>
    cases he : exitTo id k with
    | some k' =>
      obtain ⟨K, rfl, h1⟩ := h.next rfl (step_exit he)
      exact ⟨.exit id, a, w, K, by omega, Keeps.refl, ⟨k', he, h1⟩, fun a' w' β ha hw => wp_exit ⟨rfl, β, Ext.refl, hw, ha⟩⟩
    | none =>
      obtain ⟨K, rfl⟩ := h.pos rfl
      exact (h.ended (step_lone_ended (by simp [stepG, stepG.exec, Frame.at, he]; exact ⟨rfl, rfl⟩))).elim
  | seq x y =>
    simp only [okCode, Bool.and_eq_true] at hok
    obtain ⟨K, rfl, h1⟩ := h.next rfl step_seq
    obtain ⟨e, a1, w1, M, hM, hkp, hc, hwp⟩ := ih K (by omega) x a w b (.code y :: k) cs hok.1 hg hcs hm h1
    have pass : ∀ e, e ≠ .normal → Cont V.P v w0 M b (.code y :: k) cs e a1 w1 → Cont V.P v w0 M b k cs e a1 w1 := by
      intro e hne hc
      cases e with
      | normal => exact absurd rfl hne
      | exit id => exact hc
      | ret => exact hc
      | goto l => exact hc.elim
      | panic ch => exact hc.elim
      | outgrown => exact hc.elim
    by_cases hn : e = .normal
    · subst hn
      have hm1 := hm.of_wp hkp hwp
      obtain ⟨e2, a2, w2, M2, hM2, hkp2, hc2, hwp2⟩ := ih M (by omega) y a1 w1 b k cs hok.2 hg hcs hm1 hc
      refine ⟨e2, a2, w2, M2, by omega, hkp.trans hkp2, hc2, fun a' w' β ha hw => wp_seq (wp_mono (hwp a' w' β ha hw) ?_)⟩
      rintro e' a1' w1' ⟨rfl, β', q1, q2, q3⟩
      refine wp_mono (hwp2 a1' w1' β' q3 q2) ?_
      rintro e3 a3 w3 ⟨rfl, hh⟩
      exact ⟨rfl, Alike2.trans q1 hh⟩
    · refine ⟨e, a1, w1, M, by omega, hkp, pass e hn hc, fun a' w' β ha hw => wp_seq (wp_mono (hwp a' w' β ha hw) ?_)⟩
      rintro e' a1' w1' ⟨rfl, hh⟩
      cases e' <;> first | exact absurd rfl hn | exact ⟨rfl, hh⟩
  | cond cc x y =>
    simp only [okCode, Bool.and_eq_true] at hok
    obtain ⟨⟨h1, h2⟩, h3⟩ := hok
    by_cases ht : ∃ t, a.eval cc = .bool t
    · obtain ⟨t, ht⟩ := ht
      obtain ⟨K, rfl, hK⟩ := h.next rfl (step_cond ht)
      obtain ⟨e, a1, w1, M, hM, hkp, hc, hwp⟩ := ih K (by omega) (if t then x else y) a w b k cs (by cases t <;> assumption) hg hcs hm hK
      exact ⟨e, a1, w1, M, by omega, hkp, hc, fun a' w' β ha hw => wp_cond (cond_alike ha h1 ht) (hwp a' w' β ha hw)⟩
    · obtain ⟨K, rfl⟩ := h.pos rfl
      have he := Frame.eval_at b a (.code (.cond cc x y) :: k) cc
      simp only [Frame.at] at he
      have hs : ∃ o, (stepG V.P true { frame := b.at a (.code (.cond cc x y) :: k), callers := cs, status := .running, dying := none } w).bare = .ended o w := by
        simp only [stepG, stepG.exec, Frame.at, he]
        split
        · rename_i t hh
          exact absurd ⟨t, hh⟩ ht
        · exact ⟨_, rfl⟩
      obtain ⟨o, hs⟩ := hs
      exact (h.ended (w1 := w) (step_lone_ended hs)).elim
  | block id c =>
    obtain ⟨K, rfl, h1⟩ := h.next rfl step_block
    obtain ⟨e, a1, w1, M, hM, hkp, hc, hwp⟩ := ih K (by omega) c a w b (.inBlock id :: k) cs hok hg hcs hm h1
    cases e with
    | normal =>
      obtain ⟨M2, rfl, h2⟩ := Ends.next (fr := b.at a1 (.inBlock id :: k)) hc rfl step_inBlock
      refine ⟨.normal, a1, w1, M2, by omega, hkp, h2, fun a' w' β ha hw => wp_block (wp_mono (hwp a' w' β ha hw) ?_)⟩
      rintro e' a1' w1' ⟨rfl, hh⟩
      exact ⟨rfl, hh⟩
    | exit id' =>
      obtain ⟨k', he, h2⟩ := hc
      by_cases hid : id' = id
      · subst hid
        have : k' = k := by simpa [exitTo] using he.symm
        subst this
        refine ⟨.normal, a1, w1, M, by omega, hkp, h2, fun a' w' β ha hw => wp_block (wp_mono (hwp a' w' β ha hw) ?_)⟩
        rintro e' a1' w1' ⟨rfl, hh⟩
        simp only [Exit.inBlock, if_true]
        exact ⟨trivial, hh⟩
      · have hb : (id == id') = false := by simp; exact fun h => hid h.symm
        simp only [exitTo, hb, Bool.false_eq_true, if_false] at he
        refine ⟨.exit id', a1, w1, M, by omega, hkp, ⟨k', he, h2⟩, fun a' w' β ha hw => wp_block (wp_mono (hwp a' w' β ha hw) ?_)⟩
        rintro e' a1' w1' ⟨rfl, hh⟩
        simp only [Exit.inBlock, hid, if_false]
        exact ⟨trivial, hh⟩
    | ret =>
      refine ⟨.ret, a1, w1, M, by omega, hkp, hc, fun a' w' β ha hw => wp_block (wp_mono (hwp a' w' β ha hw) ?_)⟩
      rintro e' a1' w1' ⟨rfl, hh⟩
      exact ⟨rfl, hh⟩
    | goto l => exact hc.elim
    | panic ch => exact hc.elim
    | outgrown => exact hc.elim
  | loop c =>
    obtain ⟨K, rfl, h1⟩ := h.next rfl step_loop
    obtain ⟨e, a1, w1, M, hM, hkp, hc, hwp⟩ := ih K (by omega) c a w b (.inLoop c :: k) cs hok hg hcs hm h1
    by_cases hn : e = .normal
    · subst hn
      have hm1 := hm.of_wp hkp hwp
      obtain ⟨M2, rfl, h2⟩ := Ends.next (fr := b.at a1 (.inLoop c :: k)) hc rfl step_inLoop
      have h3 : Ends V.P v w0 (M2 + 1) (lone (b.at a1 (.code (.loop c) :: k)) cs w1) := h2.back step_loop
      obtain ⟨e2, a2, w2, M3, hM3, hkp2, hc2, hwp2⟩ := ih (M2 + 1) (by omega) (.loop c) a1 w1 b k cs hok hg hcs hm1 h3
      have hgo : (∀ l, e2 ≠ .goto l) ∧ e2 ≠ .outgrown := by
        cases e2 <;> first | exact hc2.elim | exact ⟨by simp, by simp⟩
      refine ⟨e2, a2, w2, M3, by omega, hkp.trans hkp2, hc2, fun a' w' β ha hw => wp_unroll ?_ (wp_mono (hwp a' w' β ha hw) ?_)⟩
      · rintro e3 a3 w3 ⟨rfl, _⟩
        exact hgo
      · rintro e' a1' w1' ⟨rfl, β', q1, q2, q3⟩
        refine wp_mono (hwp2 a1' w1' β' q3 q2) ?_
        rintro e3 a3 w3 ⟨rfl, hh⟩
        exact ⟨rfl, Alike2.trans q1 hh⟩
    · have hc' : Cont V.P v w0 M b k cs e a1 w1 := by
        cases e with
        | normal => exact absurd rfl hn
        | exit id => exact hc
        | ret => exact hc
        | goto l => exact hc.elim
        | panic ch => exact hc.elim
        | outgrown => exact hc.elim
      have hgo : (∀ l, e ≠ .goto l) ∧ e ≠ .outgrown := by
        cases e <;> first | exact hc'.elim | exact ⟨by simp, by simp⟩
      refine ⟨e, a1, w1, M, by omega, hkp, hc', fun a' w' β ha hw => wp_unroll ?_ (wp_mono (hwp a' w' β ha hw) ?_)⟩
      · rintro e3 a3 w3 ⟨rfl, _⟩
        exact hgo
      · rintro e' a1' w1' ⟨rfl, hh⟩
        cases e' <;> first | exact absurd rfl hn | exact ⟨rfl, hh⟩
  | region id ops d =>
    cases d with
    | true =>
      obtain ⟨a1, w1, M, hM, hkp, h1, hwp⟩ := hd N ih id ops a w b k cs hok hg hcs hm h
      exact ⟨.normal, a1, w1, M, hM, hkp, h1, hwp⟩
    | false =>
      simp only [okCode, Bool.and_eq_true, Array.all_eq_true_iff_forall_mem] at hok
      obtain ⟨K, rfl, h1⟩ := h.next rfl step_region
      obtain ⟨a1, w1, M, hM, hkp, h2, hm2, hwp⟩ := ops_at hv ih hg hcs (fun i o ho => (fun q => ⟨q.1.1, q.1.2, q.2⟩) (hok.1 o (Array.mem_of_getElem? ho))) (List.range ops.size) hm (by omega) h1
      exact ⟨.normal, a1, w1, M, by omega, hkp, h2, fun a' w' β ha hw => wp_region (hwp a' w' β ha hw)⟩
  | _ => exact absurd hok (by simp [okCode])
end
end Go.Tw
