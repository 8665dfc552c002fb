/-
  One run of one text: the text comes to its end.
-/
import Derived.Test.YgcoaaGreatSfL
set_option linter.unusedVariables false
set_option linter.unusedSimpArgs false
namespace Go.Sf

/-- Where a text's run may come to. -/
def Post (P : Program) (rs : List ResultVar) (R : D) (n : Nat) (Γ : Gam) (ρ : Nat → Value) (w : World) (o : Out) : Exit → Act → World → Prop := fun e a' w' =>
  ∃ Γ', Ex Γ w Γ' w' ∧ match e with
    | .normal => ∃ ρ' S', S' ∈ o.nor ∧ (∀ s, s < n → ρ' s = ρ s) ∧ n ≤ S'.sy.length ∧ AOk Γ' ρ' S' a'
    | .exit id => ∃ ρ' S', (id, S') ∈ o.ex ∧ (∀ s, s < n → ρ' s = ρ s) ∧ n ≤ S'.sy.length ∧ AOk Γ' ρ' S' a'
    | .ret => ∃ ρ' S', AOk Γ' ρ' S' a' ∧ retB P rs R S' = true
    | _ => False

section
variable {P : Program} {rs : List ResultVar} {R : D}

theorem Post.lift {n n1 : Nat} {Γ Γ1 : Gam} {ρ ρ1 : Nat → Value} {w w1 : World} {o o1 : Out} {e : Exit} {a : Act} {w' : World} (h : Post P rs R n1 Γ1 ρ1 w1 o1 e a w') (hx : Ex Γ w Γ1 w1)
    (hag : ∀ s, s < n → ρ1 s = ρ s) (hn : n ≤ n1) (hnor : e = .normal → ∀ S, S ∈ o1.nor → S ∈ o.nor) (hex : ∀ x, x ∈ o1.ex → x ∈ o.ex) : Post P rs R n Γ ρ w o e a w' := by
  obtain ⟨Γ', hx', h⟩ := h
  refine ⟨Γ', hx.trans hx', ?_⟩
  cases e with
  | normal =>
    obtain ⟨ρ', S', h1, h2, h3, h4⟩ := h
    exact ⟨ρ', S', hnor rfl S' h1, fun s hs => by rw [h2 s (by omega), hag s hs], by omega, h4⟩
  | exit id =>
    obtain ⟨ρ', S', h1, h2, h3, h4⟩ := h
    exact ⟨ρ', S', hex _ h1, fun s hs => by rw [h2 s (by omega), hag s hs], by omega, h4⟩
  | ret => exact h
  | goto l => exact h.elim
  | panic c => exact h.elim
  | outgrown => exact h.elim
end

theorem loopOut_some {m n : Nat} {H : St} {o o' : Out} (h : loopOut m n H o = some o') : o' = ⟨[], o.ex⟩ ∧ (∀ S, S ∈ o.nor → wk n S H = true) ∧ ∃ r up, ∀ S, S ∈ o.nor → rankB up n r H S = true := by
  unfold loopOut at h
  split at h
  · rename_i hh
    simp only [Bool.and_eq_true, List.all_eq_true, List.any_eq_true, Bool.or_eq_true] at hh
    cases h
    obtain ⟨h1, r, _, h2⟩ := hh
    refine ⟨rfl, h1, r, ?_⟩
    rcases h2 with h2 | h2
    · exact ⟨true, h2⟩
    · exact ⟨false, h2⟩
  · cases h

/-- The counter of a loop. -/
def meas (up : Bool) (lo hi : Int) (r : Nat) (a : Act) : Nat := match a.tmps[r]? with
  | some (.int _ v) => if up then (hi - v).toNat else (v - lo).toNat
  | _ => 0

theorem rank_dec {n r : Nat} {up : Bool} {H S : St} {Γ Γ' : Gam} {ρ ρ' : Nat → Value} {a a' : Act} (hr : rankB up n r H S = true) (hw : wk n S H = true) (h : AOk Γ ρ H a) (h' : AOk Γ' ρ' S a')
    (hag : ∀ s, s < H.sy.length → ρ' s = ρ s) {k : IntKind} {lo hi : Int} {f : Df} (hd : H.sy[n + r]? = some (.int k lo hi, f)) : meas up lo hi r a' < meas up lo hi r a := by
  simp only [rankB, Bool.and_eq_true, beq_iff_eq] at hr
  obtain ⟨⟨h1, _⟩, h3⟩ := hr
  obtain ⟨g1, g2⟩ := h.slot r (n + r) h1
  obtain ⟨v, e, l1, l2⟩ := (h.sym _ _ _ hd).1
  split at h3
  · rename_i s hs
    split at h3
    · rename_i d b c hsy
      simp only [Bool.and_eq_true, beq_iff_eq] at h3
      obtain ⟨rfl, hc⟩ := h3
      obtain ⟨k', v', e1, e2⟩ := (h'.sym _ _ _ hsy).2.1
      rw [hag _ g1, e] at e1
      injection e1 with e3 e4
      subst e4
      have g3 := (h'.slot r s (of_join hs)).2
      obtain ⟨ρ2, _, h2, _, e5⟩ := wk_ok hw h'
      obtain ⟨v2, e6, q1, q2⟩ := (h2.sym _ _ _ hd).1
      have e7 : ρ2 (n + r) = ρ' s := by
        rw [e5]
        have : tau n S (n + r) = s := by
          have hlt : ¬ n + r < n := by omega
          simp [tau, hs, hlt]
        simp only [this]
      rw [e7, e2] at e6
      injection e6 with e8 e9
      rw [e2] at g3
      rw [e] at g2
      simp only [meas, g2, g3]
      cases up
      · simp only [Bool.false_eq_true, if_false, decide_eq_true_eq] at hc ⊢
        omega
      · simp only [if_true, decide_eq_true_eq] at hc ⊢
        omega
    · cases h3
  · cases h3

theorem chk_loop {V : Env} {F : FuncId → Bool} {rs : List ResultVar} {R : D} {c : Code} {S H : St} {o o' : Out} {Γ : Gam} {ρ : Nat → Value} {a : Act} {w : World} {m : Nat}
    (ih : ∀ {S : St} {Γ : Gam} {ρ : Nat → Value} {a : Act} {w : World} {o : Out}, chk V F rs R c S = some o → AOk Γ ρ S a → Wt Γ w → c.wp V.P (Post V.P rs R S.sy.length Γ ρ w o) a w)
    (hwk : wk S.sy.length S H = true) (hc : chk V F rs R c H = some o) (hl : loopOut m S.sy.length H o = some o') (h : AOk Γ ρ S a) (hw : Wt Γ w) : (Code.loop c).wp V.P (Post V.P rs R S.sy.length Γ ρ w o') a w := by
  obtain ⟨rfl, h1, r, up, h2⟩ := loopOut_some hl
  obtain ⟨ρ0, hag0, h0, hn0, _⟩ := wk_ok hwk h
  have hd : (∃ S', S' ∈ o.nor) → ∃ k lo hi f, H.sy[S.sy.length + r]? = some (.int k lo hi, f) := by
    rintro ⟨S', hS'⟩
    have := h2 S' hS'
    simp only [rankB, Bool.and_eq_true] at this
    have h3 := this.1.2
    split at h3
    · exact ⟨_, _, _, _, by assumption⟩
    · cases h3
  obtain ⟨lo, hi, hrank⟩ : ∃ lo hi : Int, (∃ S', S' ∈ o.nor) → ∃ k f, H.sy[S.sy.length + r]? = some (.int k lo hi, f) := by
    by_cases hne : ∃ S', S' ∈ o.nor
    · obtain ⟨k, lo, hi, f, e⟩ := hd hne
      exact ⟨lo, hi, fun _ => ⟨k, f, e⟩⟩
    · exact ⟨0, 0, fun hh => absurd hh hne⟩
  refine wp_loop (fun a1 w1 => ∃ Γ1 ρ1, Ex Γ w Γ1 w1 ∧ (∀ s, s < S.sy.length → ρ1 s = ρ s) ∧ AOk Γ1 ρ1 H a1) (fun a1 _ => meas up lo hi r a1) ⟨Γ, ρ0, Ex.refl hw, hag0, h0⟩ ?_
  rintro a1 w1 ⟨Γ1, ρ1, hx1, hag1, h3⟩
  refine wp_mono (ih hc h3 hx1.wt) ?_
  intro e a2 w2 hp
  have hp' := hp
  obtain ⟨Γ2, hx2, hp⟩ := hp
  cases e with
  | normal =>
    obtain ⟨ρ2, S2, m1, m2, m3, m4⟩ := hp
    obtain ⟨ρ3, q1, q2, q3, _⟩ := wk_ok (h1 S2 m1) m4
    obtain ⟨k, f, hk⟩ := hrank ⟨S2, m1⟩
    refine ⟨⟨Γ2, ρ3, hx1.trans hx2, fun s hs => ?_, q2⟩, rank_dec (h2 S2 m1) (h1 S2 m1) h3 m4 m2 hk⟩
    rw [q1 s hs, m2 s (by omega), hag1 s hs]
  | exit id => exact hp'.lift hx1 hag1 hn0 (fun e => by cases e) fun x hx => hx
  | ret => exact hp'.lift hx1 hag1 hn0 (fun e => by cases e) fun x hx => hx
  | goto l => exact hp.elim
  | panic c => exact hp.elim
  | outgrown => exact hp.elim

theorem chk_ok {V : Env} {F : FuncId → Bool} (hG : Given V F) {rs : List ResultVar} {R : D} (c : Code) : ∀ {S : St} {Γ : Gam} {ρ : Nat → Value} {a : Act} {w : World} {o : Out},
    chk V F rs R c S = some o → AOk Γ ρ S a → Wt Γ w → c.wp V.P (Post V.P rs R S.sy.length Γ ρ w o) a w := by
  induction c with
  | skip =>
    intro S Γ ρ a w o hc h hw
    simp only [chk, Option.some.injEq] at hc
    subst hc
    exact wp_skip ⟨Γ, Ex.refl hw, ρ, S, by simp, fun _ _ => rfl, Nat.le_refl _, h⟩
  | label l =>
    intro S Γ ρ a w o hc h hw
    simp only [chk, Option.some.injEq] at hc
    subst hc
    exact wp_label ⟨Γ, Ex.refl hw, ρ, S, by simp, fun _ _ => rfl, Nat.le_refl _, h⟩
  | ret =>
    intro S Γ ρ a w o hc h hw
    simp only [chk] at hc
    split at hc
    · rename_i hr
      exact wp_ret ⟨Γ, Ex.refl hw, ρ, S, h, hr⟩
    · cases hc
  | exit id =>
    intro S Γ ρ a w o hc h hw
    simp only [chk, Option.some.injEq] at hc
    subst hc
    exact wp_exit ⟨Γ, Ex.refl hw, ρ, S, by simp, fun _ _ => rfl, Nat.le_refl _, h⟩
  | seq x y ihx ihy =>
    intro S Γ ρ a w o hc h hw
    simp only [chk] at hc
    split at hc
    · rename_i o1 h1
      split at hc
      · rename_i o2 h2
        cases hc
        refine wp_seq (wp_mono (ihx h1 h hw) ?_)
        intro e a1 w1 hp
        have hp' := hp
        obtain ⟨Γ1, hx1, hp⟩ := hp
        cases e with
        | normal =>
          obtain ⟨ρ1, S1, m1, m2, m3, m4⟩ := hp
          obtain ⟨o', g1, g2, g3⟩ := mapO_mem h2 S1 m1
          refine wp_mono (ihy g1 m4 hx1.wt) ?_
          intro e a2 w2 hp2
          exact hp2.lift hx1 m2 m3 (fun _ => g2) fun x hx => List.mem_append_right _ (g3 x hx)
        | exit id => exact hp'.lift (Ex.refl hw) (fun _ _ => rfl) (Nat.le_refl _) (fun e => by cases e) fun x hx => List.mem_append_left _ hx
        | ret => exact ⟨Γ1, hx1, hp⟩
        | goto l => exact hp.elim
        | panic c => exact hp.elim
        | outgrown => exact hp.elim
      · cases hc
    · cases hc
  | cond c x y ihx ihy =>
    intro S Γ ρ a w o hc h hw
    by_cases hcb : ∃ b, c = .const (.bool b)
    · obtain ⟨b, rfl⟩ := hcb
      refine wp_cond (t := b) rfl ?_
      cases b
      · exact ihy hc h hw
      · exact ihx hc h hw
    have hc : (match symOf S c with
      | some s => match assm S s true, assm S s false with
        | some r1, some r2 => match optO (chk V F rs R x) r1, optO (chk V F rs R y) r2 with
          | some o1, some o2 => match joins S.sy.length (o1.nor ++ o2.nor) with
            | some l => some ⟨l, o1.ex ++ o2.ex⟩
            | none => none
          | _, _ => none
        | _, _ => none
      | none => none) = some o := by
      rw [← hc]
      cases c with
      | const v => cases v <;> first | rfl | exact absurd ⟨_, rfl⟩ hcb
      | tmp t => rfl
      | global g => rfl
      | func f => rfl
    split at hc
    · rename_i s hs
      split at hc
      · rename_i r1 r2 ha1 ha2
        split at hc
        · rename_i o1 o2 ho1 ho2
          split at hc
          · rename_i l hl
            cases hc
            obtain ⟨s1, s2⟩ := h.symOf hs
            obtain ⟨b, hb⟩ := assm_bool h ha1
            rw [hb] at s2
            -- behind the test
            have fin : ∀ {S1 : St} {o' : Out} {e : Exit} {a2 : Act} {w2 : World}, S1.sy.length = S.sy.length → (∀ T, T ∈ o'.nor → T ∈ o1.nor ++ o2.nor) → (∀ T, T ∈ o'.ex → T ∈ o1.ex ++ o2.ex) →
                Post V.P rs R S1.sy.length Γ ρ w o' e a2 w2 → Post V.P rs R S.sy.length Γ ρ w ⟨l, o1.ex ++ o2.ex⟩ e a2 w2 := by
              intro S1 o' e a2 w2 hlen hn he hp
              rw [hlen] at hp
              have hp' := hp
              obtain ⟨Γ2, hx2, hp⟩ := hp
              cases e with
              | normal =>
                obtain ⟨ρ2, S2, m1, m2, m3, m4⟩ := hp
                obtain ⟨T, ρ3, t1, t2, t3, t4⟩ := joins_ok hl (hn S2 m1) m4 m3
                exact ⟨Γ2, hx2, ρ3, T, t1, fun s hs => by rw [t2 s hs, m2 s hs], t4, t3⟩
              | exit id => exact hp'.lift (Ex.refl hw) (fun _ _ => rfl) (Nat.le_refl _) (fun e => by cases e) fun x hx => he x hx
              | ret => exact hp'.lift (Ex.refl hw) (fun _ _ => rfl) (Nat.le_refl _) (fun e => by cases e) fun x hx => he x hx
              | goto l => exact hp.elim
              | panic c => exact hp.elim
              | outgrown => exact hp.elim
            refine wp_cond s2 ?_
            cases b with
            | true =>
              obtain ⟨S1, rfl, h1, hlen, _⟩ := assm_ok h ha1 hb
              refine wp_mono (ihx ho1 h1 hw) ?_
              intro e a2 w2 hp
              exact fin hlen (fun T hT => by simp [hT]) (fun T hT => by simp [hT]) hp
            | false =>
              obtain ⟨S1, rfl, h1, hlen, _⟩ := assm_ok h ha2 hb
              refine wp_mono (ihy ho2 h1 hw) ?_
              intro e a2 w2 hp
              exact fin hlen (fun T hT => by simp [hT]) (fun T hT => by simp [hT]) hp
          · cases hc
        · cases hc
      · cases hc
    · cases hc
  | block id c ih =>
    intro S Γ ρ a w o hc h hw
    simp only [chk] at hc
    split at hc
    · rename_i o1 h1
      split at hc
      · rename_i l hl
        cases hc
        refine wp_block (wp_mono (ih h1 h hw) ?_)
        intro e a2 w2 hp
        obtain ⟨Γ2, hx2, hp⟩ := hp
        have fin : ∀ {S2 : St} {ρ2 : Nat → Value}, S2 ∈ o1.nor ++ (o1.ex.filter (·.1 == id)).map (·.2) → (∀ s, s < S.sy.length → ρ2 s = ρ s) → S.sy.length ≤ S2.sy.length → AOk Γ2 ρ2 S2 a2 →
            Post V.P rs R S.sy.length Γ ρ w ⟨l, o1.ex.filter (·.1 != id)⟩ .normal a2 w2 := by
          intro S2 ρ2 m1 m2 m3 m4
          obtain ⟨T, ρ3, t1, t2, t3, t4⟩ := joins_ok hl m1 m4 m3
          exact ⟨Γ2, hx2, ρ3, T, t1, fun s hs => by rw [t2 s hs, m2 s hs], t4, t3⟩
        cases e with
        | normal =>
          obtain ⟨ρ2, S2, m1, m2, m3, m4⟩ := hp
          exact fin (by simp [m1]) m2 m3 m4
        | exit id' =>
          obtain ⟨ρ2, S2, m1, m2, m3, m4⟩ := hp
          show if id' = id then _ else _
          split
          · rename_i e
            subst e
            refine fin ?_ m2 m3 m4
            refine List.mem_append_right _ (List.mem_map.2 ⟨(id', S2), List.mem_filter.2 ⟨m1, by simp⟩, rfl⟩)
          · rename_i e
            exact ⟨Γ2, hx2, ρ2, S2, List.mem_filter.2 ⟨m1, by simpa using e⟩, m2, m3, m4⟩
        | ret => exact ⟨Γ2, hx2, hp⟩
        | goto l => exact hp.elim
        | panic c => exact hp.elim
        | outgrown => exact hp.elim
      · cases hc
    · cases hc
  | loop c ih =>
    intro S Γ ρ a w o hc h hw
    have try_ok : ∀ {H : St}, (if wk S.sy.length S H then (match chk V F rs R c H with | some o => loopOut S.sl.length S.sy.length H o | none => none) else none) = some o → (Code.loop c).wp V.P (Post V.P rs R S.sy.length Γ ρ w o) a w := by
      intro H hh
      split at hh
      · rename_i hwk
        split at hh
        · rename_i o1 h1
          exact chk_loop ih hwk h1 hh h hw
        · cases hh
      · cases hh
    simp only [chk] at hc
    split at hc
    · cases hc
    · split at hc
      · cases hc
      · split at hc
        · rename_i o' hb
          cases hc
          cases h3 : (Option.map (fun o => headOf S (dsts c) fun i => o.nor.foldl (fun d T => joinD d (slotD T i)) (slotD S i)) (chk V F rs R c _)) with
          | none => rw [h3] at hb; cases hb
          | some H3 => rw [h3] at hb; exact try_ok hb
        · exact try_ok hc
  | region id ops d =>
    intro S Γ ρ a w o hc h hw
    simp only [chk] at hc
    split at hc
    · rename_i hd
      split at hc
      · rename_i l hl
        cases hc
        refine wp_region_zero hw.tape (fun e => ?_) ?_
        · subst e
          simpa [schB] using hd
        · have hw' : Wt Γ (if d then { w with drawn := w.drawn + 1 } else w) := by
            cases d
            · exact hw
            · exact hw.heap rfl rfl
          refine rops_ok hG _ h hw' hl ?_
          intro Γ' ρ' a' w' S' hS hx hag hlen h3
          refine ⟨Γ', ?_, ρ', S', hS, hag, hlen, h3⟩
          cases d
          · exact hx
          · exact ⟨hx.le, hx.wt, hx.size, hx.new, hx.old⟩
      · cases hc
    · cases hc
  | rangeFunc f ps x y ihx ihy => intro S Γ ρ a w o hc; simp [chk] at hc
  | scope c ih => intro S Γ ρ a w o hc; simp [chk] at hc
  | goto l => intro S Γ ρ a w o hc; simp [chk] at hc
  | refuse why => intro S Γ ρ a w o hc; simp [chk] at hc
end Go.Sf
