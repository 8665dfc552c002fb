/-
  One run of one text: a function returns.
-/
import Derived.Test.YgcoaaGreatSfM
import Derived.Test.YgcoaaGreatTwK
set_option linter.unusedVariables false
set_option linter.unusedSimpArgs false
namespace Go.Sf

section
variable {P : Program} {Γ : Gam} {ρ : Nat → Value} {S : St} {a : Act}

theorem US.resList (h : AOk Γ ρ S a) : ∀ {rs : List ResultVar} {l : D} {Γ' : Gam}, Le Γ Γ' → aRess P S rs = some l →
    US P (fun Γ xs => xs.length = l.len ∧ ∀ j d, l.at j = some d → ∃ x, xs[j]? = some x ∧ one Γ d x) Γ' (rs.mapM fun r => match r with | .tmp t => pure (a.tmps.getD t undef) | .cell b t => do Go.loadVar t (← asAddr (a.tmps.getD b undef)))
  | [], l, Γ', hl, hr => by simp only [aRess, Option.some.injEq] at hr; subst hr; exact ⟨rfl, fun j d hd => by simp [D.at] at hd⟩
  | r :: rs, l, Γ', hl, hr => by
    simp only [aRess] at hr
    split at hr
    · rename_i d l' hd hl'
      cases hr
      rw [List.mapM_cons]
      refine US.bind' (S := fun Γ x => one Γ d x) ?_ fun Γ1 x hle hx => ?_
      · cases r with
        | tmp t => exact (h.opD1 (x := .tmp t) hd).mono hl
        | cell b t =>
          simp only [aRes] at hd
          split at hd
          · rename_i l hp
            obtain ⟨ad, e, hs, hpp⟩ := (h.opD (x := .tmp b) hp).mono hl
            have e : a.tmps.getD b undef = .pointer (some ad) := e
            dsimp only
            rw [e]
            exact US.loadVar hs hpp hd
          · cases hd
      · refine US.bind' (US.resList h (hl.trans hle) hl') fun Γ2 xs hle2 hxs => ?_
        refine ⟨by simp only [List.length_cons, D.len, hxs.1], fun j d' hd' => ?_⟩
        cases j with
        | zero => simp only [D.at, Option.some.injEq] at hd'; subst hd'; exact ⟨x, rfl, hx.mono hle2⟩
        | succ j =>
          obtain ⟨y, q1, q2⟩ := hxs.2 j d' hd'
          exact ⟨y, by simpa using q1, q2⟩
    · cases hr

theorem aRess_nil {rs : List ResultVar} {l : D} (h : aRess P S rs = some l) (h0 : l.len = 0) : l = .nil := by
  cases rs with
  | nil => simp only [aRess, Option.some.injEq] at h; exact h.symm
  | cons r rs =>
    simp only [aRess] at h
    split at h
    · cases h; simp [D.len] at h0
    · cases h

theorem aRess_one {rs : List ResultVar} {l : D} (h : aRess P S rs = some l) (h1 : l.len = 1) : ∃ d, l = .cons d .nil := by
  cases rs with
  | nil => simp only [aRess, Option.some.injEq] at h; subst h; simp [D.len] at h1
  | cons r rs =>
    simp only [aRess] at h
    split at h
    · rename_i d l' hd hl'
      cases h
      simp only [D.len] at h1
      exact ⟨d, by rw [aRess_nil hl' (by omega)]⟩
    · cases h

theorem ret_ok {fn : Func} {R : D} {w : World} (h : AOk Γ ρ S a) (hw : Wt Γ w) (hr : retB P fn.results.toList R S = true) : ∃ v Γ', (results fn a.tmps).run P w = .ok v w ∧ Ex Γ w Γ' w ∧ val Γ' R v := by
  unfold retB at hr
  have main : ∀ {l : D}, aRess P S fn.results.toList = some l → (∀ (Γ' : Gam) (xs : List Value), (xs.length = l.len ∧ ∀ j d, l.at j = some d → ∃ x, xs[j]? = some x ∧ one Γ' d x) → val Γ' R (if h : xs.toArray.size = 1 then xs.toArray[0] else .tuple xs.toArray)) →
      ∃ v Γ', (results fn a.tmps).run P w = .ok v w ∧ Ex Γ w Γ' w ∧ val Γ' R v := by
    intro l hl hR
    have hu : US P (fun Γ v => val Γ R v) Γ (results fn a.tmps) := by
      unfold results
      rw [Array.mapM_eq_mapM_toList]
      refine US.bind' (S := fun Γ (xs : Array Value) => ∃ ys : List Value, xs = ys.toArray ∧ ys.length = l.len ∧ ∀ j d, l.at j = some d → ∃ x, ys[j]? = some x ∧ one Γ d x) ?_ ?_
      · refine US.bind' (US.resList h (Le.refl _) hl) fun Γ1 xs hle hxs => ?_
        exact ⟨xs, rfl, hxs⟩
      · rintro Γ1 xs hle ⟨ys, rfl, hys⟩
        exact hR Γ1 ys hys
    obtain ⟨v, w', Γ', g1, g2, g3⟩ := hu.run hw
    have := Tw.results_still g1
    subst this
    exact ⟨v, Γ', g1, g2, g3⟩
  split at hr
  · rename_i d hd
    refine main hd fun Γ' xs hx => ?_
    obtain ⟨x, q1, q2⟩ := hx.2 0 d rfl
    have h1 : xs.toArray.size = 1 := by simp [hx.1, D.len]
    rw [dif_pos h1]
    have e : xs.toArray[0] = x := by
      have : xs[0]? = some x := q1
      simp only [List.getElem?_eq_some_iff] at this
      obtain ⟨_, e⟩ := this
      simpa using e
    rw [e]
    exact val_of_one (q2.le hr)
  · rename_i l hne hl
    refine main hl fun Γ' xs hx => ?_
    have h1 : ¬ xs.toArray.size = 1 := by
      intro e
      simp only [List.size_toArray] at e
      rw [hx.1] at e
      obtain ⟨d, rfl⟩ := aRess_one hl e
      exact hne d rfl
    rw [dif_neg h1]
    refine val.le hr ⟨xs.toArray, rfl, by simp [hx.1], fun j d hd => ?_⟩
    obtain ⟨x, q1, q2⟩ := hx.2 j d hd
    exact ⟨x, by simpa using q1, q2⟩
  · cases hr

/-- The slots at a function's beginning. -/
def entry (ps : D) (n : Nat) : St := ⟨(List.range n).map fun i => if i < ps.len then some i else none, (List.range ps.len).map (fun i => ((ps.at i).getD .any, Df.no)), [], []⟩

theorem entry_ok {ps : D} {n : Nat} {xs : Array Value} (h : Args Γ ps xs) : AOk Γ (fun s => xs.getD s undef) (entry ps n) { tmps := xs ++ Array.replicate (n - xs.size) undef, defers := [] } := by
  refine ⟨fun i s hs => ?_, fun s d f hs => ?_, rfl, ?_, (fun r s hs => by cases hs), (fun x y c hs => by cases hs)⟩
  · simp only [entry] at hs ⊢
    rw [List.getElem?_map] at hs
    cases hi : (List.range n)[i]? with
    | none => rw [hi] at hs; cases hs
    | some i' =>
      have hin := (List.getElem?_eq_some_iff.1 hi).1
      simp only [List.length_range] at hin
      have : i' = i := by
        have := (List.getElem?_eq_some_iff.1 hi).2
        simpa using this.symm
      subst this
      rw [hi] at hs
      simp only [Option.map_some, Option.some.injEq] at hs
      split at hs
      · rename_i hlt
        cases hs
        refine ⟨by simpa using hlt, ?_⟩
        rw [Array.getElem?_append_left (by rw [h.1]; exact hlt)]
        simp [Array.getD_eq_getD_getElem?, h.1, hlt]
      · cases hs
  · simp only [entry] at hs
    rw [List.getElem?_map] at hs
    cases hi : (List.range ps.len)[s]? with
    | none => rw [hi] at hs; cases hs
    | some i' =>
      have hin := (List.getElem?_eq_some_iff.1 hi).1
      simp only [List.length_range] at hin
      have : i' = s := by
        have := (List.getElem?_eq_some_iff.1 hi).2
        simpa using this.symm
      subst this
      rw [hi] at hs
      simp only [Option.map_some, Option.some.injEq, Prod.mk.injEq] at hs
      obtain ⟨rfl, rfl⟩ := hs
      obtain ⟨d, hd⟩ := D.at_lt hin
      obtain ⟨x, q1, q2⟩ := h.2 _ d hd
      refine ⟨?_, trivial, rfl⟩
      simp only [hd, Option.getD_some, Array.getD_eq_getD_getElem?, q1]
      exact val_of_one q2
  · simp only [entry, List.length_map, List.length_range, Array.size_append, Array.size_replicate]
    omega
end

/-- A function that returns: its text is checked. -/
def fnB (V : Env) (F : FuncId → Bool) (g : FuncId) (ps R : D) : Bool :=
  match V.P.funcs[g]? with
  | some fn => match fn.body with
    | some c => match chk V F fn.results.toList R c (entry ps fn.ntmps) with
      | some o => o.ex.isEmpty && o.nor.all (retB V.P fn.results.toList R)
      | none => false
    | none => false
  | none => false

theorem fn_ok {V : Env} {F : FuncId → Bool} (hG : Given V F) {g : FuncId} {ps R : D} (h : fnB V F g ps R = true) : Con V.P g ps R := by
  intro Γ w xs hw ha
  unfold fnB at h
  split at h
  · rename_i fn hf
    split at h
    · rename_i c hb
      split at h
      · rename_i o hc
        simp only [Bool.and_eq_true, List.all_eq_true, List.isEmpty_iff] at h
        refine calls_of_wp hf hb (wp_mono (chk_ok hG c hc (entry_ok ha) hw) ?_)
        intro e a w' hp
        obtain ⟨Γ1, hx, hp⟩ := hp
        have fin : ∀ {ρ' : Nat → Value} {S' : St}, AOk Γ1 ρ' S' a → retB V.P fn.results.toList R S' = true →
            a.defers = [] ∧ ∃ v, (results fn a.tmps).run V.P w' = .ok v w' ∧ ∃ v' Γ', Ending.returned v = .returned v' ∧ Ex Γ w Γ' w' ∧ val Γ' R v' := by
          intro ρ' S' h1 h2
          obtain ⟨v, Γ', g1, g2, g3⟩ := ret_ok h1 hx.wt h2
          exact ⟨h1.defers, v, g1, v, Γ', rfl, hx.trans g2, g3⟩
        cases e with
        | normal =>
          obtain ⟨ρ', S', m1, _, _, m4⟩ := hp
          exact fin m4 (h.2 S' m1)
        | exit id =>
          obtain ⟨ρ', S', m1, _⟩ := hp
          rw [h.1] at m1
          cases m1
        | ret =>
          obtain ⟨ρ', S', h1, h2⟩ := hp
          exact fin h1 h2
        | goto l => exact hp.elim
        | panic c => exact hp.elim
        | outgrown => exact hp.elim
      · cases h
    · cases h
  · cases h
end Go.Sf
