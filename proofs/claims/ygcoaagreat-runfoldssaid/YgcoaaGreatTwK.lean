/-
  Two runs of one text: calls, and regions in the order of the text.
-/
import Derived.Test.YgcoaaGreatTwJ
set_option linter.unusedVariables false
set_option linter.unusedSimpArgs false
namespace Go.Tw

section
variable {st : Bool} {P : Program} {β : Rel} {TT : Nat → Bool}

theorem AR.mono {β' : Rel} (hl : Le β β') {a a' : Act} (h : AR TT β a a') : AR TT β' a a' :=
  ⟨h.size, fun t ht => one.mono hl (h.tmp t ht), fun t => val.mono hl (h.tup t), h.still⟩

theorem getD_set {xs : Array Value} {d t : Nat} {v : Value} : (xs.setIfInBounds d v).getD t undef = if d = t ∧ d < xs.size then v else xs.getD t undef := by
  simp only [Array.getD_eq_getD_getElem?, Array.getElem?_setIfInBounds]
  by_cases h : d = t
  · subst h
    by_cases h2 : d < xs.size
    · simp [h2]
    · simp [h2]
  · simp [h]

theorem AR.put {a a' : Act} (h : AR TT β a a') {d : Option Tmp} {v v' : Value} (hv : val β v v') (h1 : ∀ t, d = some t → TT t = false → one β v v') : AR TT β (a.put d v) (a'.put d v') := by
  cases d with
  | none => exact h
  | some d =>
    refine ⟨by simp [Act.put, h.size], fun t ht => ?_, fun t => ?_, h.still⟩
    · show one β ((a.tmps.setIfInBounds d v).getD t undef) ((a'.tmps.setIfInBounds d v').getD t undef)
      rw [getD_set, getD_set, h.size]
      split
      · rename_i e
        exact h1 d rfl (by rw [e.1]; exact ht)
      · exact h.tmp t ht
    · show val β ((a.tmps.setIfInBounds d v).getD t undef) ((a'.tmps.setIfInBounds d v').getD t undef)
      rw [getD_set, getD_set, h.size]
      split
      · exact hv
      · exact h.tup t

theorem one_undef : one β undef undef := ⟨rfl, rfl⟩

theorem AR.enter {xs ys : Array Value} (h : arr (one β) xs ys) (n : Nat) : AR TT β { tmps := xs ++ Array.replicate (n - xs.size) undef, defers := [] } { tmps := ys ++ Array.replicate (n - ys.size) undef, defers := [] } := by
  have h1 : ∀ t, one β ((xs ++ Array.replicate (n - xs.size) undef).getD t undef) ((ys ++ Array.replicate (n - ys.size) undef).getD t undef) := by
    intro t
    simp only [Array.getD_eq_getD_getElem?, Array.getElem?_append, ← h.1]
    split
    · rename_i ht
      have hy : t < ys.size := by rw [← h.1]; exact ht
      rw [Array.getElem?_eq_getElem ht, Array.getElem?_eq_getElem hy]
      exact h.2 t _ _ (Array.getElem?_eq_getElem ht) (Array.getElem?_eq_getElem hy)
    · rw [Array.getElem?_replicate]
      split <;> exact one_undef
  exact ⟨by simp [h.1], fun t _ => h1 t, fun t => (h1 t).val, rfl, rfl⟩

/-- The result variables are read alike. -/
theorem SR.resList {a a' : Act} (h : AR TT β a a') : ∀ {β1 : Rel} (rs : List ResultVar), Le β β1 → (∀ r ∈ rs, okRes TT r = true) →
    SR st P (fun β xs ys => ones β xs ys ∧ xs.length = rs.length) β1
      (rs.mapM fun r => (match r with | .tmp t => pure (a.tmps.getD t undef) | .cell b t => do Go.loadVar t (← asAddr (a.tmps.getD b undef)) : Sem Value))
      (rs.mapM fun r => (match r with | .tmp t => pure (a'.tmps.getD t undef) | .cell b t => do Go.loadVar t (← asAddr (a'.tmps.getD b undef)) : Sem Value))
  | β1, [], _, _ => by rw [List.mapM_nil]; exact ⟨trivial, rfl⟩
  | β1, r :: rs, hl, hr => by
    rw [List.mapM_cons, List.mapM_cons]
    have hh := hr r (by simp)
    refine SR.bind' (S := one) ?_ ?_
    · cases r with
      | tmp t => exact one.mono hl (h.tmp t (by simpa [okRes] using hh))
      | cell b t =>
        have hb := one.mono hl (h.tmp b (by simpa [okRes] using hh))
        rcases one_kinds hb with ⟨b, e, e'⟩ | ⟨k, n, e, e'⟩ | ⟨s, e, e'⟩ | ⟨c, c', e, e', hc⟩ | ⟨c, c', n, d, e, e', hc⟩ | ⟨f, e, e'⟩ | ⟨e, e'⟩ | ⟨c, c', e, e', hc⟩ <;> simp only [e, e']
        all_goals first | exact SR.dead rfl rfl | skip
        cases c <;> cases c' <;> first | exact hc.elim | exact SR.loadVar (show adr _ _ _ from hc) | exact SR.panB (f := _) (g := _) .nilDeref .nilDeref rfl rfl
    · intro β2 x y hl2 hxy
      refine SR.bind' (SR.resList h rs (Le.trans hl hl2) fun r hr' => hr r (by simp [hr'])) ?_
      intro β3 xs ys hl3 hxs
      exact ⟨⟨one.mono hl3 hxy, hxs.1⟩, by simp [hxs.2]⟩

theorem arr_ones : ∀ {xs ys : List Value}, ones β xs ys → arr (one β) xs.toArray ys.toArray
  | [], [], _ => arr.nil
  | [], y :: ys, h => h.elim
  | x :: xs, [], h => h.elim
  | x :: xs, y :: ys, h => by
    have ih := arr_ones h.2
    refine ⟨by have := ih.1; simpa using this, fun i a b ha hb => ?_⟩
    cases i with
    | zero => simp at ha hb; subst ha hb; exact h.1
    | succ i => exact ih.2 i a b (by simpa using ha) (by simpa using hb)

theorem SR.results {fn : Func} {a a' : Act} (h : AR TT β a a') (hr : ∀ r ∈ fn.results.toList, okRes TT r = true) :
    SR st P (fun β v v' => val β v v' ∧ (fn.results.size ≤ 1 → one β v v')) β (Go.results fn a.tmps) (Go.results fn a'.tmps) := by
  unfold Go.results
  rw [Array.mapM_eq_mapM_toList, Array.mapM_eq_mapM_toList]
  refine SR.bind' (S := fun β (xs ys : Array Value) => arr (one β) xs ys ∧ xs.size = fn.results.size) ?_ ?_
  · refine SR.bind' (SR.resList h fn.results.toList (Le.refl β) hr) ?_
    intro β1 xs ys hl hxs
    exact ⟨arr_ones hxs.1, by simpa using hxs.2⟩
  · rintro β1 xs ys hl ⟨h1, h2⟩
    refine SR.ret ?_
    have hsz := h1.1
    by_cases e : xs.size = 1
    · have e' : ys.size = 1 := by rw [← hsz]; exact e
      rw [dif_pos e, dif_pos e']
      have := h1.2 0 _ _ (Array.getElem?_eq_getElem (by omega)) (Array.getElem?_eq_getElem (by omega))
      exact ⟨this.val, fun _ => this⟩
    · have e' : ys.size ≠ 1 := by rw [← hsz]; exact e
      rw [dif_neg e, dif_neg e']
      refine ⟨h1, fun hle => ?_⟩
      have h0 : xs.size = 0 := by omega
      have h0' : ys.size = 0 := by omega
      rw [Array.size_eq_zero_iff] at h0 h0'
      subst h0 h0'
      exact one_undef

/-- It only reads. -/
def Calm (P : Program) {α : Type} : Sem α → Prop
  | .pure _ | .halt _ => True
  | .load _ _ k => ∀ v, Calm P (k v)
  | .program k => Calm P (k P)
  | _ => False

theorem Calm.run {α : Type} {s : Sem α} (h : Calm P s) {w w1 : World} {x : α} (hr : s.run P w = .ok x w1) : w1 = w := by
  induction s generalizing w with
  | pure y => simp only [Sem.run, Result.ok.injEq] at hr; exact hr.2.symm
  | load m a k ih =>
    simp only [Sem.run] at hr
    split at hr
    · exact ih _ (h _) hr
    · split at hr
      · exact ih _ (h _) hr
      · exact absurd hr (by simp)
  | program k ih => simp only [Sem.run] at hr; exact ih _ h hr
  | halt e => simp only [Sem.run] at hr; exact absurd hr (by simp)
  | _ => exact h.elim

theorem Calm.bind {α γ : Type} {s : Sem α} {f : α → Sem γ} (h : Calm P s) (hf : ∀ x, Calm P (f x)) : Calm P (s >>= f) := by
  show Calm P (s.bind f)
  induction s with
  | pure y => exact hf y
  | load m a k ih => exact fun v => ih v (h v)
  | program k ih => exact ih _ h
  | halt e => exact trivial
  | _ => exact h.elim

theorem calm_info (t : TypeId) : Calm P (typeInfo t) := by
  show Calm P (match P.info? t with | some i => pure i | none => stuck "no such type")
  cases P.info? t <;> exact trivial
theorem calm_under (t : TypeId) : Calm P (underlying t) := by
  show Calm P (match P.underlying t with | some i => pure i | none => stuck "no such type")
  cases P.underlying t <;> exact trivial
theorem calm_loadFrom (a : Addr) (n : Nat) : ∀ (i : Nat) (xs : Array Value), Calm P (loadCellsFrom a i n xs) := by
  induction n with
  | zero => intro i xs; exact trivial
  | succ n ih => intro i xs v; exact ih _ _
theorem calm_loadVar (t : TypeId) (a : Addr) : Calm P (Go.loadVar t a) := by
  refine Calm.bind (Calm.bind (calm_under t) fun d => by cases d <;> exact trivial) fun b => ?_
  cases b
  · exact fun v => trivial
  · exact Calm.bind (Calm.bind (calm_info t) fun i => trivial) fun n => Calm.bind (calm_loadFrom a n 0 #[]) fun xs => trivial
theorem calm_asAddr (v : Value) : Calm P (asAddr v) := by
  cases v <;> first | exact trivial | skip
  rename_i a
  cases a <;> exact trivial

theorem results_still {fn : Func} {a : Act} {w w1 : World} {v : Value} (h : (Go.results fn a.tmps).run P w = .ok v w1) : w1 = w := by
  refine Calm.run ?_ h
  unfold Go.results
  rw [Array.mapM_eq_mapM_toList]
  refine Calm.bind (Calm.bind ?_ fun _ => trivial) fun _ => trivial
  generalize fn.results.toList = rs
  induction rs with
  | nil => rw [List.mapM_nil]; exact trivial
  | cons r rs ih =>
    rw [List.mapM_cons]
    refine Calm.bind ?_ fun x => Calm.bind ih fun xs => trivial
    cases r with
    | tmp t => exact trivial
    | cell b t => exact Calm.bind (calm_asAddr _) fun a => calm_loadVar t a

theorem results_one {fn : Func} {a : Act} {w w1 : World} {v : Value} {r : Tmp} (hr : fn.results.toList = [.tmp r]) (h : (Go.results fn a.tmps).run P w = .ok v w1) : v = a.tmps.getD r undef := by
  unfold Go.results at h
  rw [Array.mapM_eq_mapM_toList, hr] at h
  simp only [List.mapM_cons, List.mapM_nil] at h
  cases h
  rfl

theorem exitTo_short {id : Nat} : ∀ {k k' : List Item}, exitTo id k = some k' → k'.length ≤ k.length
  | [], k', h => by simp [exitTo] at h
  | x :: k, k', h => by
    cases x <;> simp only [exitTo] at h <;> first
      | (have := exitTo_short h; simp only [List.length_cons]; omega)
      | (split at h
         · cases h; simp only [List.length_cons]; omega
         · have := exitTo_short h; simp only [List.length_cons]; omega)

/-- Behind the first step. -/
theorem arrives_tail {b : Frame} {a a' : Act} {x : Item} {k : List Item} {cs : List Frame} {w w' : World} {S : Machine} {e : Exit} (hs : Go.step P (lone (b.at a (x :: k)) cs w) = .next S)
    (he : (∀ l, e ≠ .goto l) ∧ e ≠ .outgrown) (h : Arrives P (lone (b.at a (x :: k)) cs w) b k cs e a' w') : Arrives P S b k cs e a' w' := by
  have tl : ∀ {T : Machine}, Steps P (lone (b.at a (x :: k)) cs w) T → lone (b.at a (x :: k)) cs w ≠ T → Steps P S T := by
    rintro T ⟨n, hn⟩ hne
    cases n with
    | zero => simp only [runN, Stepped.next.injEq] at hn; exact absurd hn hne
    | succ n => exact ⟨n, by simpa [runN, hs] using hn⟩
  cases e with
  | normal =>
    refine tl h fun h0 => ?_
    have := congrArg (fun f : Frame => f.todo.length) (lone_inj h0).1
    simp [Frame.at] at this
  | exit id =>
    intro k' hk
    refine tl (h k' hk) fun h0 => ?_
    have := congrArg (fun f : Frame => f.todo.length) (lone_inj h0).1
    have h2 := exitTo_short hk
    simp [Frame.at] at this
    omega
  | goto l => exact absurd rfl (he.1 l)
  | ret =>
    obtain ⟨todo, h⟩ := h
    refine ⟨todo, tl h fun h0 => ?_⟩
    have := congrArg (fun f : Frame => f.mode) (lone_inj h0).1
    simp [Frame.at] at this
  | panic ch =>
    obtain ⟨todo, h⟩ := h
    refine ⟨todo, tl h fun h0 => ?_⟩
    have := congrArg (fun f : Frame => f.mode) (lone_inj h0).1
    simp [Frame.at] at this
  | outgrown => exact absurd rfl he.2

/-- A loop, its first round written out. -/
theorem wp_unroll {c : Code} {Q : Exit → Act → World → Prop} {a : Act} {w : World} (hQ : ∀ e a w, Q e a w → (∀ l, e ≠ .goto l) ∧ e ≠ .outgrown)
    (h : c.wp P (Exit.then (fun a' w' => (Code.loop c).wp P Q a' w') Q) a w) : (Code.loop c).wp P Q a w := by
  intro b k cs
  obtain ⟨e, a1, w1, hq, harr⟩ := h b (.inLoop c :: k) cs
  have key : ∃ e a' w', Q e a' w' ∧ Arrives P (lone (b.at a (.code c :: .inLoop c :: k)) cs w) b k cs e a' w' := by
    cases e with
    | normal =>
      obtain ⟨e2, a2, w2, hq2, harr2⟩ := hq b k cs
      refine ⟨e2, a2, w2, hq2, .of_steps harr ?_⟩
      exact .of_steps (.one step_inLoop) (arrives_tail step_loop (hQ _ _ _ hq2) harr2)
    | exit id => exact ⟨_, a1, w1, hq, .pass (x := .inLoop c) rfl (fun _ _ => .inl (by simp)) harr⟩
    | goto l => exact ⟨_, a1, w1, hq, .pass (x := .inLoop c) rfl (fun _ _ => .inl (by simp)) harr⟩
    | ret => exact ⟨_, a1, w1, hq, .pass (x := .inLoop c) rfl (fun _ _ => .inl (by simp)) harr⟩
    | panic ch => exact ⟨_, a1, w1, hq, .pass (x := .inLoop c) rfl (fun _ _ => .inl (by simp)) harr⟩
    | outgrown => exact ⟨_, a1, w1, hq, .pass (x := .inLoop c) rfl (fun _ _ => .inl (by simp)) harr⟩
  obtain ⟨e, a', w', hq, harr⟩ := key
  exact ⟨e, a', w', hq, .of_steps (.one step_loop) harr⟩
end
end Go.Tw
