/-
  One run of one text: one operation, run.
-/
import Derived.Test.YgcoaaGreatSfI
set_option linter.unusedVariables false
set_option linter.unusedSimpArgs false
namespace Go.Sf

section
variable {V : Env} {Γ : Gam} {ρ : Nat → Value} {S : St} {a : Act}

theorem US.len_ {ts : Array TypeId} {t ty : TypeId} {x : Value} {d r : D} (ht : ts[0]? = some t) (hx : one Γ d x) (h : aLen V.P t d = some r) : US V.P (fun Γ v => one Γ r v) Γ (Builtin.len_ ts ty #[x]) := by
  unfold Builtin.len_
  rw [ht]
  unfold aLen at h
  split at h
  · rename_i n hu
    obtain ⟨s, rfl, hs⟩ := hx
    cases h
    exact US.under hu ⟨_, rfl, by omega, by omega⟩
  · rename_i e sz d n hu
    obtain ⟨b, len, cap, rfl, h1, _⟩ := hx
    cases h
    exact US.under hu ⟨_, rfl, by omega, by omega⟩
  · rename_i e hu
    have e : x = _ := hx
    subst e
    cases h
    exact US.under hu ⟨_, rfl, by omega, by omega⟩
  · rename_i n e l hu
    cases h
    obtain ⟨xs, rfl, _⟩ := hx
    exact US.under hu ⟨_, rfl, by omega, by omega⟩
  · cases h

/-- A length, and whose it is. -/
theorem US.lenDf (h : AOk Γ ρ S a) {ts : Array TypeId} {t ty : TypeId} {x : Operand} {d r : D} (ht : ts[0]? = some t) (hd : opD1 S x = some d) (hx : one Γ d (a.eval x)) (hr : aLen V.P t d = some r) :
    US V.P (fun Γ v => one Γ r v ∧ DfOk ρ (match P_lenDf S x d with | some s => .len s | none => .no) v ∧ (match P_lenDf S x d with | some s => Df.len s | none => .no).below S.sy.length = true) Γ (Builtin.len_ ts ty #[a.eval x]) := by
  have main := US.len_ (V := V) (ty := ty) ht hx hr
  cases hp : P_lenDf S x d with
  | none => exact US.mono main fun _ _ _ hv => ⟨hv, trivial, rfl⟩
  | some s =>
    have hs : symOf S x = some s := by
      cases d using D.cs <;> simp only [P_lenDf] at hp <;> first | exact hp | cases hp
    obtain ⟨s1, s2⟩ := h.symOf hs
    have hb : (Df.len s).below S.sy.length = true := by simpa [Df.below] using s1
    clear main
    unfold Builtin.len_
    rw [ht]
    unfold aLen at hr
    split at hr
    · rename_i n hu
      obtain ⟨str, e, hs'⟩ := hx
      cases hr
      rw [e] at s2 ⊢
      refine US.under hu ⟨⟨_, rfl, by omega, by omega⟩, ⟨str.size, by rw [← s2]; rfl, rfl⟩, hb⟩
    · rename_i el sz d n hu
      obtain ⟨b, len, cap, e, h1, _⟩ := hx
      cases hr
      rw [e] at s2 ⊢
      refine US.under hu ⟨⟨_, rfl, by omega, by omega⟩, ⟨len, by rw [← s2]; rfl, rfl⟩, hb⟩
    · simp [P_lenDf] at hp
    · simp [P_lenDf] at hp
    · cases hr

theorem nanMM_lt (k : FloatKind) (b : Bool) (x y : Nat) : (if (Question.nanMinMax k b x y).forced then 0 else (Question.nanMinMax k b x y).cut 0) < 2 ^ fw k := by
  cases k <;> simp [Question.forced, Question.cut, fw]

theorem US.max2 {x y : Value} {d d' r : D} (hx : one Γ d x) (hy : one Γ d' y) (h : aMax true d d' = some r) : US V.P (fun Γ v => one Γ r v) Γ (Builtin.max2 x y) := by
  unfold aMax at h
  split at h
  · split at h
    · rename_i hk
      subst hk
      obtain ⟨n, rfl, hn⟩ := hx
      obtain ⟨m, rfl, hm⟩ := hy
      cases h
      refine ⟨_, rfl, ?_, ?_⟩ <;> split <;> omega
    · cases h
  · split at h
    · rename_i hk
      subst hk
      obtain ⟨n, rfl, hn⟩ := hx
      obtain ⟨m, rfl, hm⟩ := hy
      cases h
      show US V.P _ Γ (match FloatKind.format _ |>.order n m with | none => _ | some .lt => _ | some .gt => _ | some .eq => _)
      split
      · exact ⟨_, rfl, nanMM_lt _ _ _ _⟩
      · exact ⟨_, rfl, hm⟩
      · exact ⟨_, rfl, hn⟩
      · refine ⟨_, rfl, ?_⟩
        split
        · exact hm
        · exact hn
    · cases h
  · cases h

theorem US.min2 {x y : Value} {d d' r : D} (hx : one Γ d x) (hy : one Γ d' y) (h : aMax false d d' = some r) : US V.P (fun Γ v => one Γ r v) Γ (Builtin.min2 x y) := by
  unfold aMax at h
  split at h
  · split at h
    · rename_i hk
      subst hk
      obtain ⟨n, rfl, hn⟩ := hx
      obtain ⟨m, rfl, hm⟩ := hy
      cases h
      refine ⟨_, rfl, ?_, ?_⟩ <;> split <;> omega
    · cases h
  · split at h
    · rename_i hk
      subst hk
      obtain ⟨n, rfl, hn⟩ := hx
      obtain ⟨m, rfl, hm⟩ := hy
      cases h
      show US V.P _ Γ (match FloatKind.format _ |>.order n m with | none => _ | some .lt => _ | some .gt => _ | some .eq => _)
      split
      · exact ⟨_, rfl, nanMM_lt _ _ _ _⟩
      · exact ⟨_, rfl, hn⟩
      · exact ⟨_, rfl, hm⟩
      · refine ⟨_, rfl, ?_⟩
        split
        · exact hn
        · exact hm
    · cases h
  · cases h

/-- A call of a function. -/
def isCall (o : Oper) : Bool := match o.op with
  | .call { callee := .value _, .. } => true
  | _ => false

theorem op_us (hE : EqAll V.P V.E) (h : AOk Γ ρ S a) {o : Oper} {tr : Tr} (hc : isCall o = false) (ht : aOp V S o = some tr) : US V.P (fun Γ nx => Nx Γ ρ S tr nx) Γ (execOp a.eval o) := by
  obtain ⟨dst, op, type, pos, after, guard⟩ := o
  have mapv : ∀ {o : Option D} {tr : Tr}, o.map (Tr.val · .no) = some tr → ∃ d, o = some d ∧ tr = .val d .no := by
    intro o tr h
    cases o with
    | none => cases h
    | some d => cases h; exact ⟨d, rfl, rfl⟩
  cases op with
  | move x => exact tr_of h ht
  | assign x => exact tr_of h ht
  | pick c x y =>
    simp only [aOp] at ht
    split at ht
    · rename_i hd
      obtain ⟨b, e, hb⟩ := h.opD hd
      have := hb true rfl
      subst this
      show US V.P _ Γ (asBool (a.eval c) >>= _)
      rw [e]
      exact tr_of h ht
    · rename_i hd
      obtain ⟨b, e, hb⟩ := h.opD hd
      have := hb false rfl
      subst this
      show US V.P _ Γ (asBool (a.eval c) >>= _)
      rw [e]
      exact tr_of h ht
    · rename_i hd
      obtain ⟨b, e, hb⟩ := h.opD hd
      split at ht
      · rename_i d d' h1 h2
        cases ht
        show US V.P _ Γ (asBool (a.eval c) >>= _)
        rw [e]
        cases b
        · exact ⟨joinD_r (h.opD h2), trivial, rfl⟩
        · exact ⟨joinD_l (h.opD h1), trivial, rfl⟩
      · cases ht
    · cases ht
  | alloc t =>
    simp only [aOp] at ht
    split at ht
    · rename_i hh
      cases ht
      exact US.vv (US.alloc hh)
    · cases ht
  | box t x =>
    simp only [aOp] at ht
    split at ht
    · rename_i d hd
      split at ht
      · rename_i hh
        cases ht
        exact US.vv (US.box (h.opD1 hd) hh)
      · cases ht
    · cases ht
  | build t ps =>
    simp only [aOp] at ht
    split at ht
    · rename_i qs hq
      obtain ⟨d, hd, rfl⟩ := mapv ht
      refine US.vv (US.build ?_ hd)
      rw [Array.toList_map]
      exact parts_ok h hq
    · cases ht
  | load t x =>
    simp only [aOp] at ht
    split at ht
    · rename_i l hl
      obtain ⟨d, hd, rfl⟩ := mapv ht
      exact US.vv (US.loadAt (h.opD hl) hd)
    · cases ht
  | store t x y =>
    simp only [aOp] at ht
    split at ht
    · rename_i l d hl hd
      split at ht
      · rename_i hh
        cases ht
        exact US.bind' (US.storeAt (h.opD hl) (h.opD1 hd) hh) fun _ _ _ _ => rfl
      · cases ht
    · cases ht
  | nilCheck x =>
    simp only [aOp] at ht
    split at ht
    · rename_i l hl
      have := tr_of h ht
      obtain ⟨ad, e, _⟩ := h.opD hl
      show US V.P _ Γ (match a.eval x with | .pointer none | .nilIface | .nilFunc => _ | .func (.method name) first captured => _ | x => _)
      rw [e] at this ⊢
      exact this
    · cases ht
  | binOp op t x y ty =>
    simp only [aOp] at ht
    split at ht
    · rename_i dx dy hx hy
      cases hb : aBin V.P V.E op t dx dy with
      | none => rw [hb] at ht; cases ht
      | some r =>
        rw [hb] at ht
        cases ht
        have ox := h.opD1 hx
        have oy := h.opD1 hy
        refine US.bind' (S := fun Γ v => one Γ (tight S op x y dx dy r) v ∧ DfOk ρ (flat S (dfOf S op x y dx dy)) v ∧ (flat S (dfOf S op x y dx dy)).below S.sy.length = true) ?_ fun Γ' v hle hv => ⟨val_of_one hv.1, hv.2⟩
        refine US.bind' (US.eqGuard hE ox oy hb) fun Γ' _ hle _ => ?_
        have main := US.binOp hE (ox.mono hle) (oy.mono hle) hb
        rcases df_ok (t := t) h (op := op) hx hy with e | ⟨v, e1, e2, e3⟩
        · rw [e]
          by_cases hop : op = .sub
          · subst hop
            by_cases hii : ∃ k n m, a.eval x = .int k n ∧ a.eval y = .int k m
            · obtain ⟨k, n, m, ex, ey⟩ := hii
              have hpu : Go.binOp .sub t (a.eval x) (a.eval y) = pure (.int k (k.wrap (n - m))) := by
                rw [ex, ey]
                simp only [Go.binOp, ne_eq, not_true, if_false]
                rfl
              rw [hpu] at main ⊢
              refine ⟨tight_ok (t := t) h ox oy main ?_, trivial, rfl⟩
              intro k' n' m' _ ex' ey'
              rw [ex] at ex'
              rw [ey] at ey'
              cases ex'; cases ey'
              rfl
            · refine US.mono main fun _ _ _ hv => ⟨tight_ok (t := t) h ox oy hv ?_, trivial, rfl⟩
              intro k' n' m' _ ex' ey'
              exact absurd ⟨k', n', m', ex', ey'⟩ hii
          · refine US.mono main fun _ _ _ hv => ⟨tight_ok (t := t) h ox oy hv ?_, trivial, rfl⟩
            intro _ _ _ hh
            exact absurd hh hop
        · rw [e1] at main ⊢
          obtain ⟨f1, f2⟩ := flat_ok h e2 e3
          refine ⟨tight_ok (t := t) h ox oy main ?_, f1, f2⟩
          intro k n m hop ex ey
          subst hop
          rw [ex, ey] at e1
          simp only [Go.binOp, ne_eq, not_true, if_false] at e1
          exact (Sem.pure.inj e1).symm
    · cases ht
  | unOp op t x =>
    simp only [aOp] at ht
    split at ht
    · rename_i d hd
      obtain ⟨r, hr, rfl⟩ := mapv ht
      exact US.vv (US.unary (h.opD1 hd) hr)
    · cases ht
  | convert s t x =>
    simp only [aOp] at ht
    split at ht
    · rename_i d hd
      obtain ⟨r, hr, rfl⟩ := mapv ht
      exact US.vv (US.convS (h.opD1 hd) hr)
    · cases ht
  | fieldAddr t x i =>
    simp only [aOp] at ht
    split at ht
    · rename_i l hl
      obtain ⟨d, hd, rfl⟩ := mapv ht
      exact US.vv (US.fieldAt (h.opD hl) hd)
    · cases ht
  | field t x i =>
    simp only [aOp] at ht
    split at ht
    · rename_i l hl
      obtain ⟨d, hd, rfl⟩ := mapv ht
      exact US.vv (US.field (h.opD hl) hd)
    · cases ht
  | indexAddr t x i =>
    simp only [aOp] at ht
    split at ht
    · rename_i d d' h1 h2
      obtain ⟨r, hr, rfl⟩ := mapv ht
      exact US.vv (US.idxA h (h.opD1 h1) (h.opD1 h2) hr)
    · cases ht
  | index t x i =>
    simp only [aOp] at ht
    split at ht
    · rename_i d d' h1 h2
      obtain ⟨r, hr, rfl⟩ := mapv ht
      exact US.vv (US.idx h (h.opD1 h1) (h.opD1 h2) hr)
    · cases ht
  | makeSlice t x y =>
    simp only [aOp] at ht
    split at ht
    · rename_i d d' h1 h2
      obtain ⟨r, hr, rfl⟩ := mapv ht
      exact US.vv (US.mak h (h.opD1 h1) (h.opD1 h2) hr)
    · cases ht
  | slice t x lo hi mx =>
    cases mx with
    | some m => simp [aOp] at ht
    | none =>
      simp only [aOp] at ht
      obtain ⟨r, hr, rfl⟩ := mapv ht
      exact US.vv (US.slc h hr)
  | extract x i =>
    simp only [aOp] at ht
    split at ht
    · rename_i l hl
      obtain ⟨d, hd, rfl⟩ := mapv ht
      exact US.vv (US.extract (h.opD hl) hd)
    · cases ht
  | call c =>
    obtain ⟨callee, args, ts⟩ := c
    cases callee with
    | value f => exact absurd hc (by simp [isCall])
    | invoke r m => simp [aOp] at ht
    | builtin b =>
      have e2 : ∀ x y : Operand, args.toList = [x, y] → args.map a.eval = #[a.eval x, a.eval y] := by
        intro x y he
        apply Array.toList_inj.1
        simp [he]
      simp only [aOp] at ht
      split at ht
      · rename_i x t ts' ha hts
        split at ht
        · rename_i d hd
          have e : args.map a.eval = #[a.eval x] := by
            apply Array.toList_inj.1
            simp [ha]
          show US V.P _ Γ (do pure (Next.value (← Builtin.len_ ts _ (args.map a.eval))))
          rw [e]
          cases hr : aLen V.P t d with
          | none => rw [hr] at ht; cases ht
          | some r =>
            rw [hr] at ht
            have ht := (Option.some.inj ht).symm
            subst ht
            have hts' : ts[0]? = some t := by
              have : ts.toList[0]? = some t := by rw [hts]; rfl
              simpa using this
            have hx := h.opD1 hd
            refine US.bind' (US.lenDf (ρ := ρ) (S := S) h hts' hd hx hr) fun Γ' v hle hv => ?_
            exact ⟨val_of_one hv.1, hv.2⟩
        · cases ht
      · rename_i x y ha
        split at ht
        · rename_i d d' h1 h2
          cases hr : aMax true d d' with
          | none => rw [hr] at ht; cases ht
          | some r =>
            rw [hr] at ht
            have ht := (Option.some.inj ht).symm
            subst ht
            show US V.P _ Γ (do pure (Next.value (← Builtin.max_ ts _ (args.map a.eval))))
            rw [e2 x y ha]
            have main := US.max2 (V := V) (h.opD1 h1) (h.opD1 h2) hr
            refine US.bind' (S := fun Γ v => one Γ r v ∧ DfOk ρ (mxDf S x y d d') v ∧ (mxDf S x y d d').below S.sy.length = true) ?_ fun Γ' v hle hv => ⟨val_of_one hv.1, hv.2⟩
            show US V.P _ Γ (List.foldlM Builtin.max2 (a.eval x) [a.eval y])
            rw [List.foldlM_cons]
            rcases mxDf_ok h (h.opD1 h1) (h.opD1 h2) with e | ⟨v, g1, g2, g3⟩
            · rw [e]
              exact US.bind' main fun _ _ _ hv => ⟨hv, trivial, rfl⟩
            · rw [g1] at main ⊢
              exact ⟨main, g2, g3⟩
        · cases ht
      · rename_i x y ha
        split at ht
        · rename_i d d' h1 h2
          obtain ⟨r, hr, rfl⟩ := mapv ht
          show US V.P _ Γ (do pure (Next.value (← Builtin.min_ ts _ (args.map a.eval))))
          rw [e2 x y ha]
          refine US.vv ?_
          show US V.P _ Γ (List.foldlM Builtin.min2 (a.eval x) [a.eval y])
          rw [List.foldlM_cons]
          exact US.bind' (US.min2 (h.opD1 h1) (h.opD1 h2) hr) fun _ _ _ hv => hv
        · cases ht
      · cases ht
  | _ => simp [aOp] at ht

/-- The functions called are as they are told. -/
structure Given (V : Env) (F : FuncId → Bool) : Prop where
  eq : EqAll V.P V.E
  con : ∀ g ps r, F g = true → V.sg g ps = some r → Con V.P g ps r
  xcon : ∀ g ps r, V.xg g ps = some r → XCon V.P g ps r

/-- The functions that an operation calls. -/
def calls (F : FuncId → Bool) (o : Oper) : Bool := match o.op with
  | .call { callee := .value (.func g), .. } => F g
  | _ => true

theorem op_wp {F : FuncId → Bool} (hG : Given V F) (h : AOk Γ ρ S a) {o : Oper} {tr : Tr} {w : World} (hw : Wt Γ w) (hcl : calls F o = true) (ht : aOp V S o = some tr)
    {next : Act → World → Prop} {Q : Exit → Act → World → Prop}
    (hn : ∀ Γ' ρ' w' v, Ex Γ w Γ' w' → (∀ s, s < S.sy.length → ρ' s = ρ s) → AOk Γ' ρ' (S.put o.dst tr) (a.put o.dst v) → next (a.put o.dst v) w') : o.wp V.P a w next Q := by
  have fin : ∀ Γ' w' v, Ex Γ w Γ' w' → TrOk Γ' ρ S tr v → next (a.put o.dst v) w' := by
    intro Γ' w' v hx hv
    have h' := h.mono hx.le
    cases tr using Tr.cs with
    | val d f =>
      obtain ⟨v1, v2, v3⟩ := hv
      obtain ⟨ρ', g1, g2⟩ := h'.push o.dst v1 v2 v3
      exact hn Γ' ρ' w' v hx g1 g2
    | same s =>
      obtain ⟨v1, rfl⟩ := hv
      exact hn Γ' ρ w' _ hx (fun _ _ => rfl) (h'.same o.dst v1)
    | skip =>
      have hv : v = undef := hv
      subst hv
      obtain ⟨ρ', g1, g2⟩ := h'.push o.dst (d := .und) (f := .no) (v := undef) rfl trivial rfl
      exact hn Γ' ρ' w' _ hx g1 g2
  unfold Oper.wp
  by_cases hc : isCall o = true
  · obtain ⟨dst, op, type, pos, after, guard⟩ := o
    cases op <;> first | (exfalso; simp [isCall] at hc; done) | skip
    rename_i c
    obtain ⟨callee, args, ts⟩ := c
    cases callee with
    | builtin b => simp [isCall] at hc
    | invoke r m => simp [isCall] at hc
    | value f =>
      cases f with
      | tmp t => simp [aOp] at ht
      | const v => simp [aOp] at ht
      | global g => simp [aOp] at ht
      | func g =>
        simp only [aOp] at ht
        split at ht
        · rename_i ps hps
          have ha : Args Γ ps (args.map a.eval) := by
            have := args_ok h hps
            have e : (args.toList.map a.eval).toArray = args.map a.eval := by
              apply Array.toList_inj.1
              simp
            rw [e] at this
            exact this
          have hex : execOp a.eval { dst := dst, op := .call { callee := .value (.func g), args := args, argTypes := ts }, type := type, pos := pos, after := after, guard := guard } = callFunc g (#[] ++ args.map a.eval ++ #[]) := rfl
          have hsm : (#[] ++ args.map a.eval ++ #[] : Array Value) = args.map a.eval := by simp
          rw [hex, hsm]
          split at ht
          · rename_i hb
            cases hs : V.sg g ps with
            | none => rw [hs] at ht; cases ht
            | some r =>
              rw [hs] at ht
              cases ht
              have hcon := hG.con g ps r hcl hs Γ w _ hw ha
              have hr : (callFunc g (args.map a.eval)).run V.P w = .ok (.enter g (args.map a.eval)) w := by
                unfold hasBody at hb
                split at hb
                · rename_i fn hf
                  simp only [Bool.and_eq_true, bne_iff_ne, ne_eq] at hb
                  have hn : (fn.name == "runtime.NumGoroutine") = false := by simpa using hb.2
                  have hbb : fn.body.isNone = false := by
                    cases hq : fn.body with
                    | none => rw [hq] at hb; simp at hb
                    | some b => rfl
                  show Sem.run V.P (match V.P.funcs[g]? with | none => _ | some fn => _) w = _
                  rw [hf]
                  dsimp only
                  rw [hn, hbb]
                  rfl
                · cases hb
              rw [hr]
              refine Calls.mono hcon ?_
              rintro e w' ⟨v, Γ', rfl, hx, hv⟩
              exact fin Γ' w' v hx ⟨hv, trivial, rfl⟩
          · cases hs : V.xg g ps with
            | none => rw [hs] at ht; cases ht
            | some r =>
              rw [hs] at ht
              cases ht
              obtain ⟨nx, w', Γ', g1, g2, v, rfl, g4⟩ := (hG.xcon g ps r hs Γ _ ha).run hw
              rw [g1]
              exact fin Γ' w' v g2 ⟨g4, trivial, rfl⟩
        · cases ht
  · obtain ⟨nx, w', Γ', g1, g2, g3⟩ := (op_us hG.eq h (by simpa using hc) ht).run hw
    rw [g1]
    cases nx <;> first | exact g3.elim | skip
    · exact fin Γ' w' _ g2 g3
    · have g3 : tr = .skip := g3
      subst g3
      exact fin Γ' w' undef g2 rfl
end
end Go.Sf
