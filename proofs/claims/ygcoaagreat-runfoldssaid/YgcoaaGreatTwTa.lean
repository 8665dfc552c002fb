/-
  Two runs of one text: a store that may come early.
-/
import Derived.Test.YgcoaaGreatTwS
set_option linter.unusedVariables false
set_option linter.unusedSimpArgs false
namespace Go.Tw
open Go.Mix

/-- An operation that is blind to the store at n0. -/
structure Blind (V : Env) (f : FuncId) (ops : Array Oper) (n0 : Nat) (os : Oper) (qx : Nat) (o : Oper) : Prop where
  blind : blindOp V.P (V.BX f) (V.BX f qx) o = true
  call : notCall o = true
  dst : ∀ t ∈ os.looksAt ops, o.dst ≠ some t
  loads : ∀ t x, o.op = .load t (.tmp x) → ∀ (j : Nat) oj, j < n0 → ops[j]? = some oj → oj.dst = some x → ∃ e ∈ o.after, Region.binds .any e = true ∧ e.on = j

/-- A region of which one store may come early. -/
structure DrLate (V : Env) (f : FuncId) (ops : Array Oper) (n0 : Nat) : Prop where
  shaped : Shaped ops (n0 + 1)
  apart : Apart ops n0
  head : ∀ (i : Nat) o, i < n0 → ops[i]? = some o → headOk V o = true
  order : Region.schedule true ops 0 = List.range ops.size
  store : ∃ os t qx y, ops[n0]? = some os ∧ os.op = .store t (.tmp qx) y ∧ os.guard = none ∧ os.dst = none ∧
    (∀ t ∈ os.looksAt ops, ∀ (j : Nat) oj, j < n0 → ops[j]? = some oj → oj.dst = some t → ∃ e ∈ os.after, Region.binds .any e = true ∧ e.on = j) ∧
    ∀ (i : Nat) o, i < n0 → ops[i]? = some o → (∀ listed : Array Bool, listed.size = ops.size → Down ops listed → listed.getD n0 false = true → listed.getD i false = true) ∨ Blind V f ops n0 os qx o

theorem cel_blk' {β : Rel} {x y : Value} (h : cel β x y) {c : Nat} (hc : blk y = some c) : ∃ b, blk x = some b ∧ β b c := by
  cases y <;> first | (exfalso; simp [blk] at hc; done) | skip
  · rename_i p
    cases p <;> first | (exfalso; simp [blk] at hc; done) | skip
    cases x <;> first | (exfalso; simp [cel] at h; done) | skip
    rename_i a q
    cases q <;> first | (exfalso; simp [cel, oadr] at h; done) | skip
    have e : some a.block = some c := hc
    cases e
    exact ⟨_, rfl, h.1⟩
  · rename_i p _ _
    cases p <;> first | (exfalso; simp [blk] at hc; done) | skip
    cases x <;> first | (exfalso; simp [cel] at h; done) | skip
    rename_i a q _ _
    cases q <;> first | (exfalso; simp [cel, oadr] at h; done) | skip
    have e : some a.block = some c := hc
    cases e
    exact ⟨_, rfl, h.1.1⟩

theorem one_blk' {β : Rel} {x y : Value} (h : one β x y) {c : Nat} (hc : blk y = some c) : ∃ b, blk x = some b ∧ β b c := by
  cases y <;> first | (exfalso; simp [blk] at hc; done) | skip
  all_goals exact cel_blk' (by cases x <;> exact h) hc

theorem val_blk' {β : Rel} {x y : Value} (h : val β x y) {c : Nat} (hc : blk y = some c) : ∃ b, blk x = some b ∧ β b c := by
  cases y <;> first | (exfalso; simp [blk] at hc; done) | skip
  all_goals exact one_blk' (by cases x <;> exact h) hc

section
variable {V : Env} {f : FuncId} {ops : Array Oper} {n0 : Nat} {a0 ah : Act} {av : Nat → Act} {ws : World} {pw qw : Nat → World} {xs : Nat → Value} {β0 : Rel} {a0' : Act} {w0' : World}

theorem InvB.late {listed listed' : Array Bool} {a' : Act} {w' : World} {β : Rel} (hI : InvB V f ops n0 ah pw qw β0 a0' w0' listed a' w' β) (hl : ∀ j, j < n0 → listed'.getD j false = listed.getD j false) : InvB V f ops n0 ah pw qw β0 a0' w0' listed' a' w' β where
  w := hI.w
  le := hI.le
  new b c h := by
    rcases hI.new b c h with h1 | ⟨h1, j, hj, hlj, h2⟩
    · exact .inl h1
    · exact .inr ⟨h1, j, hj, by rw [hl j hj]; exact hlj, h2⟩
  dom := hI.dom
  sz := hI.sz
  fr := hI.fr
  sys := hI.sys
  tsize := hI.tsize
  still := hI.still
  keep t ht := hI.keep t fun j o hj hlj => ht j o hj (by rw [hl j hj]; exact hlj)
  done j o t hj hlj := hI.done j o t hj (by rw [← hl j hj]; exact hlj)

/-- A slot whose writer has run is alike. -/
theorem slot_B (tr : Trace V f ops n0 a0 ws ah av pw qw xs) (hap : Apart ops n0) (ha0 : AR (V.TT f) β0 a0 a0') {listed : Array Bool} {a' : Act} {w' : World} {β : Rel} (hI : InvB V f ops n0 ah pw qw β0 a0' w0' listed a' w' β) {t : Nat}
    (ht : ∀ (j : Nat) oj, j < n0 → ops[j]? = some oj → oj.dst = some t → listed.getD j false = true) : val (cut β (pw n0).heap.size) (ah.tmps.getD t undef) (a'.tmps.getD t undef) ∧ (V.TT f t = false → one (cut β (pw n0).heap.size) (ah.tmps.getD t undef) (a'.tmps.getD t undef)) := by
  by_cases hd : ∃ j oj, j < n0 ∧ ops[j]? = some oj ∧ oj.dst = some t
  · obtain ⟨j, oj, hj, hoj, hdj⟩ := hd
    obtain ⟨q1, q2⟩ := hI.done j oj t hj (ht j oj hj hoj hdj) hoj hdj
    have hl : Le (cut β (qw j).heap.size) (cut β (pw n0).heap.size) := cut_mono (tr.mid j hj).2
    exact ⟨val.mono hl q1, fun h => one.mono hl (q2 h)⟩
  · rw [tr.same t fun j oj hj hoj hdj => hd ⟨j, oj, hj, hoj, hdj⟩, hI.keep t fun j oj hj _ hoj hdj => hd ⟨j, oj, hj, hoj, hdj⟩]
    have hl : Le β0 (cut β (pw n0).heap.size) := fun b c h => ⟨hI.le b c h, hI.dom b c (hI.le b c h)⟩
    exact ⟨val.mono hl (ha0.tup t), fun h => one.mono hl (ha0.tmp t h)⟩

/-- What an operation of the head looks at is alike. -/
theorem look_B (tr : Trace V f ops n0 a0 ws ah av pw qw xs) (hap : Apart ops n0) (ha0 : AR (V.TT f) β0 a0 a0') (hw0 : W β0 ws w0') {i : Nat} {o : Oper} (hi : i < n0) (ho : ops[i]? = some o) {listed : Array Bool} (hdown : Down ops listed)
    (hun : listed.getD i false = false) (hed : ∀ e ∈ o.after, Region.binds .any e = true → listed.getD e.on false = true) {a' : Act} {w' : World} {β : Rel} (hI : InvB V f ops n0 ah pw qw β0 a0' w0' listed a' w' β) :
    AR (V.TT f) (cut β (pw i).heap.size) (cutAct (o.looksAt ops) (av i)) (cutAct (o.looksAt ops) a') := by
  have d0 : ∀ b c, β0 b c → b < ws.heap.size ∧ c < w0'.heap.size := fun b c h => hw0.size h
  have hle0 : ∀ k, k ≤ n0 → Le β0 (cut β (pw k).heap.size) := fun k hk b c h => ⟨hI.le b c h, Nat.lt_of_lt_of_le (d0 b c h).1 (tr.lo k hk)⟩
  have hvsize : (av i).tmps.size = a'.tmps.size := by rw [tr.avsz i hi, hI.tsize, ha0.size]
  have look : ∀ t, t ∈ o.looksAt ops → val (cut β (pw i).heap.size) ((av i).tmps.getD t undef) (a'.tmps.getD t undef) ∧ (V.TT f t = false → one (cut β (pw i).heap.size) ((av i).tmps.getD t undef) (a'.tmps.getD t undef)) := by
    intro t ht
    by_cases hd : ∃ j oj, j < n0 ∧ ops[j]? = some oj ∧ oj.dst = some t
    · obtain ⟨j, oj, hj, hoj, hdj⟩ := hd
      rcases hap.looks i o t j oj hi ho ht hj hoj hdj with hee | hee
      · have hee' := hee
        obtain ⟨e, he, hb, hon⟩ := hee
        have hlj : listed.getD j false = true := by rw [← hon]; exact hed e he hb
        obtain ⟨q1, q2⟩ := hI.done j oj t hj hlj hoj hdj
        have hl := cut_mono (β := β) (tr.edge i o t j oj hi ho ht hj hoj hdj hee')
        rw [tr.avput i o t j oj hi ho ht hj hoj hdj hee']
        exact ⟨val.mono hl q1, fun h => one.mono hl (q2 h)⟩
      · have h1 := tr.avold i o t j oj hi ho ht hj hoj hdj hee
        obtain ⟨e, he, hb, hon⟩ := hee
        have h2 := hI.keep t fun j2 oj2 hj2 hlj2 hoj2 hdj2 => by
          have := hap.dist j2 j oj2 oj t hj2 hj hoj2 hoj hdj2 hdj
          subst this
          have := hdown j2 oj hoj hlj2 e he hb
          rw [hon, hun] at this
          cases this
        rw [h1, h2]
        have hl := hle0 i (Nat.le_of_lt hi)
        exact ⟨val.mono hl (ha0.tup t), fun h => one.mono hl (ha0.tmp t h)⟩
    · have h1 := tr.avsame i o t hi ho ht fun j oj hj hoj hdj => hd ⟨j, oj, hj, hoj, hdj⟩
      have h2 := hI.keep t fun j oj hj _ hoj hdj => hd ⟨j, oj, hj, hoj, hdj⟩
      rw [h1, h2]
      have hl := hle0 i (Nat.le_of_lt hi)
      exact ⟨val.mono hl (ha0.tup t), fun h => one.mono hl (ha0.tmp t h)⟩
  refine ⟨by rw [cutAct_size, cutAct_size]; exact hvsize, fun t ht => ?_, fun t => ?_, rfl, rfl⟩
  · rw [cutAct_get, cutAct_get]
    split
    · exact (look t ‹_›).2 ht
    · exact one_undef
  · rw [cutAct_get, cutAct_get]
    split
    · exact (look t ‹_›).1
    · exact one_undef.val

/-- What the store looks at is alike. -/
theorem look_S (tr : Trace V f ops n0 a0 ws ah av pw qw xs) (hap : Apart ops n0) (ha0 : AR (V.TT f) β0 a0 a0') {os : Oper} {listed : Array Bool} {a' : Act} {w' : World} {β : Rel} (hI : InvB V f ops n0 ah pw qw β0 a0' w0' listed a' w' β)
    (hl : ∀ t ∈ os.looksAt ops, ∀ (j : Nat) oj, j < n0 → ops[j]? = some oj → oj.dst = some t → listed.getD j false = true) :
    AR (V.TT f) (cut β (pw n0).heap.size) (cutAct (os.looksAt ops) ah) (cutAct (os.looksAt ops) a') := by
  refine ⟨by rw [cutAct_size, cutAct_size, tr.size, hI.tsize, ha0.size], fun t ht => ?_, fun t => ?_, rfl, rfl⟩
  · rw [cutAct_get, cutAct_get]
    split
    · exact (slot_B tr hap ha0 hI (hl t ‹_›)).2 ht
    · exact one_undef
  · rw [cutAct_get, cutAct_get]
    split
    · exact (slot_B tr hap ha0 hI (hl t ‹_›)).1
    · exact one_undef.val

theorem store_skip {P : Program} {ρ : Operand → Value} {os : Oper} {t : TypeId} {x y : Operand} (hop : os.op = .store t x y) {w w1 : World} {n : Next} (h : (execOp ρ os).run P w = .ok n w1) : n = .skip := by
  obtain ⟨dst, op, type, pos, after, guard⟩ := os
  dsimp only at hop
  subst hop
  have h' : (do Instr.storeAt t (ρ x) (ρ y); pure Next.skip : Sem Next).run P w = .ok n w1 := h
  rw [Sem.run_bind] at h'
  cases hs : (Instr.storeAt t (ρ x) (ρ y)).run P w with
  | ok u w2 =>
    rw [hs] at h'
    simp only [Result.andThen_ok, Sem.run_pure, Result.ok.injEq] at h'
    exact h'.1.symm
  | halt e w2 => rw [hs] at h'; exact absurd h' (by simp)

theorem wanted_none {o : Oper} {y : Nat → Option Bool} (h : o.guard = none) : Region.wanted o y = true := by
  unfold Region.wanted
  rw [h]

/-- The store's effect, in the second run. -/
theorem store_B (hG : V.P.globals.size ≤ 1) (hE : ∀ t, V.E t = true → EqOk V.P t) (tr : Trace V f ops n0 a0 ws ah av pw qw xs) (hap : Apart ops n0) (ha0 : AR (V.TT f) β0 a0 a0') {os : Oper} {t : TypeId} {qx : Nat} {y : Operand} (hop : os.op = .store t (.tmp qx) y) (hok : okOp2 V.P (V.TT f) V.E os = true)
    {w1 : World} (hr : (execOp ah.eval os).run V.P (pw n0) = .ok .skip w1) {listed : Array Bool} {a' : Act} {w' : World} {β : Rel} (hI : InvB V f ops n0 ah pw qw β0 a0' w0' listed a' w' β)
    (hl : ∀ t ∈ os.looksAt ops, ∀ (j : Nat) oj, j < n0 → ops[j]? = some oj → oj.dst = some t → listed.getD j false = true) :
    ∃ w2 B b, (execOp a'.eval os).run V.P w' = .ok .skip w2 ∧ Diff B w' w2 ∧ blk (ah.tmps.getD qx undef) = some b ∧ cut β (pw n0).heap.size b B := by
  have har := look_S tr hap ha0 hI hl
  have hag1 : Agree ops os (cutAct (os.looksAt ops) ah) ah := ⟨cutAct_size, fun t ht => by rw [cutAct_get, if_pos ht]⟩
  have hag2 : Agree ops os a' (cutAct (os.looksAt ops) a') := ⟨cutAct_size.symm, fun t ht => by rw [cutAct_get, if_pos ht]⟩
  have hns := ok_nosel hok
  have hr' : (execOp (cutAct (os.looksAt ops) ah).eval os).run V.P (pw n0) = .ok .skip w1 := by rw [exec_agree hag1 hns]; exact hr
  have hsr := SR.exec2 hG hE hok har
  have hW := hI.w n0 (Nat.le_refl _)
  have hqx : qx ∈ os.looksAt ops := by
    refine List.mem_append_left _ (List.mem_filterMap.2 ⟨.tmp qx, ?_, rfl⟩)
    rw [hop]
    simp [Op.operands]
  -- the address
  have hadr : ∃ p, ah.tmps.getD qx undef = .pointer (some p) := by
    obtain ⟨dst, op, type, pos, after, guard⟩ := os
    dsimp only at hop
    subst hop
    have h' : (do Instr.storeAt t (ah.eval (.tmp qx)) (ah.eval y); pure Next.skip : Sem Next).run V.P (pw n0) = .ok .skip w1 := hr
    have e : ah.eval (.tmp qx) = ah.tmps.getD qx undef := rfl
    rw [e] at h'
    cases hv : ah.tmps.getD qx undef with
    | pointer p =>
      cases p with
      | some p => exact ⟨p, rfl⟩
      | none => rw [hv] at h'; exact absurd h' (by rw [Sem.run_bind]; simp [Instr.storeAt, Instr.sureAddr, stuck, Sem.run_bind, Sem.run])
    | _ => rw [hv] at h'; exact absurd h' (by rw [Sem.run_bind]; simp [Instr.storeAt, Instr.sureAddr, stuck, Sem.run_bind, Sem.run])
  obtain ⟨p, hp⟩ := hadr
  have hval := (slot_B tr hap ha0 hI (hl qx hqx)).1
  obtain ⟨B, hB, hβ⟩ := val_blk hval (b := p.block) (by rw [hp]; rfl)
  have hp' : ∃ p', a'.tmps.getD qx undef = .pointer (some p') ∧ p'.block = B := by
    rw [hp] at hval
    revert hval hB
    cases a'.tmps.getD qx undef <;> intro hval hB <;> first | (exfalso; simp [val, one, cel] at hval; done) | skip
    rename_i q
    cases q with
    | none => exact absurd hB (by simp [blk])
    | some q => exact ⟨q, rfl, by simpa [blk] using hB⟩
  obtain ⟨p', hp', hpB⟩ := hp'
  have honly : Only V.P B (execOp (cutAct (os.looksAt ops) a').eval os) := by
    have e : (cutAct (os.looksAt ops) a').eval (.tmp qx) = .pointer (some p') := by
      show (cutAct (os.looksAt ops) a').tmps.getD qx undef = _
      rw [cutAct_get, if_pos hqx, hp']
    revert e
    generalize (cutAct (os.looksAt ops) a').eval = ρ
    intro e
    obtain ⟨dst, op, type, pos, after, guard⟩ := os
    dsimp only at hop
    subst hop
    show Only V.P B (do Instr.storeAt t (ρ (.tmp qx)) (ρ y); pure Next.skip : Sem Next)
    rw [e]
    exact Only.bind (only_storeAt hpB) fun _ => trivial
  obtain ⟨z, w2, q1, q2⟩ := Only.run hsr honly hW hr'
  rw [← exec_agree hag2 hns] at q1
  have e := store_skip hop q1
  subst e
  exact ⟨w2, B, p.block, q1, q2, by rw [hp]; rfl, hβ⟩

/-- One more of the first operations, in the second run, behind the store. -/
theorem blind_B (hG : V.P.globals.size ≤ 1) (hE : ∀ t, V.E t = true → EqOk V.P t) (tr : Trace V f ops n0 a0 ws ah av pw qw xs) (hap : Apart ops n0) (ha0 : AR (V.TT f) β0 a0 a0') (hw0 : W β0 ws w0') (hdi : Dist (V.BX f) ah (pw n0)) {os : Oper} {t : TypeId} {qx : Nat} {y : Operand} (hop : os.op = .store t (.tmp qx) y) (hoks : okOp2 V.P (V.TT f) V.E os = true)
    {w1 : World} (hr : (execOp ah.eval os).run V.P (pw n0) = .ok .skip w1) {i : Nat} {o : Oper} (hi : i < n0) (ho : ops[i]? = some o) (hok : okOp2 V.P (V.TT f) V.E o = true) (hbl : Blind V f ops n0 os qx o) {listed : Array Bool} (hsz : listed.size = ops.size) (hdown : Down ops listed)
    (hun : listed.getD i false = false) (hed : ∀ e ∈ o.after, Region.binds .any e = true → listed.getD e.on false = true) {a' : Act} {w' w2 : World} {β : Rel} (hI : InvB V f ops n0 ah pw qw β0 a0' w0' listed a' w' β)
    (hl : ∀ t ∈ os.looksAt ops, ∀ (j : Nat) oj, j < n0 → ops[j]? = some oj → oj.dst = some t → listed.getD j false = true) (hst : (execOp a'.eval os).run V.P w' = .ok .skip w2) {Q : Exit → Act → World → Prop} :
    wpOp V.P ops Q i (fun a1 wl => wl = w2 ∧ (∃ β2, InvB V f ops n0 ah pw qw β0 a0' w0' (listed.setIfInBounds i true) a1 w' β2) ∧ (execOp a1.eval os).run V.P w' = .ok .skip w2) a' w2 := by
  obtain ⟨w2', B, b0, s1, s2, s3, s4⟩ := store_B hG hE tr hap ha0 hop hoks hr hI hl
  rw [hst] at s1
  cases s1
  have hWn := hI.w n0 (Nat.le_refl _)
  have har := look_B tr hap ha0 hw0 hi ho hdown hun hed hI
  have hag1 : Agree ops o (cutAct (o.looksAt ops) (av i)) (av i) := ⟨cutAct_size, fun t ht => by rw [cutAct_get, if_pos ht]⟩
  have hag2 : Agree ops o a' (cutAct (o.looksAt ops) a') := ⟨cutAct_size.symm, fun t ht => by rw [cutAct_get, if_pos ht]⟩
  have hns := ok_nosel hok
  have hnss := ok_nosel hoks
  have hB := step_B tr hap ha0 hw0 hi ho hsz hdown hun hed hI (Q := fun _ _ _ => False)
  have hput : ∀ x, (execOp (a'.put o.dst x).eval os).run V.P w' = .ok .skip w2 := by
    intro x
    rw [exec_agree (b := a') (ops := ops) ?_ hnss]
    · exact hst
    · refine ⟨by cases o.dst <;> simp [Act.put], fun t ht => ?_⟩
      rcases put_getD (a := a') (d := o.dst) (x := x) t with e | ⟨e, _⟩
      · exact e
      · exact absurd e (hbl.dst t ht)
  have hwan : Region.wanted o (yielded ops a'.tmps) = Region.wanted o (yielded ops (av i).tmps) := by rw [wanted_agree hag2, wanted_alike har, wanted_agree hag1]
  unfold wpOp at hB ⊢
  simp only [ho] at hB ⊢
  rcases tr.ran i o hi ho hbl.call with ⟨hwa, n, hrn, hn⟩ | ⟨hwa, hx, hq⟩
  · rw [← hwan] at hwa
    simp only [hwa, if_true] at hB ⊢
    have hrn' : (execOp (cutAct (o.looksAt ops) (av i)).eval o).run V.P (pw i) = .ok n (qw i) := by rw [exec_agree hag1 hns]; exact hrn
    have haw : Away V.P B (execOp (cutAct (o.looksAt ops) a').eval o) := by
      refine blind_away hok hbl.blind har fun t x hox hc => ?_
      rw [cutAct_get] at hc
      split at hc
      · have hbo := hbl.blind
        simp only [blindOp, hox, Bool.and_eq_true, bne_iff_ne, ne_eq] at hbo
        have hv := (slot_B tr hap ha0 hI (t := x) fun j oj hj hoj hd => by
          obtain ⟨e, he, hb, hon⟩ := hbl.loads t x hox j oj hj hoj hd
          rw [← hon]
          exact hed e he hb).1
        obtain ⟨b, hb1, hb2⟩ := val_blk' hv hc
        exact hdi.2 x qx hbo.1.1 hbo.2 hbo.1.2 b b0 hb1 s3 (hWn.inj b b0 B hb2 s4)
      · exact absurd hc (by simp [undef, blk])
    obtain ⟨_, z, r1, r2, r3⟩ := Away.run (SR.exec2 hG hE hok har) haw (hI.w i (Nat.le_of_lt hi)) s2 hrn'
    rw [← exec_agree hag2 hns] at r1 r2
    rcases hB with hB | ⟨_, hh⟩
    · refine .inl ?_
      unfold Oper.wp at hB ⊢
      rw [r1] at hB
      rw [r2]
      rcases hn with rfl | ⟨rfl, _⟩
      · cases z <;> first | (exfalso; simp [nxt2] at r3; done) | skip
        exact ⟨rfl, hB, hput _⟩
      · cases z <;> first | (exfalso; simp [nxt2] at r3; done) | skip
        exact ⟨rfl, hB, hput _⟩
    · obtain ⟨_, _, hh⟩ := hh
      exact hh.elim
  · rw [← hwan] at hwa
    simp only [hwa, if_false] at hB ⊢
    exact ⟨trivial, hB, hput _⟩
end

section
variable {V : Env} {dr : FuncId → Array Oper → Bool} {v : Value} {w0 : World} {N : Nat}

/-- The first run goes through the head in the order of the text. -/
theorem head_A2 (hv : Given V dr) (ih : ∀ M, M < N → At V dr v w0 M) {ops : Array Oper} {n0 : Nat} (hle : n0 ≤ ops.size) (hlow : ∀ (i : Nat) (o : Oper), ops[i]? = some o → ∀ e ∈ o.after, Region.binds .any e = true → e.on < i) (hap : Apart ops n0) (hhead : ∀ (i : Nat) o, i < n0 → ops[i]? = some o → headOk V o = true) {b : Frame} {k : List Item} {cs : List Frame} (hg : Good V.P cs) (hcs : cs ≠ [])
    (hops : ∀ (i : Nat) o, ops[i]? = some o → okOp2 V.P (V.TT b.fn) V.E o = true ∧ okDst V b.fn o = true ∧ okKeeps V b.fn o = true) {a0 : Act} {ws : World} :
    ∀ (m j : Nat) (a : Act) (w : World) (av : Nat → Act) (pw qw : Nat → World) (xs : Nat → Value) (M : Nat), j + m = n0 → PT V b.fn ops n0 a0 ws (upto ops.size j) a w av pw qw xs → Mate V b.fn a w → M ≤ N →
      Ends V.P v w0 M (lone (b.at a (.inRegion ops (List.range' j (ops.size - j)) :: k)) cs w) →
      ∃ ah wh av pw qw xs K, K ≤ M ∧ PT V b.fn ops n0 a0 ws (upto ops.size n0) ah wh av pw qw xs ∧ Mate V b.fn ah wh ∧ Ends V.P v w0 K (lone (b.at ah (.inRegion ops (List.range' n0 (ops.size - n0)) :: k)) cs wh)
  | 0, j, a, w, av, pw, qw, xs, M, hj, hpt, hm, hM, h => by
    have e : j = n0 := by omega
    subst e
    exact ⟨a, w, av, pw, qw, xs, M, Nat.le_refl _, hpt, hm, h⟩
  | m + 1, j, a, w, av, pw, qw, xs, M, hj, hpt, hm, hM, h => by
    have hjs : j < ops.size := by omega
    have hjn : j < n0 := by omega
    obtain ⟨o, ho⟩ : ∃ o, ops[j]? = some o := ⟨ops[j], by simp [hjs]⟩
    have hge : ∀ i, i < ops.size → (upto ops.size j).getD i false = decide (i < j) := by
      intro i hi
      rw [Array.getD_eq_getD_getElem?, upto_get _ _ i (by omega) hi]
      rfl
    have hdown : Down ops (upto ops.size j) := by
      intro i oi hoi hl e he hb
      have hi := (Array.getElem?_eq_some_iff.1 hoi).1
      rw [hge i hi] at hl
      have := hlow i oi hoi e he hb
      rw [hge _ (by omega)]
      simp at hl ⊢
      omega
    have e1 : List.range' j (ops.size - j) = j :: List.range' (j + 1) (ops.size - (j + 1)) := by
      have : ops.size - j = (ops.size - (j + 1)) + 1 := by omega
      rw [this, List.range'_succ]
    rw [e1] at h
    obtain ⟨x, w1, K, hK, hkp, hst, h1, hran, hm1, hop⟩ := op_gen hv ih hg hcs ho (hops j o ho) _ hm hM h
    have hpt1 := hpt.step hap hdown (upto_size (by omega)) hjn ho (by rw [hge j hjs]; simp) (fun e he hb => by
      have := hlow j o ho e he hb
      rw [hge _ (by omega)]
      simpa using this) hkp (hst (hhead j o hjn ho)) hop hran
    rw [upto_succ hjs] at hpt1
    obtain ⟨ah, wh, av2, pw2, qw2, xs2, K2, q1, q2, q3, q4⟩ := head_A2 hv ih hle hlow hap hhead hg hcs hops m (j + 1) _ w1 _ _ _ _ K (by omega) hpt1 hm1 (by omega) h1
    exact ⟨ah, wh, av2, pw2, qw2, xs2, K2, by omega, q2, q3, q4⟩
end
end Go.Tw
