/-
  One run of one text, its answers drawn as zero: what lies in memory is of its kind, and stays so.
-/
import Derived.Test.YgcoaaGreatTwC
set_option linter.unusedVariables false
set_option linter.unusedSimpArgs false
namespace Go.Sf

/-- What is known of a value without parts. -/
abbrev Flat := (IntKind × Int × Int) ⊕ Unit ⊕ Option Bool ⊕ Nat ⊕ FloatKind ⊕ Unit ⊕ Unit ⊕ Unit ⊕ Unit
/-- What stands over one part. -/
abbrev Over := Unit ⊕ (Nat × Nat) ⊕ Unit ⊕ Unit
/-- What is known of a value. -/
structure D where
  o : Flat ⊕ (Over × D) ⊕ (D × D)
abbrev D.int (k : IntKind) (lo hi : Int) : D := (.mk (.inl (.inl (k, lo, hi))))
abbrev D.bool (o : Option Bool) : D := (.mk (.inl (.inr (.inr (.inl o)))))
abbrev D.str (n : Nat) : D := (.mk (.inl (.inr (.inr (.inr (.inl n))))))
abbrev D.flt (k : FloatKind) : D := (.mk (.inl (.inr (.inr (.inr (.inr (.inl k)))))))
abbrev D.ptr (l : D) : D := (.mk (.inr (.inl (.inl (), l))))
abbrev D.nilp : D := (.mk (.inl (.inr (.inr (.inr (.inr (.inr (.inl ()))))))))
abbrev D.slc (sz : Nat) (d : D) (n : Nat) : D := (.mk (.inr (.inl (.inr (.inl (sz, n)), d))))
abbrev D.nils : D := (.mk (.inl (.inr (.inr (.inr (.inr (.inr (.inr (.inl ())))))))))
abbrev D.agg (l : D) : D := (.mk (.inr (.inl (.inr (.inr (.inl ())), l))))
abbrev D.tup (l : D) : D := (.mk (.inr (.inl (.inr (.inr (.inr ())), l))))
abbrev D.und : D := (.mk (.inl (.inr (.inr (.inr (.inr (.inr (.inr (.inr (.inl ()))))))))))
abbrev D.any : D := (.mk (.inl (.inr (.inr (.inr (.inr (.inr (.inr (.inr (.inr (())))))))))))
abbrev D.nil : D := (.mk (.inl (.inr (.inl ()))))
abbrev D.cons (h t : D) : D := (.mk (.inr (.inr (h, t))))
theorem D.cs {motive : D → Prop} (d : D) (int : ∀ (k : IntKind) (lo hi : Int), motive (D.int k lo hi)) (bool : ∀ (o : Option Bool), motive (D.bool o)) (str : ∀ (n : Nat), motive (D.str n)) (flt : ∀ (k : FloatKind), motive (D.flt k)) (ptr : ∀ (l : D), motive (D.ptr l)) (nilp : motive (D.nilp)) (slc : ∀ (sz : Nat) (d : D) (n : Nat), motive (D.slc sz d n)) (nils : motive (D.nils)) (agg : ∀ (l : D), motive (D.agg l)) (tup : ∀ (l : D), motive (D.tup l)) (und : motive (D.und)) (any : motive (D.any)) (nil : motive (D.nil)) (cons : ∀ (h t : D), motive (D.cons h t)) : motive d :=
  match d with
  | (.mk (.inl (.inl (k, lo, hi)))) => int k lo hi
  | (.mk (.inl (.inr (.inr (.inl o))))) => bool o
  | (.mk (.inl (.inr (.inr (.inr (.inl n)))))) => str n
  | (.mk (.inl (.inr (.inr (.inr (.inr (.inl k))))))) => flt k
  | (.mk (.inr (.inl (.inl (), l)))) => ptr l
  | (.mk (.inl (.inr (.inr (.inr (.inr (.inr (.inl ())))))))) => nilp
  | (.mk (.inr (.inl (.inr (.inl (sz, n)), d)))) => slc sz d n
  | (.mk (.inl (.inr (.inr (.inr (.inr (.inr (.inr (.inl ()))))))))) => nils
  | (.mk (.inr (.inl (.inr (.inr (.inl ())), l)))) => agg l
  | (.mk (.inr (.inl (.inr (.inr (.inr ())), l)))) => tup l
  | (.mk (.inl (.inr (.inr (.inr (.inr (.inr (.inr (.inr (.inl ())))))))))) => und
  | (.mk (.inl (.inr (.inr (.inr (.inr (.inr (.inr (.inr (.inr (()))))))))))) => any
  | (.mk (.inl (.inr (.inl ())))) => nil
  | (.mk (.inr (.inr (h, t)))) => cons h t

def D.at : D → Nat → Option D
  | (.mk (.inr (.inr (h, _)))), 0 => some h
  | (.mk (.inr (.inr (_, t)))), n + 1 => t.at n
  | _, _ => none
def D.len : D → Nat
  | (.mk (.inr (.inr (_, t)))) => t.len + 1
  | _ => 0

/-- Which cells are spoken of. -/
abbrev Gam := Nat → Nat → Option D

def fw : FloatKind → Nat
  | .f32 => 32
  | .f64 => 64

def cel (Γ : Gam) : D → Value → Prop
  | (.mk (.inl (.inl (k, lo, hi)))), v => ∃ n, v = .int k n ∧ lo ≤ n ∧ n ≤ hi
  | (.mk (.inl (.inr (.inr (.inl o))))), v => ∃ b, v = .bool b ∧ ∀ c, o = some c → b = c
  | (.mk (.inl (.inr (.inr (.inr (.inl n)))))), v => ∃ s, v = .string s ∧ s.size ≤ n
  | (.mk (.inl (.inr (.inr (.inr (.inr (.inl k))))))), v => ∃ x, v = .float k x ∧ x < 2 ^ fw k
  | (.mk (.inr (.inl (.inl (), l)))), v => ∃ a, v = .pointer (some a) ∧ a.spot = none ∧ ∀ j d, l.at j = some d → Γ a.block (a.off + j) = some d
  | (.mk (.inl (.inr (.inr (.inr (.inr (.inr (.inl ())))))))), v => v = .pointer none
  | (.mk (.inr (.inl (.inr (.inl (sz, n)), d)))), v => ∃ a len cap, v = .slice a len cap ∧ len ≤ n ∧ len ≤ cap ∧ (a = none → cap = 0) ∧
      ∀ a', a = some a' → a'.spot = none ∧ ∀ j, j < cap * sz → Γ a'.block (a'.off + j) = some d
  | (.mk (.inl (.inr (.inr (.inr (.inr (.inr (.inr (.inl ()))))))))), v => v = .slice none 0 0
  | _, _ => False

def cells (Γ : Gam) (l : D) (xs : Array Value) : Prop := xs.size = l.len ∧ ∀ j d, l.at j = some d → ∃ x, xs[j]? = some x ∧ cel Γ d x

def one (Γ : Gam) : D → Value → Prop
  | (.mk (.inr (.inl (.inr (.inr (.inl ())), l)))), v => ∃ xs, v = .agg xs ∧ cells Γ l xs
  | d, v => cel Γ d v

def val (Γ : Gam) : D → Value → Prop
  | (.mk (.inr (.inl (.inr (.inr (.inr ())), l)))), v => ∃ xs, v = .tuple xs ∧ xs.size = l.len ∧ ∀ j d, l.at j = some d → ∃ x, xs[j]? = some x ∧ one Γ d x
  | (.mk (.inl (.inr (.inr (.inr (.inr (.inr (.inr (.inr (.inr (()))))))))))), _ => True
  | (.mk (.inl (.inr (.inr (.inr (.inr (.inr (.inr (.inr (.inl ())))))))))), v => v = undef
  | d, v => one Γ d v

def Le (Γ Γ' : Gam) : Prop := ∀ b o d, Γ b o = some d → Γ' b o = some d
theorem Le.refl (Γ : Gam) : Le Γ Γ := fun _ _ _ h => h
theorem Le.trans {Γ Γ' Γ'' : Gam} (h : Le Γ Γ') (h' : Le Γ' Γ'') : Le Γ Γ'' := fun b o d x => h' b o d (h b o d x)

theorem cel.mono {Γ Γ' : Gam} (h : Le Γ Γ') {d : D} {v : Value} (x : cel Γ d v) : cel Γ' d v := by
  cases d using D.cs <;> first | exact x | skip
  · obtain ⟨a, e, s, p⟩ := x
    exact ⟨a, e, s, fun j d hd => h _ _ _ (p j d hd)⟩
  · obtain ⟨a, len, cap, e, h1, h2, h3, p⟩ := x
    exact ⟨a, len, cap, e, h1, h2, h3, fun a' ha => ⟨(p a' ha).1, fun j hj => h _ _ _ ((p a' ha).2 j hj)⟩⟩
theorem cells.mono {Γ Γ' : Gam} (h : Le Γ Γ') {l : D} {xs : Array Value} (x : cells Γ l xs) : cells Γ' l xs :=
  ⟨x.1, fun j d hd => let ⟨v, hv, hc⟩ := x.2 j d hd; ⟨v, hv, hc.mono h⟩⟩
theorem one.mono {Γ Γ' : Gam} (h : Le Γ Γ') {d : D} {v : Value} (x : one Γ d v) : one Γ' d v := by
  cases d using D.cs <;> first | (simp only [one] at x ⊢; exact cel.mono h x) | skip
  obtain ⟨xs, e, p⟩ := x
  exact ⟨xs, e, p.mono h⟩
theorem val.mono {Γ Γ' : Gam} (h : Le Γ Γ') {d : D} {v : Value} (x : val Γ d v) : val Γ' d v := by
  cases d using D.cs <;> first | exact one.mono (d := .agg _) h x | (simp only [val] at x ⊢; exact one.mono h x) | skip
  · obtain ⟨xs, e, hl, p⟩ := x
    exact ⟨xs, e, hl, fun j d hd => let ⟨v, hv, hc⟩ := p j d hd; ⟨v, hv, hc.mono h⟩⟩
  · exact x
  · exact trivial

/-- Memory is as it is spoken of; what is drawn is zero. -/
structure Wt (Γ : Gam) (w : World) : Prop where
  cell : ∀ b o d, Γ b o = some d → ∃ cs e fz v, w.heap[b]? = some (.cells cs e fz) ∧ cs[o]? = some v ∧ ¬ (fz.1 ≤ o ∧ o < fz.2) ∧ cel Γ d v
  tape : w.tape = fun _ _ => 0

/-- What a step leaves. -/
structure Ex (Γ : Gam) (w : World) (Γ' : Gam) (w' : World) : Prop where
  le : Le Γ Γ'
  wt : Wt Γ' w'
  size : w.heap.size ≤ w'.heap.size
  new : ∀ b o d, Γ' b o = some d → Γ b o = some d ∨ w.heap.size ≤ b
  old : ∀ b, b < w.heap.size → (∀ o, Γ b o = none) → w'.heap[b]? = w.heap[b]?

theorem Ex.refl {Γ : Gam} {w : World} (h : Wt Γ w) : Ex Γ w Γ w := ⟨Le.refl _, h, Nat.le_refl _, fun _ _ _ x => .inl x, fun _ _ _ => rfl⟩
theorem Ex.trans {Γ Γ' Γ'' : Gam} {w w' w'' : World} (h : Ex Γ w Γ' w') (h' : Ex Γ' w' Γ'' w'') : Ex Γ w Γ'' w'' where
  le := h.le.trans h'.le
  wt := h'.wt
  size := Nat.le_trans h.size h'.size
  new b o d x := by
    rcases h'.new b o d x with y | y
    · exact h.new b o d y
    · exact .inr (Nat.le_trans h.size y)
  old b hb hn := by
    rw [h'.old b (Nat.lt_of_lt_of_le hb h.size) fun o => ?_, h.old b hb hn]
    cases hg : Γ' b o with
    | none => rfl
    | some d =>
      rcases h.new b o d hg with y | y
      · rw [hn o] at y; cases y
      · omega

/-- A tree that comes to its end. -/
def US (P : Program) {α : Type} (R : Gam → α → Prop) : Gam → Sem α → Prop
  | Γ, .pure a => R Γ a
  | Γ, .load _ a k => a.spot = none ∧ ∃ d, Γ a.block a.off = some d ∧ ∀ v, cel Γ d v → US P R Γ (k v)
  | Γ, .store _ a v k => a.spot = none ∧ (∃ d, Γ a.block a.off = some d ∧ cel Γ d v) ∧ US P R Γ k
  | Γ, .new o k => ∃ (cs : Array Value) (e : TypeId) (f : Nat → Option D), o = .cells cs e (0, 0) ∧ (∀ j d, f j = some d → ∃ v, cs[j]? = some v ∧ cel Γ d v) ∧
      ∀ (Γ' : Gam) (r : Nat), Le Γ Γ' → (∀ j d, f j = some d → Γ' r j = some d) → US P R Γ' (k r)
  | Γ, .frozen _ k => ∀ b, US P R Γ (k b)
  | Γ, .shape _ k => ∀ s, US P R Γ (k s)
  | Γ, .choose q k => US P R Γ (k (if q.forced then 0 else q.cut 0))
  | Γ, .program k => US P R Γ (k P)
  | Γ, .mark _ k => US P R Γ k
  | _, _ => False

theorem cel_store {Γ : Gam} {d : D} {v : Value} (h : cel Γ d v) : (∀ xs, v ≠ .agg xs) ∧ (∀ xs, v ≠ .tuple xs) := by
  cases v <;> first
    | exact ⟨fun _ => Value.noConfusion, fun _ => Value.noConfusion⟩
    | (exfalso; cases d using D.cs <;> simp [cel] at h; done)

theorem US.bind {P : Program} {α γ : Type} {S : Gam → α → Prop} {R : Gam → γ → Prop} {s : Sem α} {f : α → Sem γ} : ∀ {Γ : Gam}, US P S Γ s →
    (∀ (Γ' : Gam) a, Le Γ Γ' → S Γ' a → US P R Γ' (f a)) → US P R Γ (s.bind f) := by
  induction s with
  | pure a => intro Γ h hf; exact hf Γ a (Le.refl _) h
  | load m a k ih => intro Γ h hf; obtain ⟨h1, d, h2, h3⟩ := h; exact ⟨h1, d, h2, fun v hv => ih v (h3 v hv) hf⟩
  | store m a v k ih => intro Γ h hf; exact ⟨h.1, h.2.1, ih h.2.2 hf⟩
  | new o k ih =>
    intro Γ h hf
    obtain ⟨cs, e, f', h1, h2, h3⟩ := h
    exact ⟨cs, e, f', h1, h2, fun Γ' r hl hr => ih r (h3 Γ' r hl hr) fun Γ'' a hl' ha => hf Γ'' a (hl.trans hl') ha⟩
  | shape r k ih => intro Γ h hf; exact fun s => ih s (h s) hf
  | freeze a n k ih => intro Γ h; exact h.elim
  | frozen a k ih => intro Γ h hf; exact fun s => ih s (h s) hf
  | getObj r k ih => intro Γ h; exact h.elim
  | setObj r o k ih => intro Γ h; exact h.elim
  | choose q k ih => intro Γ h hf; exact ih _ h hf
  | sys c k ih => intro Γ h; exact h.elim
  | program k ih => intro Γ h hf; exact ih P h hf
  | mark m k ih => intro Γ h hf; exact ih h hf
  | halt h => intro Γ h; exact h.elim

theorem Wt.heap {Γ : Gam} {w w' : World} (h : Wt Γ w) (e : w'.heap = w.heap) (e' : w'.tape = w.tape) : Wt Γ w' :=
  ⟨by rw [e]; exact h.cell, by rw [e']; exact h.tape⟩

theorem US.run {P : Program} {α : Type} {R : Gam → α → Prop} {s : Sem α} : ∀ {Γ : Gam} {w : World}, US P R Γ s → Wt Γ w →
    ∃ a w' Γ', s.run P w = .ok a w' ∧ Ex Γ w Γ' w' ∧ R Γ' a := by
  induction s with
  | pure a => intro Γ w h hw; exact ⟨a, w, Γ, rfl, Ex.refl hw, h⟩
  | load m a k ih =>
    intro Γ w h hw
    obtain ⟨h1, d, h2, h3⟩ := h
    obtain ⟨cs, e, fz, v, q1, q2, q3, q4⟩ := hw.cell _ _ _ h2
    have hc : w.cell? a = some v := by simp [World.cell?, q1, h1, q2]
    simp only [Sem.run, hc]
    exact ih v (h3 v q4) hw
  | store m a v k ih =>
    intro Γ w h hw
    obtain ⟨h1, ⟨d, h2, h2'⟩, h3⟩ := h
    obtain ⟨cs, e, fz, x, q1, q2, q3, q4⟩ := hw.cell _ _ _ h2
    have hc : w.cell? a = some x := by simp [World.cell?, q1, h1, q2]
    have hf : w.frozen? a = false := by
      simp only [World.frozen?, q1, Bool.and_eq_false_iff, decide_eq_false_iff_not]
      by_cases c1 : fz.1 ≤ a.off
      · exact .inr fun c2 => q3 ⟨c1, c2⟩
      · exact .inl c1
    have hb : a.block < w.heap.size := (Array.getElem?_eq_some_iff.1 q1).1
    have ho : a.off < cs.size := (Array.getElem?_eq_some_iff.1 q2).1
    have hn : (w.setCell a v).heap[a.block]? = some (.cells (cs.setIfInBounds a.off v) e fz) := by
      simp [World.setCell, Array.getElem?_modify, q1, h1]
    have ho' : ∀ b, b ≠ a.block → (w.setCell a v).heap[b]? = w.heap[b]? := by
      intro b hne
      simp [World.setCell, Array.getElem?_modify, Ne.symm hne]
    have hsz : (w.setCell a v).heap.size = w.heap.size := by simp [World.setCell]
    have hw' : Wt Γ (w.setCell a v) := by
      refine ⟨fun b o d' hd => ?_, hw.tape⟩
      obtain ⟨cs', e', fz', x', r1, r2, r3, r4⟩ := hw.cell b o d' hd
      by_cases hbb : b = a.block
      · subst hbb
        rw [q1] at r1
        cases r1
        by_cases hoo : o = a.off
        · subst hoo
          rw [h2] at hd
          cases hd
          exact ⟨_, _, _, v, hn, by simp [ho], r3, h2'⟩
        · exact ⟨_, _, _, x', hn, by simp [Array.getElem?_setIfInBounds, Ne.symm hoo, r2], r3, r4⟩
      · exact ⟨cs', e', fz', x', by rw [ho' b hbb]; exact r1, r2, r3, r4⟩
    obtain ⟨b, w', Γ', g1, g2, g3⟩ := ih h3 hw'
    refine ⟨b, w', Γ', ?_, ⟨g2.le, g2.wt, by have := g2.size; omega, fun b' o d' hd => by have := g2.new b' o d' hd; rw [hsz] at this; exact this, fun b' hb' hnn => ?_⟩, g3⟩
    · have hs := cel_store h2'
      cases v <;> first
        | (simp only [Sem.run, hc, hf]; exact g1)
        | exact absurd rfl (hs.1 _)
        | exact absurd rfl (hs.2 _)
    · rw [g2.old b' (by rw [hsz]; exact hb') hnn]
      refine ho' b' fun e => ?_
      subst e
      rw [hnn a.off] at h2
      cases h2
  | new o k ih =>
    intro Γ w h hw
    obtain ⟨cs, e, f, rfl, h2, h3⟩ := h
    let Γ' : Gam := fun b o => if b = w.heap.size then f o else Γ b o
    have hlt : ∀ b o d, Γ b o = some d → b < w.heap.size := by
      intro b o d hd
      obtain ⟨cs, e, fz, v, q1, _⟩ := hw.cell b o d hd
      exact (Array.getElem?_eq_some_iff.1 q1).1
    have hle : Le Γ Γ' := by
      intro b o d hd
      have := hlt b o d hd
      have hne : b ≠ w.heap.size := by omega
      simp only [Γ', if_neg hne]
      exact hd
    have hw' : Wt Γ' { w with heap := w.heap.push (.cells cs e (0, 0)) } := by
      refine ⟨fun b o d hd => ?_, hw.tape⟩
      by_cases hb : b = w.heap.size
      · subst hb
        simp only [Γ', if_true] at hd
        obtain ⟨v, hv, hc⟩ := h2 o d hd
        exact ⟨cs, e, (0, 0), v, by simp, hv, by simp, hc.mono hle⟩
      · simp only [Γ', if_neg hb] at hd
        obtain ⟨cs', e', fz, v, q1, q2, q3, q4⟩ := hw.cell b o d hd
        refine ⟨cs', e', fz, v, ?_, q2, q3, q4.mono hle⟩
        have := hlt b o d hd
        simp [Array.getElem?_push, hb, q1]
    obtain ⟨a, w', Γ'', g1, g2, g3⟩ := ih w.heap.size (h3 Γ' w.heap.size hle fun j d hj => by simp only [Γ', if_true]; exact hj) hw'
    refine ⟨a, w', Γ'', g1, ⟨hle.trans g2.le, g2.wt, by have := g2.size; simp at this; omega, fun b o d hd => ?_, fun b hb hn => ?_⟩, g3⟩
    · rcases g2.new b o d hd with y | y
      · by_cases hb : b = w.heap.size
        · exact .inr (by omega)
        · simp only [Γ', if_neg hb] at y
          exact .inl y
      · simp at y
        exact .inr (by omega)
    · have hne : b ≠ w.heap.size := by omega
      rw [g2.old b (by simp; omega) fun o => by simp only [Γ', if_neg hne]; exact hn o]
      simp [Array.getElem?_push, hne]
  | shape r k ih => intro Γ w h hw; exact ih _ (h _) hw
  | freeze a n k ih => intro Γ w h; exact h.elim
  | frozen a k ih => intro Γ w h hw; exact ih _ (h _) hw
  | getObj r k ih => intro Γ w h; exact h.elim
  | setObj r o k ih => intro Γ w h; exact h.elim
  | choose q k ih =>
    intro Γ w h hw
    simp only [Sem.run]
    have h' : US P R Γ (k (if q.forced then 0 else q.cut 0)) := h
    by_cases hq : q.forced = true
    · rw [if_pos hq] at h'
      rw [if_pos hq]
      exact ih _ h' hw
    · rw [if_neg hq] at h'
      have ht : w.tape w.drawn q = 0 := by rw [hw.tape]
      rw [if_neg hq, ht]
      obtain ⟨a, w', Γ', g1, g2, g3⟩ := ih _ h' (w := { w with drawn := w.drawn + 1 }) (hw.heap rfl rfl)
      exact ⟨a, w', Γ', g1, ⟨g2.le, g2.wt, g2.size, g2.new, g2.old⟩, g3⟩
  | sys c k ih => intro Γ w h; exact h.elim
  | program k ih => intro Γ w h hw; exact ih P h hw
  | mark m k ih => intro Γ w h hw; exact ih h hw
  | halt h => intro Γ w h; exact h.elim
end Go.Sf
