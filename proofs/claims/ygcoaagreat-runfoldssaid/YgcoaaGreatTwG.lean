/-
  Two runs of one text: conversions, builtins, what is built.
-/
import Derived.Test.YgcoaaGreatTwF
set_option linter.unusedVariables false
set_option linter.unusedSimpArgs false
namespace Go.Tw
section
variable {st : Bool} {P : Program} {β : Rel}

theorem SR.asInt {v v' : Value} (h : one β v v') {γ : Type} {R : Rel → γ → γ → Prop} {f g : Int → Sem γ} (hf : ∀ n, SR st P R β (f n) (g n)) : SR st P R β (Go.asInt v >>= f) (Go.asInt v' >>= g) := by
  have e : ∀ (v : Value) (f : Int → Sem γ), (Go.asInt v >>= f) = (asIntOf v >>= fun p => f p.2) := fun v f => bind_bind _ _ _
  rw [e, e]
  exact SR.int h fun k n _ => hf n

theorem SR.bytesLoop {m : String} : ∀ {xs ys : List Value} (s : ByteArray), cels β xs ys →
    SR st P (fun _ a b => a = b) β (forIn xs s fun c s => (match c with | .int .u8 n => pure (.yield (s.push (UInt8.ofNat n.toNat))) | _ => do stuck m; pure (.yield s) : Sem (ForInStep ByteArray)))
      (forIn ys s fun c s => (match c with | .int .u8 n => pure (.yield (s.push (UInt8.ofNat n.toNat))) | _ => do stuck m; pure (.yield s) : Sem (ForInStep ByteArray)))
  | [], [], s, _ => rfl
  | [], y :: ys, s, h => h.elim
  | x :: xs, [], s, h => h.elim
  | x :: xs, y :: ys, s, h => by
    rw [List.forIn_cons, List.forIn_cons]
    rcases one_kinds (cel.one h.1) with ⟨b, rfl, rfl⟩ | ⟨k, n, rfl, rfl⟩ | ⟨s, rfl, rfl⟩ | ⟨a, a', rfl, rfl, ha⟩ | ⟨a, a', n, c, rfl, rfl, ha⟩ | ⟨f, rfl, rfl⟩ | ⟨rfl, rfl⟩ | ⟨a, a', rfl, rfl, ha⟩
    all_goals first
      | exact SR.dead rfl rfl
      | (cases k <;> first | exact SR.dead rfl rfl | exact SR.bytesLoop _ h.2)

theorem SR.bytesToString {x x' : Value} (h : one β x x') : SR st P one β (Conv.bytesToString x) (Conv.bytesToString x') := by
  rcases one_kinds h with ⟨b, rfl, rfl⟩ | ⟨k, n, rfl, rfl⟩ | ⟨s, rfl, rfl⟩ | ⟨a, a', rfl, rfl, ha⟩ | ⟨a, a', n, c, rfl, rfl, ha⟩ | ⟨f, rfl, rfl⟩ | ⟨rfl, rfl⟩ | ⟨a, a', rfl, rfl, ha⟩
  all_goals first | exact SR.dead rfl rfl | skip
  cases a <;> cases a' <;> first | exact ha.elim | exact rfl | skip
  refine SR.bind' (SR.loadCells n ha) fun β' xs ys hle hxs => ?_
  have q := fun m : String => SR.bytesLoop (m := m) (st := st) (P := P) ByteArray.empty (cels_of (xs := xs.toList) (ys := ys.toList) (by simpa using hxs))
  rw [← Array.forIn_toList, ← Array.forIn_toList]
  refine SR.bind' (q _) ?_
  rintro _ _ _ _ rfl
  exact rfl

theorem SR.convert {src dst : TypeId} {x x' : Value} (h : one β x x') (hd : (∃ k, P.underlying dst = some (.int k)) ∨ P.underlying dst = some .string)
    (hs : ∀ e, P.underlying src = some (.slice e) → P.underlying e = some (.int .u8)) (hu : ∀ d, P.underlying src = some d → plainKind d = true ∨ ∃ e, d = .pointer e) : SR st P one β (Go.convert src dst x) (Go.convert src dst x') := by
  refine SR.under fun d h1 => ?_
  refine SR.under fun d2 h2 => ?_
  rcases hd with ⟨k0, hd⟩ | hd
  · rw [hd] at h2
    cases h2
    rcases one_kinds h with ⟨b, rfl, rfl⟩ | ⟨k, n, rfl, rfl⟩ | ⟨s, rfl, rfl⟩ | ⟨a, a', rfl, rfl, ha⟩ | ⟨a, a', n, c, rfl, rfl, ha⟩ | ⟨f, rfl, rfl⟩ | ⟨rfl, rfl⟩ | ⟨a, a', rfl, rfl, ha⟩
    all_goals first
      | exact ⟨rfl, rfl⟩
      | (cases d <;> first | exact SR.dead rfl rfl | (refine absurd (hu _ h1) ?_; simp [plainKind]; done))
      | (cases a <;> cases a' <;> first | exact ha.elim | (cases d <;> first | exact SR.dead rfl rfl | (refine absurd (hu _ h1) ?_; simp [plainKind]; done)))
  · rw [hd] at h2
    cases h2
    rcases one_kinds h with ⟨b, rfl, rfl⟩ | ⟨k, n, rfl, rfl⟩ | ⟨s, rfl, rfl⟩ | ⟨a, a', rfl, rfl, ha⟩ | ⟨a, a', n, c, rfl, rfl, ha⟩ | ⟨f, rfl, rfl⟩ | ⟨rfl, rfl⟩ | ⟨a, a', rfl, rfl, ha⟩
    all_goals first
      | exact rfl
      | (cases d <;> first
          | exact SR.dead rfl rfl
          | (refine absurd (hu _ h1) ?_; simp [plainKind]; done)
          | (refine SR.under fun d3 h3 => ?_
             rw [hs _ h1] at h3
             cases h3
             exact SR.bytesToString h))
      | (cases a <;> cases a' <;> first
          | exact ha.elim
          | (cases d <;> first
              | exact SR.dead rfl rfl
              | (refine absurd (hu _ h1) ?_; simp [plainKind]; done)
              | (refine SR.under fun d3 h3 => ?_
                 rw [hs _ h1] at h3
                 cases h3
                 exact SR.bytesToString h)))

theorem SR.max2 {x x' y y' : Value} (hx : one β x x') (hy : one β y y') : SR st P one β (Builtin.max2 x y) (Builtin.max2 x' y') := by
  rcases one_kinds hx with ⟨b, rfl, rfl⟩ | ⟨k, n, rfl, rfl⟩ | ⟨s, rfl, rfl⟩ | ⟨a, a', rfl, rfl, ha⟩ | ⟨a, a', n, c, rfl, rfl, ha⟩ | ⟨f, rfl, rfl⟩ | ⟨rfl, rfl⟩ | ⟨a, a', rfl, rfl, ha⟩ <;>
  rcases one_kinds hy with ⟨b2, rfl, rfl⟩ | ⟨k2, n2, rfl, rfl⟩ | ⟨s2, rfl, rfl⟩ | ⟨c2, c2', rfl, rfl, hc⟩ | ⟨c2, c2', n2, d2, rfl, rfl, hc⟩ | ⟨f2, rfl, rfl⟩ | ⟨rfl, rfl⟩ | ⟨c2, c2', rfl, rfl, hc⟩
  all_goals first
    | exact SR.dead rfl rfl
    | exact ⟨rfl, rfl⟩
    | exact rfl
    | (cases a <;> cases a' <;> first | exact ha.elim | exact SR.dead rfl rfl)
    | (cases c2 <;> cases c2' <;> first | exact hc.elim | exact SR.dead rfl rfl)
    | (cases a <;> cases a' <;> first | exact ha.elim | (cases c2 <;> cases c2' <;> first | exact hc.elim | exact SR.dead rfl rfl))

theorem SR.min2 {x x' y y' : Value} (hx : one β x x') (hy : one β y y') : SR st P one β (Builtin.min2 x y) (Builtin.min2 x' y') := by
  rcases one_kinds hx with ⟨b, rfl, rfl⟩ | ⟨k, n, rfl, rfl⟩ | ⟨s, rfl, rfl⟩ | ⟨a, a', rfl, rfl, ha⟩ | ⟨a, a', n, c, rfl, rfl, ha⟩ | ⟨f, rfl, rfl⟩ | ⟨rfl, rfl⟩ | ⟨a, a', rfl, rfl, ha⟩ <;>
  rcases one_kinds hy with ⟨b2, rfl, rfl⟩ | ⟨k2, n2, rfl, rfl⟩ | ⟨s2, rfl, rfl⟩ | ⟨c2, c2', rfl, rfl, hc⟩ | ⟨c2, c2', n2, d2, rfl, rfl, hc⟩ | ⟨f2, rfl, rfl⟩ | ⟨rfl, rfl⟩ | ⟨c2, c2', rfl, rfl, hc⟩
  all_goals first
    | exact SR.dead rfl rfl
    | exact ⟨rfl, rfl⟩
    | exact rfl
    | (cases a <;> cases a' <;> first | exact ha.elim | exact SR.dead rfl rfl)
    | (cases c2 <;> cases c2' <;> first | exact hc.elim | exact SR.dead rfl rfl)
    | (cases a <;> cases a' <;> first | exact ha.elim | (cases c2 <;> cases c2' <;> first | exact hc.elim | exact SR.dead rfl rfl))

/-- Two lists of values, alike. -/
def ones (β : Rel) : List Value → List Value → Prop
  | [], [] => True
  | x :: xs, y :: ys => one β x y ∧ ones β xs ys
  | _, _ => False

theorem ones.mono {β' : Rel} (h : Le β β') : ∀ {xs ys : List Value}, ones β xs ys → ones β' xs ys
  | [], [], _ => trivial
  | [], y :: ys, x => x.elim
  | x :: xs, [], z => z.elim
  | x :: xs, y :: ys, z => ⟨one.mono h z.1, ones.mono h z.2⟩

theorem ones_of : ∀ {xs ys : List Value}, arr (one β) xs.toArray ys.toArray → ones β xs ys
  | [], [], _ => trivial
  | [], y :: ys, h => absurd h.1 (by simp)
  | x :: xs, [], h => absurd h.1 (by simp)
  | x :: xs, y :: ys, h => ⟨h.2 0 x y (by simp) (by simp), ones_of ⟨by have := h.1; simpa using this, fun i a b ha hb => h.2 (i + 1) a b (by simpa using ha) (by simpa using hb)⟩⟩

theorem SR.fold {f : Value → Value → Sem Value} (hf : ∀ (β : Rel) x x' y y', one β x x' → one β y y' → SR st P one β (f x y) (f x' y')) : ∀ {β : Rel} {xs ys : List Value} {x x' : Value}, ones β xs ys → one β x x' → SR st P one β (xs.foldlM f x) (ys.foldlM f x')
  | β, [], [], x, x', _, hx => hx
  | β, [], y :: ys, x, x', h, _ => h.elim
  | β, x :: xs, [], _, _, h, _ => h.elim
  | β, y :: xs, y' :: ys, x, x', h, hx => by
    rw [List.foldlM_cons, List.foldlM_cons]
    exact SR.bind' (hf β x x' y y' hx h.1) fun β' z z' hl hz => SR.fold hf (ones.mono hl h.2) hz

theorem SR.max_ {ts : Array TypeId} {t : TypeId} {xs ys : Array Value} (h : arr (one β) xs ys) : SR st P one β (Builtin.max_ ts t xs) (Builtin.max_ ts t ys) := by
  have h' := ones_of (xs := xs.toList) (ys := ys.toList) (by simpa using h)
  unfold Builtin.max_
  cases hx : xs.toList <;> cases hy : ys.toList <;> rw [hx, hy] at h' <;> first | exact h'.elim | exact SR.dead rfl rfl | skip
  exact SR.fold (fun β x x' y y' a b => SR.max2 a b) h'.2 h'.1

theorem SR.min_ {ts : Array TypeId} {t : TypeId} {xs ys : Array Value} (h : arr (one β) xs ys) : SR st P one β (Builtin.min_ ts t xs) (Builtin.min_ ts t ys) := by
  have h' := ones_of (xs := xs.toList) (ys := ys.toList) (by simpa using h)
  unfold Builtin.min_
  cases hx : xs.toList <;> cases hy : ys.toList <;> rw [hx, hy] at h' <;> first | exact h'.elim | exact SR.dead rfl rfl | skip
  exact SR.fold (fun β x x' y y' a b => SR.min2 a b) h'.2 h'.1

theorem SR.len_ {ts : Array TypeId} {t : TypeId} {xs ys : Array Value} (h : arr (one β) xs ys) : SR st P one β (Builtin.len_ ts t xs) (Builtin.len_ ts t ys) := by
  unfold Builtin.len_
  cases ht : ts[0]? with
  | none => exact SR.dead rfl rfl
  | some t0 =>
    cases hx : xs[0]? with
    | none => exact SR.dead rfl rfl
    | some x =>
      obtain ⟨y, hy, hxy⟩ := arr.get h hx
      rw [hy]
      refine SR.under fun d hd => ?_
      rcases one_kinds hxy with ⟨b, rfl, rfl⟩ | ⟨k, n, rfl, rfl⟩ | ⟨s, rfl, rfl⟩ | ⟨a, a', rfl, rfl, ha⟩ | ⟨a, a', n, c, rfl, rfl, ha⟩ | ⟨f, rfl, rfl⟩ | ⟨rfl, rfl⟩ | ⟨a, a', rfl, rfl, ha⟩
      all_goals
        cases d <;> first
          | exact SR.dead rfl rfl
          | exact ⟨rfl, rfl⟩
          | (refine SR.under fun d2 hd2 => ?_; cases d2 <;> first | exact SR.dead rfl rfl | exact ⟨rfl, rfl⟩)

theorem arr_self {xs : Array Value} (h : ∀ (i : Nat) x, xs[i]? = some x → shut1 x = true) : arr (cel β) xs xs :=
  ⟨rfl, fun i x y hx hy => by rw [hx] at hy; cases hy; exact cel_shut (h i x hx)⟩

/-- Parts, alike. -/
def parts (β : Rel) : List (Nat × Value) → List (Nat × Value) → Prop
  | [], [] => True
  | x :: xs, y :: ys => x.1 = y.1 ∧ one β x.2 y.2 ∧ parts β xs ys
  | _, _ => False

theorem arr_fold {off : Nat} : ∀ {cs ds : List (Value × Nat)} {xs ys : Array Value}, cs.map (·.2) = ds.map (·.2) → cels β (cs.map (·.1)) (ds.map (·.1)) → arr (cel β) xs ys →
    arr (cel β) (cs.foldl (fun cs (c, j) => cs.setIfInBounds (off + j) c) xs) (ds.foldl (fun cs (c, j) => cs.setIfInBounds (off + j) c) ys)
  | [], [], xs, ys, _, _, h => h
  | [], d :: ds, xs, ys, e, _, h => by simp at e
  | c :: cs, [], xs, ys, e, _, h => by simp at e
  | c :: cs, d :: ds, xs, ys, e, hc, h => by
    simp only [List.map_cons, List.cons.injEq] at e
    rw [List.foldl_cons, List.foldl_cons]
    refine arr_fold e.2 hc.2 ?_
    obtain ⟨c, j⟩ := c
    obtain ⟨d, j'⟩ := d
    obtain ⟨e1, _⟩ := e
    dsimp only at e1 ⊢
    subst e1
    exact h.set hc.1

theorem fill_alike {place : Nat → Option (Nat × Nat)} : ∀ {ps qs : List (Nat × Value)} {xs ys : Array Value}, parts β ps qs → arr (cel β) xs ys →
    ∀ {r}, Instr.fill place xs ps = some r → ∃ r', Instr.fill place ys qs = some r' ∧ arr (cel β) r r'
  | [], [], xs, ys, _, h, r, e => by
    simp only [Instr.fill, Option.some.injEq] at e ⊢
    subst e
    exact ⟨_, rfl, h⟩
  | [], q :: qs, xs, ys, hp, h, r, e => hp.elim
  | p :: ps, [], xs, ys, hp, h, r, e => hp.elim
  | (i, v) :: ps, (j, v') :: qs, xs, ys, hp, h, r, e => by
    obtain ⟨e1, hv, hp⟩ := hp
    dsimp only at e1 hv
    subst e1
    have hc := hv.cells
    unfold Instr.fill at e ⊢
    cases hpl : place i with
    | none => rw [hpl] at e; exact absurd e (by simp)
    | some o =>
      obtain ⟨off, size⟩ := o
      rw [hpl] at e
      dsimp only at e ⊢
      rw [← hc.1, ← h.1]
      split at e
      · exact absurd e (by simp)
      · rename_i hne
        rw [if_neg hne]
        refine fill_alike hp ?_ e
        rw [← Array.foldl_toList, ← Array.foldl_toList]
        refine arr_fold ?_ ?_ h
        · simp [Array.toList_zipIdx, hc.1]
        · have : ∀ a : Array Value, (a.zipIdx.toList.map (·.1)) = a.toList := by intro a; simp [Array.toList_zipIdx]
          rw [this, this]
          exact cels_of (by simpa using hc)

theorem SR.self {α : Type} {s : Sem α} (h : ∀ w, ∃ r, s.run P w = r) (hq : SR st P (fun _ a b => a = b) β s s) : SR st P (fun _ a b => a = b) β s s := hq

theorem SR.places : ∀ {β : Rel} (fs : List Field), SR st P (fun _ a b => a = b) β (fs.mapM fun f => do pure (f.offset, ← sizeOf f.type)) (fs.mapM fun f => do pure (f.offset, ← sizeOf f.type))
  | _, [] => by rw [List.mapM_nil]; exact rfl
  | _, f :: fs => by
    rw [List.mapM_cons]
    refine SR.bind' (S := fun _ a b => a = b) (SR.size fun n => rfl) ?_
    rintro β' a _ _ rfl
    refine SR.bind' (S := fun _ a b => a = b) (SR.places fs) ?_
    rintro β'' b _ _ rfl
    exact rfl

theorem SR.placesA (fs : Array Field) : SR st P (fun _ a b => a = b) β (fs.mapM fun f => do pure (f.offset, ← sizeOf f.type)) (fs.mapM fun f => do pure (f.offset, ← sizeOf f.type)) := by
  rw [Array.mapM_eq_mapM_toList]
  refine SR.bind' (S := fun _ a b => a = b) (SR.places fs.toList) ?_
  rintro β' a _ _ rfl
  exact rfl

theorem shut_cells {z : Value} (h : shut z = true) : ∀ (i : Nat) x, z.cells[i]? = some x → shut1 x = true := by
  intro i x hx
  cases z <;> first
    | (simp only [Value.cells, List.getElem?_toArray] at hx
       rcases List.mem_singleton.1 (List.mem_of_getElem? hx) with rfl
       exact h)
    | (simp only [shut, List.all_eq_true] at h
       exact h x (Array.mem_toList_iff.2 (Array.mem_of_getElem? hx)))

theorem SR.build {t : TypeId} {ps qs : Array (Nat × Value)} (h : parts β ps.toList qs.toList) (hz : ∀ z, zero? P t = some z → shut z = true) : SR st P one β (Instr.build t ps) (Instr.build t qs) := by
  refine SR.zero fun z hz' => ?_
  have h0 : arr (cel β) z.cells z.cells := arr_self (shut_cells (hz z hz'))
  refine SR.under fun d hd => ?_
  cases d <;> first | exact SR.dead rfl rfl | skip
  · refine SR.size fun n => ?_
    cases hf : Instr.fill (fun i => some (i * n, n)) z.cells ps.toList with
    | none => exact SR.dead rfl rfl
    | some r =>
      obtain ⟨r', e, hr⟩ := fill_alike h h0 hf
      rw [e]
      exact hr
  · rename_i fs
    refine SR.bind' (S := fun _ a b => a = b) (SR.placesA fs) ?_
    rintro β' a _ hle rfl
    have h' : parts β' ps.toList qs.toList := by
      have : ∀ {xs ys}, parts β xs ys → parts β' xs ys := by
        intro xs
        induction xs with
        | nil => intro ys h; cases ys <;> first | exact trivial | exact h.elim
        | cons x xs ih => intro ys h; cases ys <;> first | exact h.elim | exact ⟨h.1, one.mono hle h.2.1, ih h.2.2⟩
      exact this h
    have h0' : arr (cel β') z.cells z.cells := arr.mono (fun _ _ => cel.mono hle) h0
    cases hf : Instr.fill (a[·]?) z.cells ps.toList with
    | none => exact SR.dead rfl rfl
    | some r =>
      obtain ⟨r', e, hr⟩ := fill_alike h' h0' hf
      rw [e]
      exact hr

theorem zeros_alike {z : Array Value} (h : ∀ (i : Nat) x, z[i]? = some x → shut1 x = true) (n : Nat) (hn : n = 0 ∨ z.size ≠ 0) : arr (cel β) ((Array.range n).map (z[· % z.size]!)) ((Array.range n).map (z[· % z.size]!)) := by
  refine arr_self fun i x hx => ?_
  simp only [Array.getElem?_map, Option.map_eq_some_iff] at hx
  obtain ⟨j, hj, rfl⟩ := hx
  have hjn : j < n := by simpa using Array.mem_of_getElem? hj
  have hz : z.size ≠ 0 := by rcases hn with rfl | hn; · omega
                             · exact hn
  have hlt : j % z.size < z.size := Nat.mod_lt _ (by omega)
  rw [getElem!_pos z (j % z.size) hlt]
  exact h _ _ (Array.getElem?_eq_getElem hlt)

theorem SR.panB {α γ : Type} {R : Rel → γ → γ → Prop} {f g : α → Sem γ} (e e' : RuntimeError) (he : simpleErr e = true) (he' : simpleErr e' = true) : SR st P R β (runtimePanic e >>= f) (runtimePanic e' >>= g) :=
  SR.bind' (S := fun _ _ _ => False) (SR.pan e e' he he') fun _ _ _ _ h => h.elim

theorem SR.room {γ : Type} {R : Rel → γ → γ → Prop} {f g : Unit → Sem γ} {n : Nat} (h : SR st P R β (f ()) (g ())) : SR st P R β (askRoom n >>= f) (askRoom n >>= g) := by
  unfold askRoom
  split
  · exact h
  · exact h

theorem SR.anyChoice (q : Question) : SR st P (fun _ _ _ => True) β (choose q) (choose q) := ⟨rfl, fun _ _ => trivial⟩
theorem SR.pureB {α γ : Type} {R : Rel → γ → γ → Prop} {f g : α → Sem γ} {a b : α} (h : SR st P R β (f a) (g b)) : SR st P R β (pure a >>= f) (pure b >>= g) := h

theorem SR.makeSlice {t : TypeId} {l l' c c' : Value} (hl : one β l l') (hc : one β c c') (hz : ∀ e z, P.underlying t = some (.slice e) → zero? P e = some z → shut z = true ∧ z.cells.size ≠ 0) : SR st P one β (Instr.makeSlice t l c) (Instr.makeSlice t l' c') := by
  refine SR.under fun d hd => ?_
  cases d <;> first | exact SR.dead rfl rfl | skip
  rename_i e
  refine SR.asInt hl fun n => ?_
  refine SR.asInt hc fun m => ?_
  refine SR.info fun i hi => ?_
  refine SR.ite (fun _ => SR.ite (fun _ => SR.panB _ _ rfl rfl) (fun _ => SR.ite (fun _ => SR.panB _ _ rfl rfl) (fun _ => SR.bind' (S := fun _ _ _ => True) (SR.anyChoice _) fun β' a b _ _ => SR.panB _ _ rfl rfl))) (fun _ => ?_)
  refine SR.room ?_
  refine SR.size fun k => ?_
  refine SR.ite (fun h0 => ?_) (fun h0 => ?_)
  · refine SR.pureB ?_
    refine SR.bind' (SR.newRow (zeros_alike (z := #[]) (by simp) _ (.inl h0))) fun β' a b hle hab => ?_
    exact ⟨hab, rfl, rfl⟩
  · refine SR.zero fun z hz' => ?_
    obtain ⟨s1, s2⟩ := hz e z hd hz'
    refine SR.pureB ?_
    refine SR.bind' (SR.newRow (zeros_alike (shut_cells s1) _ (.inr s2))) fun β' a b hle hab => ?_
    exact ⟨hab, rfl, rfl⟩

theorem SR.buildSlice {t : TypeId} {len : Nat} {ps qs : Array (Nat × Value)} (h : parts β ps.toList qs.toList) (hz : ∀ e z, P.underlying t = some (.slice e) → zero? P e = some z → shut z = true ∧ z.cells.size ≠ 0) : SR st P one β (Instr.buildSlice t len ps) (Instr.buildSlice t len qs) := by
  refine SR.under fun d hd => ?_
  cases d <;> first | exact SR.dead rfl rfl | skip
  rename_i e
  refine SR.size fun k => ?_
  refine SR.ite (fun _ => SR.dead rfl rfl) (fun _ => ?_)
  refine SR.ite (fun h0 => ?_) (fun h0 => ?_)
  · have h1 : arr (cel β) ((Array.range (len * k)).map ((#[] : Array Value)[· % (#[] : Array Value).size]!)) ((Array.range (len * k)).map ((#[] : Array Value)[· % (#[] : Array Value).size]!)) := zeros_alike (z := #[]) (by simp) _ (.inl h0)
    refine SR.pureB ?_
    dsimp only
    cases hf : Instr.fill (fun i => some (i * k, k)) ((Array.range (len * k)).map ((#[] : Array Value)[· % (#[] : Array Value).size]!)) ps.toList with
    | none => exact SR.dead rfl rfl
    | some r =>
      obtain ⟨r', e', hr⟩ := fill_alike h h1 hf
      rw [e']
      refine SR.bind' (SR.newRow hr) fun β' a b hle hab => ?_
      exact ⟨hab, rfl, rfl⟩
  · refine SR.zero fun z hz' => ?_
    obtain ⟨s1, s2⟩ := hz e z hd hz'
    have h1 : arr (cel β) ((Array.range (len * k)).map (z.cells[· % z.cells.size]!)) ((Array.range (len * k)).map (z.cells[· % z.cells.size]!)) := zeros_alike (shut_cells s1) _ (.inr s2)
    refine SR.pureB ?_
    dsimp only
    cases hf : Instr.fill (fun i => some (i * k, k)) ((Array.range (len * k)).map (z.cells[· % z.cells.size]!)) ps.toList with
    | none => exact SR.dead rfl rfl
    | some r =>
      obtain ⟨r', e', hr⟩ := fill_alike h h1 hf
      rw [e']
      refine SR.bind' (SR.newRow hr) fun β' a b hle hab => ?_
      exact ⟨hab, rfl, rfl⟩

theorem SR.firstCells {k n : Nat} {x x' : Value} (h : one β x x') : SR st P (fun β => arr (cel β)) β (Builtin.firstCells k n x) (Builtin.firstCells k n x') := by
  rcases one_kinds h with ⟨b, rfl, rfl⟩ | ⟨k, n, rfl, rfl⟩ | ⟨s, rfl, rfl⟩ | ⟨a, a', rfl, rfl, ha⟩ | ⟨a, a', n, c, rfl, rfl, ha⟩ | ⟨f, rfl, rfl⟩ | ⟨rfl, rfl⟩ | ⟨a, a', rfl, rfl, ha⟩
  all_goals first | exact SR.dead rfl rfl | skip
  · refine arr_self fun i x hx => ?_
    simp only [Array.getElem?_map, Option.map_eq_some_iff] at hx
    obtain ⟨j, _, rfl⟩ := hx
    rfl
  · cases a <;> cases a' <;> first | exact ha.elim | exact arr.nil | exact SR.loadCells _ ha

theorem SR.lenOf {x x' : Value} (h : one β x x') : SR st P (fun _ a b => a = b) β (Builtin.lenOf x) (Builtin.lenOf x') := by
  rcases one_kinds h with ⟨b, rfl, rfl⟩ | ⟨k, n, rfl, rfl⟩ | ⟨s, rfl, rfl⟩ | ⟨a, a', rfl, rfl, ha⟩ | ⟨a, a', n, c, rfl, rfl, ha⟩ | ⟨f, rfl, rfl⟩ | ⟨rfl, rfl⟩ | ⟨a, a', rfl, rfl, ha⟩
  all_goals first | exact SR.dead rfl rfl | exact rfl

theorem SR.copy_ {ts : Array TypeId} {t : TypeId} {xs ys : Array Value} (h : arr (one β) xs ys) : SR true P one β (Builtin.copy_ ts t xs) (Builtin.copy_ ts t ys) := by
  unfold Builtin.copy_
  cases ht : ts[0]? with
  | none => exact SR.dead rfl rfl
  | some t0 =>
    cases hx : xs[0]? with
    | none => exact SR.dead rfl rfl
    | some x =>
      obtain ⟨y, hy, hxy⟩ := arr.get h hx
      rw [hy]
      cases hx1 : xs[1]? with
      | none => exact SR.dead rfl rfl
      | some x1 =>
        obtain ⟨y1, hy1, hxy1⟩ := arr.get h hx1
        rw [hy1]
        refine SR.under fun d hd => ?_
        cases d <;> first | exact SR.dead rfl rfl | skip
        rcases one_kinds hxy with ⟨b, rfl, rfl⟩ | ⟨k, n, rfl, rfl⟩ | ⟨s, rfl, rfl⟩ | ⟨a, a', rfl, rfl, ha⟩ | ⟨a, a', n, c, rfl, rfl, ha⟩ | ⟨f, rfl, rfl⟩ | ⟨rfl, rfl⟩ | ⟨a, a', rfl, rfl, ha⟩
        all_goals first | exact SR.dead rfl rfl | skip
        refine SR.bind' (SR.lenOf hxy1) ?_
        rintro β1 m _ hl1 rfl
        refine SR.size fun k => ?_
        refine SR.bind' (SR.firstCells (one.mono hl1 hxy1)) fun β2 cs ds hl2 hcs => ?_
        have ha' := oadr.mono (Le.trans hl1 hl2) ha
        cases a <;> cases a' <;> first | exact ha.elim | skip
        · exact ⟨rfl, rfl⟩
        · refine SR.bind' (SR.storeCells ha' 0 (cels_of (by simpa using hcs))) fun β3 _ _ _ _ => ?_
          exact ⟨rfl, rfl⟩
end
end Go.Tw
