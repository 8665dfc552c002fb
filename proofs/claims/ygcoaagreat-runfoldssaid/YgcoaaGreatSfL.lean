/-
  One run of one text: the text.
-/
import Derived.Test.YgcoaaGreatSfK
set_option linter.unusedVariables false
set_option linter.unusedSimpArgs false
namespace Go.Sf

/-- Which name of the one state a name of the other stands for. -/
def tau (n : Nat) (S : St) (s : Nat) : Nat := if s < n then s else ((S.sl[s - n]?).join).getD 0

/-- The one knows no more than the other. -/
def wk (n : Nat) (S S' : St) : Bool :=
  decide (n ≤ S.sy.length) && decide (n ≤ S'.sy.length) && decide (S'.sl.length ≤ S.sl.length) &&
  ((List.range S'.sl.length).all fun i => match (S'.sl[i]?).join with
    | some s' => decide (s' < S'.sy.length) && (match (S.sl[i]?).join with | some s => tau n S s' == s | none => false)
    | none => true) &&
  ((List.range S'.sy.length).all fun s' => match S'.sy[s']? with
    | some (d', f') => (match S.sy[tau n S s']? with
      | some (d, f) => le3 d d' && (f' == .no || (f' == f && (decide (s' < n) || f'.below n)))
      | none => D.eqb d' .any && f' == .no)
    | none => true) &&
  (S'.fl.all fun p => S.fl.contains p && p.1.below n && decide (p.2 < n)) &&
  (S'.od.all fun p => S.od.contains p && p.1.below n && p.2.1.below n)

theorem join_some {α : Type} {o : Option (Option α)} {x : α} (h : o = some (some x)) : o.join = some x := by rw [h]; rfl
theorem of_join {α : Type} {o : Option (Option α)} {x : α} (h : o.join = some x) : o = some (some x) := by
  cases o with
  | none => cases h
  | some o => simp only [Option.join_some] at h; rw [h]

theorem wk_ok {n : Nat} {S S' : St} {Γ : Gam} {ρ : Nat → Value} {a : Act} (hw : wk n S S' = true) (h : AOk Γ ρ S a) :
    ∃ ρ', (∀ s, s < n → ρ' s = ρ s) ∧ AOk Γ ρ' S' a ∧ n ≤ S'.sy.length ∧ ρ' = fun s => ρ (tau n S s) := by
  have lw : LawfulBEq Rf := sumLawful
  have lf : LawfulBEq Df := Df.lawful
  simp only [wk, Bool.and_eq_true, List.all_eq_true, List.mem_range, decide_eq_true_eq] at hw
  obtain ⟨⟨⟨⟨⟨⟨h1, h2⟩, h3⟩, h4⟩, h5⟩, h6⟩, h7⟩ := hw
  have hid : ∀ s, s < n → ρ (tau n S s) = ρ s := fun s hs => by simp [tau, hs]
  refine ⟨fun s => ρ (tau n S s), hid, ⟨fun i s' hs => ?_, fun s' d' f' hs => ?_, h.defers, Nat.le_trans h3 h.size, fun r t ht => ?_, fun x y c ht => ?_⟩, h2, rfl⟩
  · have hi : i < S'.sl.length := (List.getElem?_eq_some_iff.1 hs).1
    have := h4 i hi
    rw [join_some hs] at this
    simp only [Bool.and_eq_true, decide_eq_true_eq] at this
    obtain ⟨g1, g2⟩ := this
    split at g2
    · rename_i s hss
      simp only [beq_iff_eq] at g2
      refine ⟨g1, ?_⟩
      rw [g2]
      exact (h.slot i s (of_join hss)).2
    · cases g2
  · have hi : s' < S'.sy.length := (List.getElem?_eq_some_iff.1 hs).1
    have := h5 s' hi
    rw [hs] at this
    dsimp only at this
    split at this
    · rename_i d f hd
      simp only [Bool.and_eq_true, Bool.or_eq_true, beq_iff_eq, decide_eq_true_eq] at this
      obtain ⟨g1, g2, g3⟩ := h.sym _ d f hd
      refine ⟨g1.le this.1, ?_⟩
      rcases this.2 with rfl | ⟨rfl, hlt | hbl⟩
      · exact ⟨trivial, rfl⟩
      rotate_left
      · by_cases hlt : s' < n
        · have e : tau n S s' = s' := by simp [tau, hlt]
          rw [e] at g2 g3
          rw [hid s' hlt]
          exact ⟨g2.agree (n := s') (fun t ht => hid t (by omega)) g3, g3⟩
        · exact ⟨g2.agree (n := n) hid hbl, Df.below_mono hbl (by omega)⟩
      · have e : tau n S s' = s' := by simp [tau, hlt]
        rw [e] at g2 g3
        rw [hid s' hlt]
        exact ⟨g2.agree (n := s') (fun t ht => hid t (by omega)) g3, g3⟩
    · simp only [Bool.and_eq_true, beq_iff_eq, D.eqb_iff] at this
      obtain ⟨rfl, rfl⟩ := this
      exact ⟨trivial, trivial, rfl⟩
  · obtain ⟨⟨g1, g2⟩, g3⟩ := h6 (r, t) ht
    simp only at g2 g3
    obtain ⟨_, _, n', m, e1, e2, e3⟩ := h.facts r t (by simpa using g1)
    exact ⟨Rf.below_mono g2 h2, by omega, n', m, by rw [rfI_agree hid g2]; exact e1, by rw [hid t g3]; exact e2, e3⟩
  · obtain ⟨⟨g1, g2⟩, g3⟩ := h7 (x, y, c) ht
    simp only at g2 g3
    obtain ⟨_, _, n', m, e1, e2, e3⟩ := h.ords x y c (by simpa using g1)
    exact ⟨Rf.below_mono g2 h2, Rf.below_mono g3 h2, n', m, by rw [rfI_agree hid g2]; exact e1, by rw [rfI_agree hid g3]; exact e2, e3⟩

structure Out where
  nor : List St
  ex : List (Nat × St)

def optO (f : St → Option Out) : Option St → Option Out
  | none => some ⟨[], []⟩
  | some S => f S

def mapO (f : St → Option Out) : List St → Option Out
  | [] => some ⟨[], []⟩
  | S :: Ss => match f S, mapO f Ss with
    | some o, some o' => some ⟨o.nor ++ o'.nor, o.ex ++ o'.ex⟩
    | _, _ => none

theorem mapO_mem {f : St → Option Out} : ∀ {Ss : List St} {o : Out}, mapO f Ss = some o → ∀ S, S ∈ Ss → ∃ o', f S = some o' ∧ (∀ x, x ∈ o'.nor → x ∈ o.nor) ∧ ∀ x, x ∈ o'.ex → x ∈ o.ex
  | [], o, h, S, hS => by cases hS
  | T :: Ss, o, h, S, hS => by
    simp only [mapO] at h
    split at h
    · rename_i o1 o2 h1 h2
      cases h
      cases hS with
      | head => exact ⟨o1, h1, fun x hx => by simp [hx], fun x hx => by simp [hx]⟩
      | tail _ hm =>
        obtain ⟨o', g1, g2, g3⟩ := mapO_mem h2 S hm
        exact ⟨o', g1, fun x hx => by simp [g2 x hx], fun x hx => by simp [g3 x hx]⟩
    · cases h

def syD (S : St) (o : Option Nat) : Option D := o.bind fun s => (S.sy[s]?).map (·.1)

def syE (S : St) (o : Option Nat) : Option (D × Df) := o.bind fun s => S.sy[s]?

set_option synthInstance.maxSize 2000 in
/-- What two states have in common. -/
def join2 (n : Nat) (S1 S2 : St) : St :=
  let post := List.zipWith (fun o1 o2 => match syE S1 o1, syE S2 o2 with | some e1, some e2 => (joinD e1.1 e2.1, if e1.2 = e2.2 ∧ e1.2.below n = true then e1.2 else Df.no) | _, _ => (D.any, Df.no)) S1.sl S2.sl
  ⟨(List.zipWith Prod.mk S1.sl S2.sl).zipIdx.map fun (p, i) => match p with
      | (some s1, some s2) => if s1 = s2 ∧ s1 < n then some s1 else some (n + i)
      | _ => none,
   List.zipWith (fun e1 e2 => (joinD e1.1 e2.1, if e1.2 = e2.2 then e1.2 else Df.no)) (S1.sy.take n) (S2.sy.take n) ++ post, [], []⟩

/-- Many states made one; 'none' if that cannot be seen to be right. -/
def joins (n : Nat) : List St → Option (List St)
  | [] => some []
  | [S] => some [S]
  | S :: Ss =>
    let T := Ss.foldl (join2 n) S
    if (S :: Ss).all fun S => wk n S T then some [T] else none

theorem joins_ok {n : Nat} {Ss Ts : List St} (h : joins n Ss = some Ts) {S : St} (hS : S ∈ Ss) {Γ : Gam} {ρ : Nat → Value} {a : Act} (ha : AOk Γ ρ S a) (hn : n ≤ S.sy.length) :
    ∃ T ρ', T ∈ Ts ∧ (∀ s, s < n → ρ' s = ρ s) ∧ AOk Γ ρ' T a ∧ n ≤ T.sy.length := by
  unfold joins at h
  split at h
  · cases hS
  · cases h
    have e : S = _ := List.mem_singleton.1 hS
    subst e
    exact ⟨S, ρ, by simp, fun _ _ => rfl, ha, hn⟩
  · dsimp only at h
    split at h
    · rename_i hall
      cases h
      have := (List.all_eq_true.1 hall) S hS
      obtain ⟨ρ', g1, g2, g3, _⟩ := wk_ok this ha
      exact ⟨_, ρ', by simp, g1, g2, g3⟩
    · cases h

/-- The slots that a text writes. -/
def dsts : Code → List Nat
  | .seq x y | .cond _ x y => dsts x ++ dsts y
  | .block _ c | .loop c => dsts c
  | .region _ ops _ => ops.toList.filterMap (·.dst)
  | _ => []

/-- At a loop's head. -/
def headOf (S : St) (A : List Nat) (f : Nat → D) : St :=
  ⟨S.sl.zipIdx.map fun (o, i) => match o with | some s => if A.contains i then some (S.sy.length + i) else some s | none => none,
   S.sy ++ (List.range S.sl.length).map (fun i => (f i, Df.no)), S.fl, S.od⟩

def slotD (S : St) (i : Nat) : D := (syD S ((S.sl[i]?).join)).getD .any

def widen : D → D → D
  | (.mk (.inl (.inl (k, a, b)))), (.mk (.inl (.inl (_, c, d)))) => .int k (if c < a then (if 0 ≤ c then 0 else k.min) else a) (if b < d then k.max else b)
  | d, d' => joinD d d'

/-- How a loop's counter goes. -/
def rankB (up : Bool) (n r : Nat) (H S : St) : Bool :=
  (H.sl[r]? == some (some (n + r))) &&
  (match H.sy[n + r]? with | some ((.mk (.inl (.inl (_, _, _)))), _) => true | _ => false) &&
  (match (S.sl[r]?).join with
    | some s => match S.sy[s]? with
      | some (_, (some (.inr (.inl (b, c))))) => b == n + r && (if up then decide (1 ≤ c) else decide (c ≤ -1))
      | _ => false
    | none => false)

/-- The results. -/
def aRes (P : Program) (S : St) : ResultVar → Option D
  | .tmp t => opD1 S (.tmp t)
  | .cell t ty => match opD S (.tmp t) with
    | some (.mk (.inr (.inl (.inl (), l)))) => aLoad P ty l
    | _ => none
def aRess (P : Program) (S : St) : List ResultVar → Option D
  | [] => some .nil
  | r :: rs => match aRes P S r, aRess P S rs with
    | some d, some l => some (.cons d l)
    | _, _ => none
def retB (P : Program) (rs : List ResultVar) (R : D) (S : St) : Bool :=
  match aRess P S rs with
  | some (.mk (.inr (.inr (d, (.mk (.inl (.inr (.inl ())))))))) => le2 d R
  | some l => le3 (.tup l) R
  | none => false

def loopOut (m n : Nat) (H : St) (o : Out) : Option Out :=
  if o.nor.all (fun S => wk n S H) && ((List.range m).any fun r => o.nor.all (rankB true n r H) || o.nor.all (rankB false n r H)) then some ⟨[], o.ex⟩ else none

def schB (P : Program) (ops : Array Oper) : Bool := Region.schedule (P.follows .mixedOrders) ops 0 == List.range ops.size

/-- A text that comes to its end. -/
def chk (V : Env) (F : FuncId → Bool) (rs : List ResultVar) (R : D) : Code → St → Option Out
  | .skip, S | .label _, S => some ⟨[S], []⟩
  | .ret, S => if retB V.P rs R S then some ⟨[], []⟩ else none
  | .exit id, S => some ⟨[], [(id, S)]⟩
  | .seq x y, S => match chk V F rs R x S with
    | some o => match mapO (chk V F rs R y) o.nor with
      | some o' => some ⟨o'.nor, o.ex ++ o'.ex⟩
      | none => none
    | none => none
  | .cond (.const (.bool b)) x y, S => if b then chk V F rs R x S else chk V F rs R y S
  | .cond c x y, S => match symOf S c with
    | some s => match assm S s true, assm S s false with
      | some r1, some r2 => match optO (chk V F rs R x) r1, optO (chk V F rs R y) r2 with
        | some o1, some o2 => match joins S.sy.length (o1.nor ++ o2.nor) with
          | some l => some ⟨l, o1.ex ++ o2.ex⟩
          | none => none
        | _, _ => none
      | _, _ => none
    | none => none
  | .block id c, S => match chk V F rs R c S with
    | some o => match joins S.sy.length (o.nor ++ (o.ex.filter (·.1 == id)).map (·.2)) with
      | some l => some ⟨l, o.ex.filter (·.1 != id)⟩
      | none => none
    | none => none
  | .loop c, S =>
    let A := dsts c
    let n := S.sy.length
    let step (H : St) (g : D → D → D) : Option St := (chk V F rs R c H).map fun o => headOf S A fun i => o.nor.foldl (fun d T => g d (slotD T i)) (slotD H i)
    let H0 := headOf S A (slotD S)
    match step H0 widen with
    | none => none
    | some H1 =>
      match step H1 widen with
      | none => none
      | some H2 =>
        let H3 := (chk V F rs R c H2).map fun o => headOf S A fun i => o.nor.foldl (fun d T => joinD d (slotD T i)) (slotD S i)
        let try_ (H : St) : Option Out := if wk n S H then (match chk V F rs R c H with | some o => loopOut S.sl.length n H o | none => none) else none
        match H3.bind try_ with
        | some o => some o
        | none => try_ H2
  | .region _ ops d, S => if !d || schB V.P ops then (match rops V F ops (List.range ops.size) S with | some l => some ⟨l, []⟩ | none => none) else none
  | _, _ => none
end Go.Sf
