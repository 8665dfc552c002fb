/-
  One run of one text: structs that are built, slices that are made, builtins.
-/
import Derived.Test.YgcoaaGreatSfE
set_option linter.unusedVariables false
set_option linter.unusedSimpArgs false
namespace Go.Sf

def D.app : D → D → D
  | (.mk (.inr (.inr (h, t)))), q => .cons h (D.app t q)
  | _, q => q

theorem D.at_app (q : D) : ∀ (p : D) (j : Nat), (D.app p q).at j = if j < p.len then p.at j else q.at (j - p.len)
  | (.mk (.inr (.inr (h, t)))), 0 => by simp [D.app, D.at, D.len]
  | (.mk (.inr (.inr (h, t)))), j + 1 => by
    simp only [D.app, D.at, D.len]
    rw [D.at_app q t j]
    simp [Nat.add_sub_add_right]
  | (.mk (.inl (.inl (_, _, _)))), j | (.mk (.inl (.inr (.inr (.inl _))))), j | (.mk (.inl (.inr (.inr (.inr (.inl _)))))), j | (.mk (.inl (.inr (.inr (.inr (.inr (.inl _))))))), j | (.mk (.inr (.inl (.inl (), _)))), j | (.mk (.inl (.inr (.inr (.inr (.inr (.inr (.inl ())))))))), j | (.mk (.inr (.inl (.inr (.inl (_, _)), _)))), j | (.mk (.inl (.inr (.inr (.inr (.inr (.inr (.inr (.inl ()))))))))), j | (.mk (.inr (.inl (.inr (.inr (.inl ())), _)))), j | (.mk (.inr (.inl (.inr (.inr (.inr ())), _)))), j | (.mk (.inl (.inr (.inr (.inr (.inr (.inr (.inr (.inr (.inl ())))))))))), j | (.mk (.inl (.inr (.inr (.inr (.inr (.inr (.inr (.inr (.inr (()))))))))))), j | (.mk (.inl (.inr (.inl ())))), j => by simp [D.app, D.len]

theorem D.len_app (q : D) : ∀ p : D, (D.app p q).len = p.len + q.len
  | (.mk (.inr (.inr (h, t)))) => by simp only [D.app, D.len]; rw [D.len_app q t]; omega
  | (.mk (.inl (.inl (_, _, _)))) | (.mk (.inl (.inr (.inr (.inl _))))) | (.mk (.inl (.inr (.inr (.inr (.inl _)))))) | (.mk (.inl (.inr (.inr (.inr (.inr (.inl _))))))) | (.mk (.inr (.inl (.inl (), _)))) | (.mk (.inl (.inr (.inr (.inr (.inr (.inr (.inl ())))))))) | (.mk (.inr (.inl (.inr (.inl (_, _)), _)))) | (.mk (.inl (.inr (.inr (.inr (.inr (.inr (.inr (.inl ()))))))))) | (.mk (.inr (.inl (.inr (.inr (.inl ())), _)))) | (.mk (.inr (.inl (.inr (.inr (.inr ())), _)))) | (.mk (.inl (.inr (.inr (.inr (.inr (.inr (.inr (.inr (.inl ())))))))))) | (.mk (.inl (.inr (.inr (.inr (.inr (.inr (.inr (.inr (.inr (()))))))))))) | (.mk (.inl (.inr (.inl ())))) => by simp [D.app, D.len]

/-- Cells put over others from a place on. -/
def D.over (n : Nat) (p l : D) : D := D.app (l.take n) (D.app p (l.drop (n + p.len)))

theorem D.len_over {n : Nat} {p l : D} (h : n + p.len ≤ l.len) : (D.over n p l).len = l.len := by
  unfold D.over
  rw [D.len_app, D.len_app, D.len_take (by omega), D.len_drop]
  omega

theorem D.at_take' : ∀ {n : Nat} {l : D} {j : Nat}, j < n → (D.take n l).at j = l.at j
  | n + 1, (.mk (.inr (.inr (a, t)))), 0, _ => rfl
  | n + 1, (.mk (.inr (.inr (a, t)))), j + 1, h => D.at_take' (n := n) (l := t) (by omega)
  | n + 1, (.mk (.inl (.inl (_, _, _)))), j, _ | n + 1, (.mk (.inl (.inr (.inr (.inl _))))), j, _ | n + 1, (.mk (.inl (.inr (.inr (.inr (.inl _)))))), j, _ | n + 1, (.mk (.inl (.inr (.inr (.inr (.inr (.inl _))))))), j, _ | n + 1, (.mk (.inr (.inl (.inl (), _)))), j, _ | n + 1, (.mk (.inl (.inr (.inr (.inr (.inr (.inr (.inl ())))))))), j, _ | n + 1, (.mk (.inr (.inl (.inr (.inl (_, _)), _)))), j, _ | n + 1, (.mk (.inl (.inr (.inr (.inr (.inr (.inr (.inr (.inl ()))))))))), j, _ | n + 1, (.mk (.inr (.inl (.inr (.inr (.inl ())), _)))), j, _ | n + 1, (.mk (.inr (.inl (.inr (.inr (.inr ())), _)))), j, _ | n + 1, (.mk (.inl (.inr (.inr (.inr (.inr (.inr (.inr (.inr (.inl ())))))))))), j, _ | n + 1, (.mk (.inl (.inr (.inr (.inr (.inr (.inr (.inr (.inr (.inr (()))))))))))), j, _ | n + 1, (.mk (.inl (.inr (.inl ())))), j, _ => by simp [D.take, D.at]

theorem D.at_over {n : Nat} {p l : D} (h : n + p.len ≤ l.len) (j : Nat) : (D.over n p l).at j = if n ≤ j ∧ j < n + p.len then p.at (j - n) else l.at j := by
  unfold D.over
  rw [D.at_app, D.len_take (by omega)]
  by_cases h1 : j < n
  · rw [if_pos h1, if_neg (by omega), D.at_take' h1]
  · rw [if_neg h1, D.at_app]
    by_cases h2 : j < n + p.len
    · rw [if_pos (by omega), if_pos (by omega)]
    · rw [if_neg (by omega), if_neg (by omega), D.at_drop']
      congr 1
      omega

theorem fold_get : ∀ (cs : List Value) (off i : Nat) (xs : Array Value), off + i + cs.length ≤ xs.size →
    ((cs.zipIdx i).foldl (fun ys (c, j) => ys.setIfInBounds (off + j) c) xs).size = xs.size ∧
    ∀ k, ((cs.zipIdx i).foldl (fun ys (c, j) => ys.setIfInBounds (off + j) c) xs)[k]? = if off + i ≤ k ∧ k < off + i + cs.length then cs[k - (off + i)]? else xs[k]?
  | [], off, i, xs, h => ⟨rfl, fun k => by
      have : ¬ (off + i ≤ k ∧ k < off + i + ([] : List Value).length) := by
        rw [List.length_nil]; omega
      rw [if_neg this]; rfl⟩
  | c :: cs, off, i, xs, h => by
    simp only [List.length_cons] at h
    obtain ⟨h1, h2⟩ := fold_get cs off (i + 1) (xs.setIfInBounds (off + i) c) (by simp; omega)
    refine ⟨by rw [List.zipIdx_cons, List.foldl_cons, h1]; simp, fun k => ?_⟩
    rw [List.zipIdx_cons, List.foldl_cons, h2 k]
    by_cases e : k = off + i
    · subst e
      rw [if_neg (by omega), if_pos (by simp)]
      have hlt : off + i < xs.size := by omega
      simp [Array.getElem?_setIfInBounds, hlt]
    · by_cases h3 : off + (i + 1) ≤ k ∧ k < off + (i + 1) + cs.length
      · rw [if_pos h3, if_pos (by simp; omega)]
        rw [show k - (off + i) = (k - (off + (i + 1))) + 1 by omega]
        simp
      · rw [if_neg h3, if_neg (by simp; omega)]
        simp [Array.getElem?_setIfInBounds, Ne.symm e]

/-- A struct's parts, put in. -/
def dfill (place : Nat → Option (Nat × Nat)) (l : D) : List (Nat × D) → Option D
  | [] => some l
  | (i, d) :: rest =>
    match place i with
    | none => none
    | some (off, size) => if d.asCells.len = size ∧ off + size ≤ l.len then dfill place (D.over off d.asCells l) rest else none

section
variable {P : Program} {Γ : Gam}

theorem cells_over {l p : D} {xs ys : Array Value} {off : Nat} (hx : cells Γ l xs) (hy : cells Γ p ys) (h : off + p.len ≤ l.len) :
    cells Γ (D.over off p l) (ys.zipIdx.foldl (fun cs (c, j) => cs.setIfInBounds (off + j) c) xs) := by
  have hl : ys.toList.length = p.len := by rw [← hy.1]; simp
  obtain ⟨h1, h2⟩ := fold_get ys.toList off 0 xs (by rw [hl, hx.1]; omega)
  have e : ys.zipIdx.foldl (fun cs (c, j) => cs.setIfInBounds (off + j) c) xs = (ys.toList.zipIdx 0).foldl (fun cs (c, j) => cs.setIfInBounds (off + j) c) xs := by
    rw [← Array.foldl_toList, Array.toList_zipIdx]
  rw [e]
  refine ⟨by rw [h1, D.len_over h, hx.1], fun j d hd => ?_⟩
  rw [D.at_over h] at hd
  rw [h2 j]
  split at hd
  · rename_i hh
    rw [if_pos (by rw [hl]; omega)]
    obtain ⟨x, q1, q2⟩ := hy.2 _ _ hd
    exact ⟨x, by simpa using q1, q2⟩
  · rename_i hh
    rw [if_neg (by rw [hl]; omega)]
    exact hx.2 j d hd

/-- Parts, each of its kind. -/
def Parts (Γ : Gam) : List (Nat × Value) → List (Nat × D) → Prop
  | [], [] => True
  | (i, v) :: ps, (j, d) :: qs => i = j ∧ one Γ d v ∧ Parts Γ ps qs
  | _, _ => False

theorem fill_ok {place : Nat → Option (Nat × Nat)} : ∀ {ps : List (Nat × Value)} {qs : List (Nat × D)} {xs : Array Value} {l r : D}, Parts Γ ps qs → cells Γ l xs → dfill place l qs = some r →
    ∃ ys, Instr.fill place xs ps = some ys ∧ cells Γ r ys
  | [], [], xs, l, r, _, hx, h => by
    simp only [dfill, Option.some.injEq] at h
    subst h
    exact ⟨xs, rfl, hx⟩
  | [], q :: qs, xs, l, r, hp, hx, h => hp.elim
  | p :: ps, [], xs, l, r, hp, hx, h => hp.elim
  | (i, v) :: ps, (j, d) :: qs, xs, l, r, hp, hx, h => by
    obtain ⟨rfl, hv, hp⟩ := hp
    have hc : cells Γ d.asCells v.cells := hv.cells
    unfold dfill at h
    unfold Instr.fill
    cases hpl : place i with
    | none => rw [hpl] at h; cases h
    | some o =>
      obtain ⟨off, size⟩ := o
      rw [hpl] at h
      dsimp only at h ⊢
      split at h
      · rename_i hh
        rw [if_neg (by simp [hc.1, hx.1]; omega)]
        exact fill_ok hp (cells_over hx hc (by omega)) h
      · cases h

/-- Where a struct's fields lie. -/
def places (P : Program) : List Field → Option (List (Nat × Nat))
  | [] => some []
  | f :: fs => match P.info? f.type, places P fs with
    | some i, some r => some ((f.offset, i.size) :: r)
    | _, _ => none

theorem US.mapM : ∀ {fs : List Field} {ps : List (Nat × Nat)} {Γ : Gam}, places P fs = some ps → US P (fun _ r => r = ps) Γ (fs.mapM fun f => do pure (f.offset, ← sizeOf f.type))
  | [], ps, Γ, h => by simp only [places, Option.some.injEq] at h; subst h; exact rfl
  | f :: fs, ps, Γ, h => by
    unfold places at h
    split at h
    · rename_i i r hi hr
      cases h
      rw [List.mapM_cons]
      refine US.bind' (S := fun _ a => a = (f.offset, i.size)) (US.size hi rfl) ?_
      rintro Γ' a hle rfl
      refine US.bind' (US.mapM hr) ?_
      rintro Γ'' a hle rfl
      exact rfl
    · cases h

def aBuild (P : Program) (t : TypeId) (qs : List (Nat × D)) : Option D :=
  match Tw.zero? P t, P.underlying t with
  | some z, some (.struct fs) => match places P fs.toList with
    | some ps => if good (cst z) then (dfill (fun i => ps[i]?) (cst z).asCells qs).map .agg else none
    | none => none
  | some z, some (.array _ e) => match P.info? e with
    | some d => if good (cst z) then (dfill (fun i => some (i * d.size, d.size)) (cst z).asCells qs).map .agg else none
    | none => none
  | _, _ => none

theorem US.build {t : TypeId} {ps : Array (Nat × Value)} {qs : List (Nat × D)} {r : D} (hp : Parts Γ ps.toList qs) (h : aBuild P t qs = some r) : US P (fun Γ v => one Γ r v) Γ (Instr.build t ps) := by
  unfold aBuild at h
  split at h
  · rename_i z fs hz hu
    split at h
    · rename_i pl hpl
      split at h
      · rename_i hg
        cases hd : dfill (fun i => pl[i]?) (cst z).asCells qs with
        | none => rw [hd] at h; cases h
        | some l =>
          rw [hd] at h
          cases h
          refine US.zero hz ?_
          refine US.under hu ?_
          dsimp only
          have hm : (fs.mapM fun f => do pure (f.offset, ← sizeOf f.type) : Sem (Array (Nat × Nat))) = ((fs.toList.mapM fun f => do pure (f.offset, ← sizeOf f.type)) >>= fun r => pure r.toArray) := by
            rw [Array.mapM_eq_mapM_toList]
            rfl
          rw [hm]
          refine US.bind' (US.bind' (S := fun _ r => r = pl) (R := fun _ r => r = pl.toArray) (US.mapM hpl) ?_) ?_
          · rintro Γ' a hle rfl
            exact rfl
          · rintro Γ' a hle rfl
            have hpp : Parts Γ' ps.toList qs := by
              clear hd hpl
              revert hp
              generalize ps.toList = pl'
              intro hp
              induction pl' generalizing qs with
              | nil => cases qs <;> first | exact trivial | exact hp.elim
              | cons a as ih =>
                cases qs with
                | nil => exact hp.elim
                | cons b bs => exact ⟨hp.1, hp.2.1.mono hle, ih hp.2.2⟩
            have hc : cells Γ' (cst z).asCells z.cells := (cst_ok (Γ := Γ') hg).cells
            have e : (fun i : Nat => pl.toArray[i]?) = fun i : Nat => pl[i]? := by funext i; simp
            obtain ⟨ys, q1, q2⟩ := fill_ok (place := fun i => pl[i]?) hpp hc hd
            rw [← e] at q1
            rw [q1]
            exact ⟨ys, rfl, q2⟩
      · cases h
    · cases h
  · rename_i z n e hz hu
    split at h
    · rename_i d hde
      split at h
      · rename_i hg
        cases hd : dfill (fun i => some (i * d.size, d.size)) (cst z).asCells qs with
        | none => rw [hd] at h; cases h
        | some l =>
          rw [hd] at h
          cases h
          refine US.zero hz ?_
          refine US.under hu ?_
          dsimp only
          refine US.size hde ?_
          have hc : cells Γ (cst z).asCells z.cells := (cst_ok (Γ := Γ) hg).cells
          obtain ⟨ys, q1, q2⟩ := fill_ok (place := fun i => some (i * d.size, d.size)) hp hc hd
          rw [q1]
          exact ⟨ys, rfl, q2⟩
      · cases h
    · cases h
  · cases h
end
end Go.Sf
