/-
  A function that returns in one memory, and whose text two runs take alike, answers the same in every memory.
-/
import Derived.Test.YgcoaaGreatTuZ
import Derived.Test.YgcoaaGreatSfS
import Derived.Test.YgcoaaGreatTabD
set_option linter.unusedVariables false
set_option linter.unusedSimpArgs false
set_option maxRecDepth 20000
namespace Go.Proofs.YgcoaaGreat.Det
open Go Go.Proofs.Oaag.Twn
open Go.Proofs.YgcoaaGreat.NatW

def flatC : Sf.D → Bool
  | (.mk (.inl (.inl (_, _, _)))) | (.mk (.inl (.inr (.inr (.inl _))))) | (.mk (.inl (.inr (.inr (.inr (.inl _)))))) | (.mk (.inl (.inr (.inr (.inr (.inr (.inr (.inl ())))))))) | (.mk (.inl (.inr (.inr (.inr (.inr (.inr (.inr (.inl ()))))))))) => true
  | _ => false
def flatL : Sf.D → Bool
  | (.mk (.inl (.inr (.inl ())))) => true
  | (.mk (.inr (.inr (h, t)))) => flatC h && flatL t
  | _ => false
def flat1 : Sf.D → Bool
  | (.mk (.inr (.inl (.inr (.inr (.inl ())), l)))) => flatL l
  | d => flatC d
def flatL1 : Sf.D → Bool
  | (.mk (.inl (.inr (.inl ())))) => true
  | (.mk (.inr (.inr (h, t)))) => flat1 h && flatL1 t
  | _ => false
def flatD : Sf.D → Bool
  | (.mk (.inr (.inl (.inr (.inr (.inr ())), l)))) => flatL1 l
  | d => flat1 d

theorem flatC_eq {d : Sf.D} (h : flatC d = true) {Γ : Sf.Gam} {v v' : Value} (hv : Sf.cel Γ d v) {β : Tw.Rel} (hc : Tw.cel β v v') : v' = v := by
  cases d using Sf.D.cs <;> first | (exfalso; simp [flatC] at h; done) | skip
  · obtain ⟨n, rfl, _⟩ := hv
    cases v' <;> first | (exfalso; simp [Tw.cel] at hc; done) | skip
    obtain ⟨e1, e2⟩ : _ = _ ∧ _ = _ := hc
    rw [e1, e2]
  · obtain ⟨b, rfl, _⟩ := hv
    cases v' <;> first | (exfalso; simp [Tw.cel] at hc; done) | skip
    have e : _ = _ := hc
    rw [e]
  · obtain ⟨s, rfl, _⟩ := hv
    cases v' <;> first | (exfalso; simp [Tw.cel] at hc; done) | skip
    have e : _ = _ := hc
    rw [e]
  · have e : v = _ := hv
    subst e
    cases v' <;> first | (exfalso; simp [Tw.cel] at hc; done) | skip
    rename_i a
    cases a with
    | none => rfl
    | some a => exact hc.elim
  · have e : v = _ := hv
    subst e
    cases v' <;> first | (exfalso; simp [Tw.cel] at hc; done) | skip
    rename_i a n c
    obtain ⟨h1, h2, h3⟩ : Tw.oadr β _ _ ∧ _ = _ ∧ _ = _ := hc
    cases a with
    | none => rw [← h2, ← h3]
    | some a => exact h1.elim

theorem flatL_at : ∀ {l : Sf.D}, flatL l = true → ∀ j, j < l.len → ∃ d, l.at j = some d ∧ flatC d = true
  | (.mk (.inl (.inr (.inl ())))), _, j, hj => absurd hj (Nat.not_lt_zero _)
  | (.mk (.inr (.inr (h, t)))), hl, 0, _ => by simp only [flatL, Bool.and_eq_true] at hl; exact ⟨h, rfl, hl.1⟩
  | (.mk (.inr (.inr (h, t)))), hl, j + 1, hj => by
    simp only [flatL, Bool.and_eq_true] at hl
    exact flatL_at (l := t) hl.2 j (by simpa [Sf.D.len] using hj)

theorem flat1_eq {d : Sf.D} (h : flat1 d = true) {Γ : Sf.Gam} {v v' : Value} (hv : Sf.one Γ d v) {β : Tw.Rel} (hc : Tw.one β v v') : v' = v := by
  by_cases ha : ∃ l, d = .agg l
  · obtain ⟨l, rfl⟩ := ha
    obtain ⟨xs, rfl, h1, h2⟩ := hv
    cases v' <;> first | (exfalso; simp [Tw.one, Tw.cel] at hc; done) | skip
    rename_i ys
    have hc' : Tw.arr (Tw.cel β) xs ys := hc
    congr 1
    apply Array.ext_getElem?
    intro i
    cases hx : xs[i]? with
    | none => exact hc'.none hx
    | some x =>
      obtain ⟨y, hy, hxy⟩ := hc'.get hx
      have hi := (Array.getElem?_eq_some_iff.1 hx).1
      obtain ⟨d, hd, hf⟩ := flatL_at h i (by rw [← h1]; exact hi)
      obtain ⟨x', hx', hcx⟩ := h2 i d hd
      rw [hx] at hx'
      cases hx'
      rw [hy, flatC_eq hf hcx hxy]
  · have hv' : Sf.cel Γ d v := by cases d using Sf.D.cs <;> first | exact hv | exact absurd ⟨_, rfl⟩ ha
    have hf : flatC d = true := by cases d using Sf.D.cs <;> first | exact h | exact absurd ⟨_, rfl⟩ ha
    have hna : ∀ xs, v ≠ .agg xs := by
      intro xs e
      subst e
      cases d using Sf.D.cs <;> first | (exfalso; simp [flatC] at hf; done) | skip
      all_goals simp [Sf.cel] at hv'
    refine flatC_eq hf hv' (β := β) ?_
    cases v <;> first | exact absurd rfl (hna _) | (cases v' <;> exact hc)

theorem flatL1_at : ∀ {l : Sf.D}, flatL1 l = true → ∀ j, j < l.len → ∃ d, l.at j = some d ∧ flat1 d = true
  | (.mk (.inl (.inr (.inl ())))), _, j, hj => absurd hj (Nat.not_lt_zero _)
  | (.mk (.inr (.inr (h, t)))), hl, 0, _ => by simp only [flatL1, Bool.and_eq_true] at hl; exact ⟨h, rfl, hl.1⟩
  | (.mk (.inr (.inr (h, t)))), hl, j + 1, hj => by
    simp only [flatL1, Bool.and_eq_true] at hl
    exact flatL1_at (l := t) hl.2 j (by simpa [Sf.D.len] using hj)

theorem flatD_eq {d : Sf.D} (h : flatD d = true) {Γ : Sf.Gam} {v v' : Value} (hv : Sf.val Γ d v) {β : Tw.Rel} (hc : Tw.val β v v') : v' = v := by
  by_cases ha : ∃ l, d = .tup l
  · obtain ⟨l, rfl⟩ := ha
    obtain ⟨xs, rfl, h1, h2⟩ := hv
    cases v' <;> first | (exfalso; simp [Tw.val, Tw.one, Tw.cel] at hc; done) | skip
    rename_i ys
    have hc' : Tw.arr (Tw.one β) xs ys := hc
    congr 1
    apply Array.ext_getElem?
    intro i
    cases hx : xs[i]? with
    | none => exact hc'.none hx
    | some x =>
      obtain ⟨y, hy, hxy⟩ := hc'.get hx
      have hi := (Array.getElem?_eq_some_iff.1 hx).1
      obtain ⟨d, hd, hf⟩ := flatL1_at h i (by rw [← h1]; exact hi)
      obtain ⟨x', hx', hcx⟩ := h2 i d hd
      rw [hx] at hx'
      cases hx'
      rw [hy, flat1_eq hf hcx hxy]
  · have hf : flat1 d = true := by cases d using Sf.D.cs <;> first | exact h | exact absurd ⟨_, rfl⟩ ha
    have hv' : Sf.one Γ d v := by cases d using Sf.D.cs <;> first | exact hv | exact absurd ⟨_, rfl⟩ ha | (exfalso; simp [flat1, flatC] at hf; done)
    have hna : ∀ xs, v ≠ .tuple xs := by
      intro xs e
      subst e
      cases d using Sf.D.cs <;> first | (exfalso; simp [flat1, flatC] at hf; done) | skip
      all_goals simp [Sf.one, Sf.cel] at hv'
    refine flat1_eq hf hv' (β := β) ?_
    cases v <;> first | exact absurd rfl (hna _) | (cases v' <;> exact hc)

/-- A flat answer is of its kind in every memory. -/
theorem flatC_any {d : Sf.D} (h : flatC d = true) {Γ Γ' : Sf.Gam} {v : Value} (hv : Sf.cel Γ d v) : Sf.cel Γ' d v := by
  cases d using Sf.D.cs <;> first | (exfalso; simp [flatC] at h; done) | exact hv
theorem flat1_any {d : Sf.D} (h : flat1 d = true) {Γ Γ' : Sf.Gam} {v : Value} (hv : Sf.one Γ d v) : Sf.one Γ' d v := by
  by_cases ha : ∃ l, d = .agg l
  · obtain ⟨l, rfl⟩ := ha
    obtain ⟨xs, rfl, h1, h2⟩ := hv
    refine ⟨xs, rfl, h1, fun j d hd => ?_⟩
    obtain ⟨x, hx, hc⟩ := h2 j d hd
    have hj : j < l.len := by rw [← h1]; exact (Array.getElem?_eq_some_iff.1 hx).1
    obtain ⟨d', hd', hf⟩ := flatL_at h j hj
    rw [hd] at hd'
    cases hd'
    exact ⟨x, hx, flatC_any hf hc⟩
  · have hv' : Sf.cel Γ d v := by cases d using Sf.D.cs <;> first | exact hv | exact absurd ⟨_, rfl⟩ ha
    have hf : flatC d = true := by cases d using Sf.D.cs <;> first | exact h | exact absurd ⟨_, rfl⟩ ha
    have := flatC_any (Γ' := Γ') hf hv'
    cases d using Sf.D.cs <;> first | exact this | exact absurd ⟨_, rfl⟩ ha
theorem flatD_any {d : Sf.D} (h : flatD d = true) {Γ Γ' : Sf.Gam} {v : Value} (hv : Sf.val Γ d v) : Sf.val Γ' d v := by
  by_cases ha : ∃ l, d = .tup l
  · obtain ⟨l, rfl⟩ := ha
    obtain ⟨xs, rfl, h1, h2⟩ := hv
    refine ⟨xs, rfl, h1, fun j d hd => ?_⟩
    obtain ⟨x, hx, hc⟩ := h2 j d hd
    have hj : j < l.len := by rw [← h1]; exact (Array.getElem?_eq_some_iff.1 hx).1
    obtain ⟨d', hd', hf⟩ := flatL1_at h j hj
    rw [hd] at hd'
    cases hd'
    exact ⟨x, hx, flat1_any hf hc⟩
  · have hf : flat1 d = true := by cases d using Sf.D.cs <;> first | exact h | exact absurd ⟨_, rfl⟩ ha
    have hv' : Sf.one Γ d v := by cases d using Sf.D.cs <;> first | exact hv | exact absurd ⟨_, rfl⟩ ha | (exfalso; simp [flat1, flatC] at hf; done)
    have := flat1_any (Γ' := Γ') hf hv'
    cases d using Sf.D.cs <;> first | exact this | exact absurd ⟨_, rfl⟩ ha | (exfalso; simp [flat1, flatC] at hf; done)
end Go.Proofs.YgcoaaGreat.Det
