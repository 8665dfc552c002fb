/-
  The table of powers of ten, and answers that hang on the arguments alone.
-/
import Derived.Test.YgcoaaGreatDet
set_option linter.unusedVariables false
set_option linter.unusedSimpArgs false
set_option maxRecDepth 20000
namespace Go.Proofs.YgcoaaGreat.Det
open Go Go.Proofs.Oaag.Twn
open Go.Proofs.YgcoaaGreat.NatW Go.Proofs.YgcoaaGreat.Limbs Go.RowKit

/-- The table's cells. -/
def cellT (i : Nat) : Value :=
  if i < 1392 then (if i % 2 = 0 then .int .u64 (entHi (((i / 2 : Nat) : Int) - 348) : Nat) else .int .u64 (entLo (((i / 2 : Nat) : Int) - 348) : Nat)) else .int .i16 (entE (((i - 1392 : Nat) : Int) - 348))
def tc : Array Value := (Array.range 2088).map cellT

theorem tc_size : tc.size = 2088 := by simp [tc]
theorem tc_get {i : Nat} (h : i < 2088) : tc[i]? = some (cellT i) := by simp [tc, h]

/-- The table lies there. -/
structure On (tb : Nat) (w : World) : Prop where
  pos : 0 < tb
  row : w.heap[tb]? = some (.cells tc 51 (0, 0))

theorem On.lt {tb : Nat} {w : World} (h : On tb w) : tb < w.heap.size := (Array.getElem?_eq_some_iff.1 h.row).1
theorem On.kept {tb B : Nat} {w w' : World} (h : On tb w) (hb : Below B w w') (hB : tb < B) : On tb w' := ⟨h.pos, by rw [hb.block tb hB]; exact h.row⟩
theorem On.later {tb : Nat} {w w' : World} (h : On tb w) (hb : Below w.heap.size w w') : On tb w' := h.kept hb h.lt

theorem on_tab {w : World} {g : Nat} (hg : 0 < g) (h : Tab w g (fun _ => True)) : On g w := by
  obtain ⟨cs, h1, h2, h3⟩ := h
  refine ⟨hg, ?_⟩
  have : cs = tc := by
    apply Array.ext_getElem?
    intro i
    by_cases hi : i < 2088
    · rw [tc_get hi]
      unfold cellT
      by_cases h4 : i < 1392
      · rw [if_pos h4]
        have hk := h3 (i / 2) (by omega) trivial
        by_cases h5 : i % 2 = 0
        · rw [if_pos h5]
          have e : i / 2 * 2 = i := by omega
          rw [← hk.1, e]
        · rw [if_neg h5]
          have e : i / 2 * 2 + 1 = i := by omega
          rw [← hk.2.1, e]
      · rw [if_neg h4]
        have hk := h3 (i - 1392) (by omega) trivial
        have e : 1392 + (i - 1392) = i := by omega
        rw [← hk.2.2, e]
    · rw [Array.getElem?_eq_none (by omega), Array.getElem?_eq_none (by rw [tc_size]; omega)]
  rw [← this]
  exact h1

def u64D : Sf.D := .int .u64 0 18446744073709551615
def expD : Sf.D := .int .i16 (-1300) 1100
def tabL : Sf.D := Sf.D.app (Sf.D.rep u64D 1392) (Sf.D.rep expD 696)

theorem rep_at (d : Sf.D) : ∀ n i, (Sf.D.rep d n).at i = if i < n then some d else none
  | 0, i => by cases i <;> rfl
  | n + 1, 0 => by simp [Sf.D.rep, Sf.D.at]
  | n + 1, i + 1 => by
    show (Sf.D.rep d n).at i = _
    rw [rep_at d n i]
    simp
theorem rep_len (d : Sf.D) : ∀ n, (Sf.D.rep d n).len = n
  | 0 => rfl
  | n + 1 => by show (Sf.D.rep d n).len + 1 = _; rw [rep_len d n]
theorem app_rep_at (d : Sf.D) (m : Sf.D) : ∀ n i, (Sf.D.app (Sf.D.rep d n) m).at i = if i < n then some d else m.at (i - n)
  | 0, i => by simp [Sf.D.rep, Sf.D.app]
  | n + 1, 0 => by simp [Sf.D.rep, Sf.D.app, Sf.D.at]
  | n + 1, i + 1 => by
    show (Sf.D.app (Sf.D.rep d n) m).at i = _
    rw [app_rep_at d m n i]
    simp
theorem tabL_at (i : Nat) : tabL.at i = if i < 1392 then some u64D else if i < 2088 then some expD else none := by
  unfold tabL
  rw [app_rep_at, rep_at]
  split
  · rfl
  · by_cases h : i < 2088
    · rw [if_pos (by omega), if_pos h]
    · rw [if_neg (by omega), if_neg h]

theorem cellT_kind {Γ : Sf.Gam} {i : Nat} {d : Sf.D} (h : tabL.at i = some d) : i < 2088 ∧ Sf.cel Γ d (cellT i) := by
  rw [tabL_at] at h
  unfold cellT
  split at h
  · rename_i hi
    cases h
    refine ⟨by omega, ?_⟩
    rw [if_pos hi]
    have hw := ent_words (((i / 2 : Nat) : Int) - 348) (by omega) (by omega)
    split
    · exact ⟨_, rfl, by omega, by omega⟩
    · exact ⟨_, rfl, by omega, by omega⟩
  · rename_i hi
    split at h
    · rename_i hi2
      cases h
      refine ⟨hi2, ?_⟩
      rw [if_neg hi]
      have hw := ent_words (((i - 1392 : Nat) : Int) - 348) (by omega) (by omega)
      exact ⟨_, rfl, hw.2.2.2.2.1, hw.2.2.2.2.2⟩
    · cases h

theorem cellT_self (β : Tw.Rel) (i : Nat) : Tw.cel β (cellT i) (cellT i) := by
  unfold cellT
  split
  · split <;> exact ⟨rfl, rfl⟩
  · exact ⟨rfl, rfl⟩
theorem cellT_eq {β : Tw.Rel} {i : Nat} {v : Value} (h : Tw.cel β (cellT i) v) : v = cellT i := by
  unfold cellT at h ⊢
  split at h
  · split at h
    · cases v <;> first | (exfalso; simp [Tw.cel] at h; done) | skip
      obtain ⟨e1, e2⟩ : _ = _ ∧ _ = _ := h
      rw [if_pos ‹_›, if_pos ‹_›, e1, e2]
    · cases v <;> first | (exfalso; simp [Tw.cel] at h; done) | skip
      obtain ⟨e1, e2⟩ : _ = _ ∧ _ = _ := h
      rw [if_pos ‹_›, if_neg ‹_›, e1, e2]
  · cases v <;> first | (exfalso; simp [Tw.cel] at h; done) | skip
    obtain ⟨e1, e2⟩ : _ = _ ∧ _ = _ := h
    rw [if_neg ‹_›, e1, e2]
theorem tc_self (β : Tw.Rel) : Tw.arr (Tw.cel β) tc tc := by
  refine ⟨rfl, fun i x y hx hy => ?_⟩
  rw [hx] at hy
  cases hy
  have hi : i < 2088 := by rw [← tc_size]; exact (Array.getElem?_eq_some_iff.1 hx).1
  rw [tc_get hi] at hx
  cases hx
  exact cellT_self β i
theorem tc_eq {β : Tw.Rel} {ys : Array Value} (h : Tw.arr (Tw.cel β) tc ys) : ys = tc := by
  apply Array.ext_getElem?
  intro i
  by_cases hi : i < 2088
  · obtain ⟨y, hy, hc⟩ := h.get (tc_get hi)
    rw [hy, tc_get hi, cellT_eq hc]
  · rw [Array.getElem?_eq_none (by rw [← h.1, tc_size]; omega), Array.getElem?_eq_none (by rw [tc_size]; omega)]

/-- The one memory. -/
def w0 : World := { heap := #[.cells #[] 0 (0, 0), .cells tc 51 (0, 0)], tape := fun _ _ => 0, drawn := 0, os := default, output := #[] }
def Γ0 : Sf.Gam := fun b o => if b = 1 then tabL.at o else none
def only (b c : Nat) : Tw.Rel := fun x y => x = b ∧ y = c

theorem w0_row : w0.heap[1]? = some (.cells tc 51 (0, 0)) := rfl

theorem wt0 : Sf.Wt Γ0 w0 := by
  refine ⟨fun b o d h => ?_, rfl⟩
  unfold Γ0 at h
  split at h
  · rename_i e
    subst e
    obtain ⟨h1, h2⟩ := cellT_kind (Γ := Γ0) h
    exact ⟨tc, 51, (0, 0), cellT o, w0_row, tc_get h1, by simp, h2⟩
  · cases h

theorem W_only {w : World} {tb : Nat} (h : On tb w) : Tw.W (only 1 tb) w0 w := by
  refine ⟨?_, ?_, ?_, by show 0 < 2; omega, Nat.lt_of_le_of_lt (Nat.zero_le _) h.lt⟩
  · rintro b c ⟨rfl, rfl⟩
    exact ⟨_, _, w0_row, h.row, tc_self _, rfl, rfl⟩
  · rintro b c c' ⟨_, rfl⟩ ⟨_, rfl⟩
    rfl
  · rintro b b' c ⟨rfl, _⟩ ⟨rfl, _⟩
    rfl

/-- One answer, whatever the memory. -/
def Det (g : FuncId) (args : Nat → Array Value) (r : Sf.D) : Prop :=
  ∃ v, Sf.val (fun _ _ => none) r v ∧ ∀ w tb (K : Ending → World → Prop), On tb w → (∀ w', Below w.heap.size w w' → K (.returned v) w') → Calls Oaag.prog g (args tb) w K

theorem det {g : FuncId} (hg : g ∈ okL) {ps r : Sf.D} (hcon : Sf.Con Oaag.prog g ps r) (hflat : flatD r = true) {args : Nat → Array Value} (hft : ∀ i, i < (args 1).size → (V Oaag.prog).FT g i = false) (hty : Sf.Args Γ0 ps (args 1))
    (hal : ∀ tb, 0 < tb → Tw.arr (Tw.one (only 1 tb)) (args 1) (args tb)) (hsz : ∀ fn, Oaag.prog.funcs[g]? = some fn → (args 1).size ≤ fn.params.size) : Det g args r := by
  obtain ⟨fn, c, ok⟩ := okL_ok g hg
  have hgiv := given fun g h => absurd h (List.not_mem_nil)
  have h1 : On 1 w0 := ⟨by omega, w0_row⟩
  have hA := hcon Γ0 w0 (args 1) wt0 hty
  have hA' : Calls (V Oaag.prog).P g (args 1) w0 (fun e w1 => ∃ v, e = .returned v ∧ ∃ Γ', Sf.Ex Γ0 w0 Γ' w1 ∧ Sf.val Γ' r v) := by
    refine Calls.mono hA ?_
    rintro e w1 ⟨v, Γ', e1, e2, e3⟩
    exact ⟨v, e1, Γ', e2, e3⟩
  obtain ⟨v1, w1, ⟨Γ', hex, hv⟩, ⟨hsize, hkeep⟩, hB⟩ := Tw.twin_call hgiv mixed Tw.drAll_ok ok ⟨args 1, w0, only 1 1, hal 1 (by omega), W_only h1⟩ rfl (hsz fn ok.is_) hA'
  refine ⟨v1, flatD_any hflat hv, fun w tb K hon hK => ?_⟩
  refine Calls.mono (hB (args tb) w (only 1 tb) (hal tb hon.pos) (W_only hon)) ?_
  rintro e w1' ⟨v1', β', rfl, hext, hW, hval, _⟩
  rw [flatD_eq hflat hv hval]
  refine hK w1' ⟨hext.sys.2.2.1, hext.sys.2.1, hext.sys.2.2.2, hext.szB, fun k hk => ?_⟩
  by_cases e : k = tb
  · subst e
    obtain ⟨x, y, hx, hy, hxy⟩ := hW.blk 1 k (hext.le 1 k ⟨rfl, rfl⟩)
    have hx1 : w1.heap[1]? = w0.heap[1]? := by
      refine hkeep 2 (Nat.le_refl _) (fun i hi => ?_) 1 (by omega)
      by_cases hlt : i < (args 1).size
      · rw [hft i hlt] at hi; cases hi
      · rw [Array.getD_eq_getD_getElem?, Array.getElem?_eq_none (by omega)]
        exact trivial
    rw [hx1, w0_row] at hx
    cases hx
    cases y <;> first | (exfalso; simp [Tw.obj] at hxy; done) | skip
    obtain ⟨q1, q2, q3⟩ : Tw.arr (Tw.cel β') _ _ ∧ _ = _ ∧ _ = _ := hxy
    rw [hy, hon.row, tc_eq q1, ← q2, ← q3]
  · exact hext.frB k hk fun b hb => e hb.2
end Go.Proofs.YgcoaaGreat.Det
