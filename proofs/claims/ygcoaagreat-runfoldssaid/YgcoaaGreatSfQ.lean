/-
  One run of one text: many functions, each after those that it calls.
-/
import Derived.Test.YgcoaaGreatSfN
set_option linter.unusedVariables false
set_option linter.unusedSimpArgs false
namespace Go.Sf

/-- A row of the table: a function, its arguments' kinds, its answer's, and what its variables hold. -/
structure Row where
  g : Nat
  ps : D
  r : D
  al : Nat → TypeId → D

/-- What a call yields: as a row of the table tells, or as the contracts. -/
def sgL (base : FuncId → D → Option D) : List Row → FuncId → D → Option D
  | [], g, ps => base g ps
  | e :: l, g, ps => match sgL base l g ps with
    | some r => some r
    | none => bif (Nat.beq e.g g && leL le2 ps e.ps) then some e.r else none

def envL (P : Program) (E : TypeId → Option D) (base xg : FuncId → D → Option D) (l : List Row) (al : Nat → TypeId → D) : Env :=
  { P := P, al := al, E := E, sg := sgL base l, xg := xg }

/-- A table each of whose rows is checked by those below it. -/
def Rows (P : Program) (E : TypeId → Option D) (base xg : FuncId → D → Option D) : List Row → Prop
  | [] => True
  | e :: l => fnB (envL P E base xg l e.al) (fun _ => true) e.g e.ps e.r = true ∧ Rows P E base xg l

theorem Args.le {Γ : Gam} {ps qs : D} {xs : Array Value} (h : leL le2 ps qs = true) (x : Args Γ ps xs) : Args Γ qs xs := by
  obtain ⟨g1, g2⟩ := leL_at h
  refine ⟨x.1.trans g1, fun j d hd => ?_⟩
  obtain ⟨d', q1, q2⟩ := g2 j d hd
  obtain ⟨v, hv, hc⟩ := x.2 j d' q1
  exact ⟨v, hv, hc.le q2⟩

theorem rows_con {P : Program} {E : TypeId → Option D} {base xg : FuncId → D → Option D}
    (hbase : ∀ g ps r, base g ps = some r → Con P g ps r) (hE : EqAll P E) (hx : ∀ g ps r, xg g ps = some r → XCon P g ps r) :
    ∀ {L : List Row}, Rows P E base xg L → ∀ g ps r, sgL base L g ps = some r → Con P g ps r
  | [], _, g, ps, r, h => hbase g ps r h
  | e :: l, hR, g, ps, r, h => by
    unfold sgL at h
    cases hl : sgL base l g ps with
    | some r' =>
      rw [hl] at h
      cases h
      exact rows_con hbase hE hx hR.2 g ps _ hl
    | none =>
    rw [hl] at h
    dsimp only at h
    cases hb : (Nat.beq e.g g && leL le2 ps e.ps) with
    | false =>
      rw [hb] at h
      cases h
    | true =>
      rw [hb] at h
      cases h
      simp only [Bool.and_eq_true] at hb
      have e1 : e.g = g := Nat.eq_of_beq_eq_true hb.1
      subst e1
      have hG : Given (envL P E base xg l e.al) (fun _ => true) := ⟨hE, fun g' ps' r' _ hs => rows_con hbase hE hx hR.2 g' ps' r' hs, hx⟩
      have hc : Con P e.g e.ps e.r := fn_ok hG hR.1
      intro Γ w xs hw ha
      exact hc Γ w xs hw (ha.le hb.2)
end Go.Sf
