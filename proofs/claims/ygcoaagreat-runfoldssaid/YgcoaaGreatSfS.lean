/-
  One run of one text: further contracts, for this program.
-/
import Derived.Test.YgcoaaGreatSfR
import Derived.Test.YgcoaaGreatDecD
import Derived.Test.YgcoaaGreatExF
import Derived.Test.YgcoaaGreatSoC
set_option linter.unusedVariables false
set_option linter.unusedSimpArgs false
set_option maxRecDepth 20000
namespace Go.Proofs.YgcoaaGreat.SfW
open Go Go.Sf Go.Proofs.YgcoaaGreat.NatW
open Go.Proofs.YgcoaaGreat.Limbs (lim)

/-- A function that leaves memory alone, by its contract. -/
theorem con_ret {g : FuncId} {ps r : D} (h : ∀ Γ xs, Args Γ ps xs → ∃ Ψ, Ret g xs Ψ ∧ ∀ v, Ψ v → Sf.val Γ r v) : Con Oaag.prog g ps r := by
  intro Γ w xs hw ha
  obtain ⟨Ψ, h1, h2⟩ := h Γ xs ha
  exact h1 w _ fun v w' hv hb => ⟨v, Γ, rfl, (nex_below hw hb).ex, h2 v hv⟩

theorem args3 {Γ : Gam} {d d' d'' : D} {xs : Array Value} (h : Args Γ (.cons d (.cons d' (.cons d'' .nil))) xs) : ∃ v v' v'', xs = #[v, v', v''] ∧ Sf.one Γ d v ∧ Sf.one Γ d' v' ∧ Sf.one Γ d'' v'' := by
  obtain ⟨h1, h2⟩ := h
  obtain ⟨v, e, hv⟩ := h2 0 d rfl
  obtain ⟨v', e', hv'⟩ := h2 1 d' rfl
  obtain ⟨v'', e'', hv''⟩ := h2 2 d'' rfl
  refine ⟨v, v', v'', ?_, hv, hv', hv''⟩
  have hs : xs.size = 3 := h1
  apply Array.ext (by simp [hs])
  intro i hi hj
  simp only [Array.getElem?_eq_some_iff] at e e' e''
  obtain ⟨_, e⟩ := e
  obtain ⟨_, e'⟩ := e'
  obtain ⟨_, e''⟩ := e''
  have : i = 0 ∨ i = 1 ∨ i = 2 := by simp at hj; omega
  rcases this with rfl | rfl | rfl
  · simpa using e
  · simpa using e'
  · simpa using e''

theorem agg3 {Γ : Gam} {d d' d'' : D} {v : Value} (h : Sf.one Γ (.agg (.cons d (.cons d' (.cons d'' .nil)))) v) : ∃ x x' x'', v = .agg #[x, x', x''] ∧ cel Γ d x ∧ cel Γ d' x' ∧ cel Γ d'' x'' := by
  obtain ⟨xs, rfl, h1, h2⟩ := h
  obtain ⟨v, e, hv⟩ := h2 0 d rfl
  obtain ⟨v', e', hv'⟩ := h2 1 d' rfl
  obtain ⟨v'', e'', hv''⟩ := h2 2 d'' rfl
  refine ⟨v, v', v'', ?_, hv, hv', hv''⟩
  congr 1
  have hs : xs.size = 3 := h1
  apply Array.ext (by simp [hs])
  intro i hi hj
  simp only [Array.getElem?_eq_some_iff] at e e' e''
  obtain ⟨_, e⟩ := e
  obtain ⟨_, e'⟩ := e'
  obtain ⟨_, e''⟩ := e''
  have : i = 0 ∨ i = 1 ∨ i = 2 := by simp at hj; omega
  rcases this with rfl | rfl | rfl
  · simpa using e
  · simpa using e'
  · simpa using e''

def i16D : D := .int .i16 (-32768) 32767
def decD (n : Nat) : D := .agg (.cons (.bool none) (.cons (.str n) (.cons i16D .nil)))

theorem con_itoa : Con Oaag.prog 36 (.cons i64D .nil) (.str 20) := by
  refine con_ret fun Γ xs ha => ?_
  obtain ⟨v, rfl, z, rfl, z1, z2⟩ := args1 ha
  refine ⟨_, itoa_ret z z1 z2, ?_⟩
  rintro v ⟨s, rfl, hs⟩
  exact ⟨s, rfl, hs⟩

theorem con_decOk : Con Oaag.prog 39 (.cons (decD 100000) .nil) (.bool none) := by
  refine con_ret fun Γ xs ha => ?_
  obtain ⟨v, rfl, hv⟩ := args1 ha
  obtain ⟨_, _, _, rfl, ⟨b, rfl, _⟩, ⟨s, rfl, hs⟩, z, rfl, z1, z2⟩ := agg3 hv
  refine ⟨_, decOk_ret b s z z1 z2 (by omega), ?_⟩
  rintro v ⟨c, rfl, _⟩
  exact ⟨c, rfl, fun c hc => by cases hc⟩

theorem con_make : Con Oaag.prog 35 (.cons (.bool none) (.cons (.str 1000000) (.cons (.int .i64 (-1000000000) 1000000000) .nil))) (tup2 (decD 800) (.bool none)) := by
  refine con_ret fun Γ xs ha => ?_
  obtain ⟨_, _, _, rfl, ⟨b, rfl, _⟩, ⟨s, rfl, hs⟩, z, rfl, z1, z2⟩ := args3 ha
  refine ⟨_, make_ret b s z z1 z2 hs, ?_⟩
  rintro v ⟨n', d', e', ok, rfl, hc⟩
  refine ⟨_, rfl, rfl, fun j d hd => ?_⟩
  match j with
  | 0 =>
    cases hd
    refine ⟨_, rfl, _, rfl, rfl, fun j d hd => ?_⟩
    match j with
    | 0 => cases hd; exact ⟨_, rfl, _, rfl, fun c hc => by cases hc⟩
    | 1 => cases hd; exact ⟨_, rfl, _, rfl, by rcases hc with h | h <;> omega⟩
    | 2 => cases hd; exact ⟨_, rfl, _, rfl, by rcases hc with h | h <;> omega, by rcases hc with h | h <;> omega⟩
    | j + 3 => cases hd
  | 1 => cases hd; exact ⟨_, rfl, _, rfl, fun c hc => by cases hc⟩
  | j + 2 => cases hd

theorem con_text : Con Oaag.prog 56 (.cons (decD 100000) .nil) (.str 200000) := by
  refine con_ret fun Γ xs ha => ?_
  obtain ⟨v, rfl, hv⟩ := args1 ha
  obtain ⟨_, _, _, rfl, ⟨b, rfl, _⟩, ⟨s, rfl, hs⟩, z, rfl, z1, z2⟩ := agg3 hv
  refine ⟨_, text_ret b s hs z z1 z2, ?_⟩
  rintro v ⟨s, rfl, hs⟩
  exact ⟨s, rfl, hs⟩

theorem con_textE : Con Oaag.prog 367 (.cons (.bool none) (.cons (.str 100000) (.cons i16D .nil))) (.str 200000) := by
  refine con_ret fun Γ xs ha => ?_
  obtain ⟨_, _, _, rfl, ⟨b, rfl, _⟩, ⟨s, rfl, hs⟩, z, rfl, z1, z2⟩ := args3 ha
  refine ⟨_, textE_ret b s hs z z1 z2, ?_⟩
  rintro v ⟨s, rfl, hs⟩
  exact ⟨s, rfl, hs⟩

theorem con_flagText : Con Oaag.prog 237 (.cons (.int .u8 0 255) .nil) (.str 5) := by
  refine con_ret fun Γ xs ha => ?_
  obtain ⟨v, rfl, z, rfl, z1, z2⟩ := args1 ha
  refine ⟨_, flagText_ret z z1 z2, ?_⟩
  rintro v ⟨s, rfl, hs⟩
  exact ⟨s, rfl, hs⟩

theorem con_ofDigits : Con Oaag.prog 77 (.cons (.str 1000) .nil) (nat 3003) := by
  intro Γ w xs hw ha
  obtain ⟨v1, rfl, s, rfl, hs⟩ := args1 ha
  refine (ofDigits_any w s hs).mono ?_
  rintro e w' ⟨n, a', cap', rfl, hr, hl, hb⟩
  obtain ⟨Γ2, q1, _, q3⟩ := nex_res (n := 3003) (nex_below hw hb) hr hl
  exact ⟨_, Γ2, rfl, q1.ex, Sf.val_of_one q3⟩

/-- A contract of one kind. -/
def fix (e r : D) (ps : D) : Option D := bif leL le2 ps e then some r else none
theorem fix_ok {g : FuncId} {e r0 : D} (h : Con Oaag.prog g e r0) {ps r : D} (he : fix e r0 ps = some r) : Con Oaag.prog g ps r := by
  unfold fix at he
  cases hb : leL le2 ps e with
  | false => rw [hb] at he; cases he
  | true => rw [hb] at he; cases he; exact h.le hb

def baseD (g : FuncId) : D → Option D :=
  bif Nat.beq g 36 then fix (.cons i64D .nil) (.str 20) else
  bif Nat.beq g 39 then fix (.cons (decD 100000) .nil) (.bool none) else
  bif Nat.beq g 35 then fix (.cons (.bool none) (.cons (.str 1000000) (.cons (.int .i64 (-1000000000) 1000000000) .nil))) (tup2 (decD 800) (.bool none)) else
  bif Nat.beq g 56 then fix (.cons (decD 100000) .nil) (.str 200000) else
  bif Nat.beq g 367 then fix (.cons (.bool none) (.cons (.str 100000) (.cons i16D .nil))) (.str 200000) else
  bif Nat.beq g 237 then fix (.cons (.int .u8 0 255) .nil) (.str 5) else
  bif Nat.beq g 77 then fix (.cons (.str 1000) .nil) (nat 3003) else
  baseN g

theorem baseD_ok {g : FuncId} {ps r : D} (h : baseD g ps = some r) : Con Oaag.prog g ps r := by
  unfold baseD at h
  by_cases e : g = 36
  · rw [bif_true e] at h; subst e; exact fix_ok con_itoa h
  rw [bif_false e] at h; clear e
  by_cases e : g = 39
  · rw [bif_true e] at h; subst e; exact fix_ok con_decOk h
  rw [bif_false e] at h; clear e
  by_cases e : g = 35
  · rw [bif_true e] at h; subst e; exact fix_ok con_make h
  rw [bif_false e] at h; clear e
  by_cases e : g = 56
  · rw [bif_true e] at h; subst e; exact fix_ok con_text h
  rw [bif_false e] at h; clear e
  by_cases e : g = 367
  · rw [bif_true e] at h; subst e; exact fix_ok con_textE h
  rw [bif_false e] at h; clear e
  by_cases e : g = 237
  · rw [bif_true e] at h; subst e; exact fix_ok con_flagText h
  rw [bif_false e] at h; clear e
  by_cases e : g = 77
  · rw [bif_true e] at h; subst e; exact fix_ok con_ofDigits h
  rw [bif_false e] at h; clear e
  exact baseN_ok h
end Go.Proofs.YgcoaaGreat.SfW
