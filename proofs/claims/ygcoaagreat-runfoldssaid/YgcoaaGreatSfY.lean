/-
  One run: ryu's digits as a contract; the contracts laid by hand, together.
-/
import Derived.Test.YgcoaaGreatSfW
import Derived.Test.YgcoaaGreatSfX
set_option linter.unusedVariables false
set_option linter.unusedSimpArgs false
set_option maxRecDepth 20000
namespace Go.Proofs.YgcoaaGreat.SfW
open Go Go.Sf Go.Proofs.YgcoaaGreat.NatW

def spanP : D := .ptr (.cons u64D (.cons u64D (.cons u64D (.cons (.bool none) (.cons (.bool none) (.cons (.bool none) (.cons u64D .nil)))))))
theorem span_of {Γ : Gam} {v : Value} (h : Sf.one Γ spanP v) : ∃ B O, v = .pointer (some ⟨B, O, none⟩) ∧ SpanT Γ B O := by
  obtain ⟨⟨B, O, sp⟩, rfl, hs, hc⟩ := h
  have : sp = none := hs
  subst this
  exact ⟨B, O, rfl, ⟨hc 0 _ rfl, hc 1 _ rfl, hc 2 _ rfl, hc 3 _ rfl, hc 4 _ rfl, hc 5 _ rfl, hc 6 _ rfl⟩⟩
theorem con_digits : Con Oaag.prog 307 (.cons spanP .nil) (tup2 u64D (.int .i16 0 19)) := by
  intro Γ w xs hw ha
  obtain ⟨v, rfl, hv⟩ := args1 ha
  obtain ⟨B, O, rfl, hS⟩ := span_of hv
  refine (digits_zero Γ w hw B O hS).mono ?_
  rintro e w' ⟨n, d, rfl, h0, h1, hd, hx⟩
  refine ⟨_, Γ, rfl, hx, ?_⟩
  refine ⟨#[.int .u64 n, .int .i16 d], rfl, rfl, fun j e he => ?_⟩
  match j, he with
  | 0, he => cases he; exact ⟨_, rfl, n, rfl, h0, h1⟩
  | 1, he => cases he; exact ⟨_, rfl, d, rfl, by omega, by omega⟩
def baseF (g : FuncId) : D → Option D :=
  bif Nat.beq g 307 then fix (.cons spanP .nil) (tup2 u64D (.int .i16 0 19)) else
  baseE g
theorem baseF_ok {g : FuncId} {ps r : D} (h : baseF g ps = some r) : Con Oaag.prog g ps r := by
  unfold baseF at h
  by_cases e : g = 307
  · rw [bif_true e] at h; subst e; exact fix_ok con_digits h
  rw [bif_false e] at h; clear e
  exact baseE_ok h
end Go.Proofs.YgcoaaGreat.SfW
