/-
  One answer in every memory: RoundDecFlags, dec.Text; ex.readFlags.
-/
import Derived.Test.YgcoaaGreatDetX
import Derived.Test.YgcoaaGreatDetE
import Derived.Test.YgcoaaGreatDmF
set_option linter.unusedVariables false
set_option linter.unusedSimpArgs false
set_option maxRecDepth 20000
namespace Go.Proofs.YgcoaaGreat.SfW
open Go Go.Sf
/-- softfloat/exact.RoundDecFlags -/
theorem con110 : Con Oaag.prog 110 (.cons d0 (.cons (.int .u8 0 255) (.cons d8 .nil))) d19 := con_row (by kernel_rfl)
end Go.Proofs.YgcoaaGreat.SfW
namespace Go.Proofs.YgcoaaGreat.Det
open Go Go.RowKit Go.Proofs.YgcoaaGreat.NatW Go.Proofs.Oaag.Twn Go.Proofs.YgcoaaGreat.SfW
theorem det110 (E M : Nat) (hf : fok E M = true) (a1 : Int) (l1 : 0 ≤ a1) (u1 : a1 ≤ 255) (b2 : Bool) (s2 : ByteArray) (z2 : s2.size ≤ 800) (a2 : Int) (l2 : -32768 ≤ a2) (u2 : a2 ≤ 32767) : Det 110 (argsAt [.v (fmt E M), .v (.int .u8 a1), .v (.agg #[.bool b2, .string s2, .int .i16 a2])]) d19 :=
  detS [.v (fmt E M), .v (.int .u8 a1), .v (.agg #[.bool b2, .string s2, .int .i16 a2])] (.cons d0 (.cons (.int .u8 0 255) (.cons d8 .nil))) d19 3 (by decide) rfl (by kernel_rfl) (by kernel_rfl) (by kernel_rfl) (by simp [Arg.ok, selfV, selfC, fmt]) con110 (args_cons (fmt_one hf) (args_cons ⟨a1, rfl, l1, u1⟩ (args_cons (dec_one z2 l2 u2) args_nil)))
/-- Two results: a pattern and flags. -/
theorem tup_uf {Γ : Sf.Gam} {v : Value} (h : Sf.val Γ d19 v) : ∃ r f : Int, v = .tuple #[.int .u64 r, .int .u8 f] := by
  obtain ⟨xs, rfl, h1, h2⟩ := h
  have h1' : xs.size = 2 := h1
  obtain ⟨x0, e0, n0, q0, _⟩ := h2 0 _ rfl
  obtain ⟨x1, e1, n1, q1, _⟩ := h2 1 _ rfl
  subst q0 q1
  refine ⟨n0, n1, ?_⟩
  congr 1
  apply Array.ext_getElem?
  intro i
  match i with
  | 0 => rw [e0]; rfl
  | 1 => rw [e1]; rfl
  | i + 2 => rw [Array.getElem?_eq_none (by omega)]; rfl
theorem rdf_df (E M : Nat) (hf : fok E M = true) (a1 : Int) (l1 : 0 ≤ a1) (u1 : a1 ≤ 255) (b2 : Bool) (s2 : ByteArray) (z2 : s2.size ≤ 800) (a2 : Int) (l2 : -32768 ≤ a2) (u2 : a2 ≤ 32767) : ∃ r f : Int, DF 110 #[fmt E M, .int .u8 a1, .agg #[.bool b2, .string s2, .int .i16 a2]] (.tuple #[.int .u64 r, .int .u8 f]) := by
  obtain ⟨v, hv, h⟩ := det110 E M hf a1 l1 u1 b2 s2 z2 a2 l2 u2
  obtain ⟨r, f, rfl⟩ := tup_uf hv
  exact ⟨r, f, fun w tb K ho hK => h w tb K ho hK⟩
theorem flagText_df (f : Int) : ∃ s : ByteArray, DF 237 #[.int .u8 f] (.string s) := by
  obtain ⟨_, ⟨s, rfl, _⟩, h⟩ := flagText_det f
  exact ⟨s, fun w tb K ho hK => h w tb K ho hK⟩
theorem decText_df (n : Bool) (d : ByteArray) (hd : d.size ≤ 100000) (e : Int) (h1 : -32768 ≤ e) (h2 : e ≤ 32767) : ∃ s : ByteArray, DF 56 #[.agg #[.bool n, .string d, .int .i16 e]] (.string s) := by
  obtain ⟨_, ⟨s, rfl, _⟩, h⟩ := detQ [.v (.agg #[.bool n, .string d, .int .i16 e])] 1 (by decide) rfl (by kernel_rfl) (by kernel_rfl) (by simp [Arg.ok, selfV, selfC]) (text_ret n d hd e h1 h2) (by rintro _ ⟨_, rfl, _⟩; rfl)
  exact ⟨s, fun w tb K ho hK => h w tb K ho hK⟩
end Go.Proofs.YgcoaaGreat.Det
namespace Go.Proofs.YgcoaaGreat.NatW
open Go.RowKit
open Go.Proofs.YgcoaaGreat.Det
attribute [local go_sem] Go.Instr.field Go.asAgg

set_option maxHeartbeats 2000000 in
/-- ex.readFlags: one answer in every memory. -/
theorem exReadFlags_x (E M : Nat) (hf : fok E M = true) (md : Int) (l1 : 0 ≤ md) (u1 : md ≤ 255) (text : ByteArray) : ∃ s : ByteArray, DF 241 #[fmt E M, .int .u8 md, .string text] (.string s) := by
  obtain ⟨_, ⟨k, n, d, e, p, g, rfl, k1, k2, k3, k4, k5⟩, hS⟩ := dscan_x text
  simp only [scanV] at hS
  obtain ⟨r, f, hR⟩ := rdf_df E M hf md l1 u1 n d k3 e k4 k5
  obtain ⟨sf, hF⟩ := flagText_df f
  have fin : ∀ s, (k = 3 → s = ⟨#[119, 114, 111, 110, 103]⟩) → (k = 4 → s = ⟨#[116, 111, 111, 32, 98, 105, 103]⟩) → (¬ k = 3 → ¬ k = 4 → s = sf) → DF 241 #[fmt E M, .int .u8 md, .string text] (.string s) := by
    intro s q3 q4 q5 w tb K ho hK
    have HK := hide hK
    clear hK
    have hb0 : Below w.heap.size w (w.alloc (Obj.cells #[Value.int IntKind.u8 E, Value.int IntKind.u8 M] 23)) := (Below.refl _ _).alloc (Nat.le_refl _) _
    have HO := hide (ho.later hb0)
    have HB0 := hide hb0
    clear ho hb0
    rcases (by omega : k = 3 ∨ k = 4 ∨ (¬ k = 3 ∧ ¬ k = 4)) with hk | hk | ⟨hk3, hk4⟩
    · rw [q3 hk] at HK
      clear q3 q4 q5
      subst hk
      go_enter Oaag.func241, Oaag.ntmps241
      go_wp2_with ((with_reducible refine DF.run hS (unhide HO) ?_); intro W2 hb; have HB := hide ((unhide HB0).trans (hb.mono (by simp))); clear hb)
      exact unhide HK _ ((unhide HB).alloc (unhide HB).size _)
    · rw [q4 hk] at HK
      clear q3 q4 q5
      subst hk
      go_enter Oaag.func241, Oaag.ntmps241
      go_wp2_with ((with_reducible refine DF.run hS (unhide HO) ?_); intro W2 hb; have HB := hide ((unhide HB0).trans (hb.mono (by simp))); clear hb)
      exact unhide HK _ ((unhide HB).alloc (unhide HB).size _)
    · rw [q5 hk3 hk4] at HK
      clear q3 q4 q5
      have b3 : (k == 3) = false := beq_false_of_ne hk3
      have b4 : (k == 4) = false := beq_false_of_ne hk4
      clear hk3 hk4
      go_enter Oaag.func241, Oaag.ntmps241
      go_wp2_with (first
        | ((with_reducible refine DF.run hS (unhide HO) ?_); intro W2 hb; have HB := hide ((unhide HB0).trans (hb.mono (by simp))); have d0 : W2.cell? ⟨w.heap.size, 0, none⟩ = some (.int .u8 E) := (hb.cell (p := ⟨w.heap.size, 0, none⟩) (by simp)).trans (by simp); have d1 : W2.cell? ⟨w.heap.size, 1, none⟩ = some (.int .u8 M) := (hb.cell (p := ⟨w.heap.size, 1, none⟩) (by simp)).trans (by simp); have lt2 : w.heap.size < W2.heap.size := Nat.lt_of_lt_of_le (by simp) hb.size; have HO2 := hide ((unhide HO).later hb); clear hb)
        | ((with_reducible refine DF.run hR ((unhide HO2).later ((Below.refl _ _).alloc (Nat.le_refl _) _)) ?_); intro W3 hb; have HO3 := hide (((unhide HO2).later ((Below.refl _ _).alloc (Nat.le_refl _) _)).later hb); have HB3 := hide (((unhide HB).alloc (unhide HB).size _).trans (hb.mono (by simp; omega))); clear hb)
        | ((with_reducible refine DF.run hF (unhide HO3) ?_); intro W4 hb; have HB4 := hide ((unhide HB3).trans (hb.mono (unhide HB3).size)); clear hb))
      exact unhide HK _ (unhide HB4)
  by_cases e3 : k = 3
  · exact ⟨_, fin _ (fun _ => rfl) (fun h => by omega) (fun h _ => absurd e3 h)⟩
  · by_cases e4 : k = 4
    · exact ⟨_, fin _ (fun h => by omega) (fun _ => rfl) (fun _ h => absurd e4 h)⟩
    · exact ⟨_, fin _ (fun h => absurd h e3) (fun h => absurd h e4) (fun _ _ => rfl)⟩
end Go.Proofs.YgcoaaGreat.NatW
