/-
  Package dmodel: number, with tape zero: Scan, the whole.
-/
import Derived.Test.YgcoaaGreatDmE
set_option linter.unusedVariables false
set_option linter.unusedSimpArgs false
set_option maxRecDepth 20000
namespace Go.Proofs.YgcoaaGreat.NatW
open Go.RowKit
open Go.Proofs.YgcoaaGreat.Det
attribute [local go_sem] Go.Instr.field Go.asAgg

set_option maxHeartbeats 2000000 in
theorem dscan_big (text : ByteArray) (hs : 1024 < text.size) : TRet 228 #[.string text] NumR := by
  intro w tb K ho ht hK
  have HK := hide hK
  clear hK
  have E := hide (Emp.new ho ht)
  clear ho ht
  go_enter Oaag.func228, Oaag.ntmps228
  go_wp2_with fail
  refine bodyPost_box rfl ?_
  intro r hr
  simp [results, Oaag.results228, go_sem] at hr
  subst hr
  refine ⟨_, rfl, ?_⟩
  exact unhide HK _ _ numR_big ((Below.refl _ _).alloc (Nat.le_refl _) _)

theorem bytes1 (s : List UInt8) (h : s.length ≤ 8) : (ByteArray.mk s.toArray).size ≤ 1000000 := by
  show s.toArray.size ≤ _
  rw [List.size_toArray]; omega
theorem dscan_t (text : ByteArray) : TRet 228 #[.string text] NumR := by
  by_cases hs : text.size ≤ 1024
  · have all : ∀ b : ByteArray, b.size ≤ 1024 → (∃ n1 : Nat, n1 ≤ b.size ∧ DF 363 #[.string b, .string ⟨#[105]⟩] (.int .i64 n1)) ∧ (∃ n1 : Nat, n1 ≤ b.size ∧ DF 363 #[.string b, .string ⟨#[105, 110, 102, 105, 110, 105, 116, 121]⟩] (.int .i64 n1)) ∧ (∃ n1 : Nat, n1 ≤ b.size ∧ DF 363 #[.string b, .string ⟨#[110]⟩] (.int .i64 n1)) ∧ (∃ n1 : Nat, n1 ≤ b.size ∧ DF 363 #[.string b, .string ⟨#[110, 97, 110]⟩] (.int .i64 n1)) := fun b hb => by
      have h8 : ∀ v : ByteArray, v.size ≤ 8 → ∃ n1 : Nat, n1 ≤ b.size ∧ DF 363 #[.string b, .string v] (.int .i64 n1) := fun v hv => matched_i b v (by omega) (by omega)
      exact ⟨h8 _ (by decide), h8 _ (by decide), h8 _ (by decide), h8 _ (by decide)⟩
    by_cases h0 : text.size = 0
    · have e := empty_of h0
      subst e
      obtain ⟨⟨n1, a1, b1⟩, ⟨n2, a2, b2⟩, ⟨n3, a3, b3⟩, n4, a4, b4⟩ := all ByteArray.empty (Nat.zero_le _)
      exact scan_none n1 a1 b1 n2 a2 b2 n3 a3 b3 n4 a4 b4 (fun neg => number_t ⟨#[]⟩ ByteArray.empty 0 neg (Nat.zero_le _) (Nat.le_refl _))
    · have h0' : 0 < text.size := by omega
      have sgn : ∀ sg, ((byt text 0 : Int) == 43) = sg → ((byt text 0 : Int) == 45) = !sg → TRet 228 #[.string text] NumR := fun sg q1 q2 => by
        have hbs : 1 + (text.extract 1 text.size).size ≤ text.size := by rw [ByteArray.size_extract]; omega
        obtain ⟨⟨n1, a1, b1⟩, ⟨n2, a2, b2⟩, ⟨n3, a3, b3⟩, n4, a4, b4⟩ := all (text.extract 1 text.size) (by omega)
        exact scan_sign text hs h0' sg q1 q2 _ rfl hbs n1 a1 b1 n2 a2 b2 n3 a3 b3 n4 a4 b4 (fun neg => number_t text _ 1 neg (by omega) (by omega))
      by_cases q1 : (byt text 0 : Int) = 43
      · exact sgn true (by rw [q1]; decide) (by rw [q1]; decide)
      · by_cases q2 : (byt text 0 : Int) = 45
        · exact sgn false (by rw [q2]; decide) (by rw [q2]; decide)
        · obtain ⟨⟨n1, a1, b1⟩, ⟨n2, a2, b2⟩, ⟨n3, a3, b3⟩, n4, a4, b4⟩ := all text hs
          exact scan_bare text hs h0' (beq_false_of_ne q1) (beq_false_of_ne q2) (by simp) n1 a1 b1 n2 a2 b2 n3 a3 b3 n4 a4 b4 (fun neg => number_t text text 0 neg (by omega) (by omega))
  · exact dscan_big text (by omega)

/-- dmodel.Scan: one answer in every memory. -/
theorem dscan_x (text : ByteArray) : ∃ v, NumR v ∧ DF 228 #[.string text] v := by
  obtain ⟨v, hv, hD⟩ := zdet [.v (.string text)] 1 (by decide) rfl (by kernel_rfl) (by kernel_rfl) (by simp [Arg.ok, selfV, selfC]) (dscan_t text) (by rintro _ ⟨_, _, _, _, _, _, rfl, _⟩; rfl)
  exact ⟨v, hv, fun w tb K ho hK => hD w tb K ho hK⟩
end Go.Proofs.YgcoaaGreat.NatW
