/-
  Package slow: Slow, SlowFlags, parse.Flags: one answer in every memory.
-/
import Derived.Test.YgcoaaGreatSlP
import Derived.Test.YgcoaaGreatMxA
import Derived.Test.YgcoaaGreatDetY
set_option linter.unusedVariables false
set_option linter.unusedSimpArgs false
set_option maxRecDepth 20000
namespace Go.Proofs.YgcoaaGreat.NatW
open Go.RowKit
open Go.Proofs.YgcoaaGreat.Det
open Go.Proofs.YgcoaaGreat.Limbs Go.Proofs.YgcoaaGreat.Bits
attribute [local go_sem] Go.Instr.field Go.asAgg


theorem sflags_run (w : World) (E M : Nat) (hf : fok E M = true) (m : Int) (n : Bool) (d : ByteArray) (e : Int) (h1 : -32768 ≤ e) (h2 : e ≤ 32767) (hd : d.size ≤ 1000000) (ht : w.tape = fun _ _ => 0) :
    Calls Oaag.prog 111 #[fmt E M, .int .u8 m, .agg #[.bool n, .string d, .int .i16 e]] w fun z w' => ∃ v, z = .returned v ∧ PatR v := by
  by_cases hc : Canon d e
  · by_cases hz : d.size = 0
    · exact sflags_z w E M hf m n d e h1 h2 hd hc hz ht
    · exact sflags_b w E M hf m n d e h1 h2 hd hc hz ht
  · exact sflags_no w E M hf m n d e h1 h2 hd hc ht
theorem sflags_x (E M : Nat) (hf : fok E M = true) (m : Int) (n : Bool) (d : ByteArray) (e : Int) (h1 : -32768 ≤ e) (h2 : e ≤ 32767) (hd : d.size ≤ 1000000) : ∃ v, PatR v ∧ DR 111 (argsAt [.v (fmt E M), .v (.int .u8 m), .v (.agg #[.bool n, .string d, .int .i16 e])]) v :=
  detP [.v (fmt E M), .v (.int .u8 m), .v (.agg #[.bool n, .string d, .int .i16 e])] 3 (by decide) rfl (by kernel_rfl) (by kernel_rfl) (by simp [Arg.ok, selfV, selfC, fmt]) (sflags_run w0 E M hf m n d e h1 h2 hd rfl) (by rintro _ ⟨_, _, rfl, _⟩; rfl)

set_option maxHeartbeats 1000000 in
theorem slow_dft (E M : Nat) (m : Int) (n : Bool) (d : ByteArray) (e r f : Int) (hD : DR 111 (argsAt [.v (fmt E M), .v (.int .u8 m), .v (.agg #[.bool n, .string d, .int .i16 e])]) (.tuple #[.int .u64 r, .int .u8 f])) (tb : Nat) : DFT tb 59 #[fmt E M, .int .u8 m, .agg #[.bool n, .string d, .int .i16 e]] (.int .u64 r) := by
  intro w K ho hK
  have HK := hide hK
  have HO := hide ho
  have HD := hide hD
  clear hK ho hD
  go_enter Oaag.func59, Oaag.ntmps59
  go_wp2_with (first
    | (with_reducible refine at_fn 111 ?_
       refine gen_calls ?_
       intro W hW
       have hb0 : Below w.heap.size w W := by rw [← hW]; exact ((Below.refl _ _).alloc (Nat.le_refl _) _).alloc (by rw [size_new]; omega) _
       clear hW
       refine (unhide HD) W tb _ ((unhide HO).later hb0) ?_
       intro W2 hb
       have HB := hide (hb0.trans (hb.mono hb0.size))
       clear hb hb0)
    | fail)
  all_goals exact unhide HK _ (unhide HB)

set_option maxHeartbeats 1000000 in
theorem pflags_dft (E M : Nat) (m : Int) (n : Bool) (d : ByteArray) (e r f : Int) (hD : DR 111 (argsAt [.v (fmt E M), .v (.int .u8 m), .v (.agg #[.bool n, .string d, .int .i16 e])]) (.tuple #[.int .u64 r, .int .u8 f])) (tb : Nat) : DFT tb 170 #[fmt E M, .int .u8 m, .agg #[.bool n, .string d, .int .i16 e]] (.int .u8 f) := by
  intro w K ho hK
  have HK := hide hK
  have HO := hide ho
  have HD := hide hD
  clear hK ho hD
  go_enter Oaag.func170, Oaag.ntmps170
  go_wp2_with (first
    | (with_reducible refine at_fn 111 ?_
       refine gen_calls ?_
       intro W hW
       have hb0 : Below w.heap.size w W := by rw [← hW]; exact ((Below.refl _ _).alloc (Nat.le_refl _) _).alloc (by rw [size_new]; omega) _
       clear hW
       refine (unhide HD) W tb _ ((unhide HO).later hb0) ?_
       intro W2 hb
       have HB := hide (hb0.trans (hb.mono hb0.size))
       clear hb hb0)
    | fail)
  all_goals exact unhide HK _ (unhide HB)

/-- SLOW.SLOW and PARSE.FLAGS: one answer in every memory. -/
theorem slow_x (E M : Nat) (hf : fok E M = true) (m : Int) (n : Bool) (d : ByteArray) (e : Int) (h1 : -32768 ≤ e) (h2 : e ≤ 32767) (hd : d.size ≤ 1000000) : ∃ r f, U64 r ∧ (∀ tb, DFT tb 59 #[fmt E M, .int .u8 m, .agg #[.bool n, .string d, .int .i16 e]] (.int .u64 r)) ∧ (∀ tb, DFT tb 170 #[fmt E M, .int .u8 m, .agg #[.bool n, .string d, .int .i16 e]] (.int .u8 f)) := by
  obtain ⟨_, ⟨r, f, rfl, ur⟩, hD⟩ := sflags_x E M hf m n d e h1 h2 hd
  exact ⟨r, f, ur, slow_dft E M m n d e r f hD, pflags_dft E M m n d e r f hD⟩
end Go.Proofs.YgcoaaGreat.NatW
