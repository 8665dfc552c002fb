/-
  Package exact: candidate with tape zero.
-/
import Derived.Test.YgcoaaGreatRsH
set_option linter.unusedVariables false
set_option linter.unusedSimpArgs false
set_option maxRecDepth 20000
namespace Go.Proofs.YgcoaaGreat.NatW
open Go.RowKit
open Go.Proofs.YgcoaaGreat.Det
attribute [local go_sem] Go.Instr.field Go.asAgg

def opd (bits : Int) (neg : Bool) (cl : Int) (vn : Bool) (num den : Value) : Value := .agg #[.int .u64 bits, .bool neg, .int .i8 cl, .bool vn, num, den]
structure CdB (tb n0 : Nat) (E M : Nat) (bits : Int) (neg : Bool) (cl : Int) (vn : Bool) (num den : Value) (w W : World) : Prop where
  on : On tb W
  tape : W.tape = fun _ _ => 0
  lt : n0 + 3 ≤ W.heap.size
  h0 : W.heap[n0]? = some (.cells #[.int .u8 E, .int .u8 M] 23 (0, 0))
  h1 : W.heap[n0 + 1]? = some (.cells #[.int .u64 bits, .bool neg, .int .i8 cl, .bool vn, num, den] 236 (0, 0))
  h2 : W.heap[n0 + 2]? = some (.cells #[.bool false, .string ⟨#[]⟩, .int .i16 0] 74 (0, 0))
  below : Below n0 w W
theorem CdB.later {tb n0 E M : Nat} {bits cl : Int} {neg vn : Bool} {num den : Value} {w W W' : World} (h : CdB tb n0 E M bits neg cl vn num den w W) (hb : Below W.heap.size W W') : CdB tb n0 E M bits neg cl vn num den w W' :=
  ⟨h.on.later hb, hb.tape.trans h.tape, Nat.le_trans h.lt hb.size, (hb.block _ (by have := h.lt; omega)).trans h.h0, (hb.block _ (by have := h.lt; omega)).trans h.h1, (hb.block _ (by have := h.lt; omega)).trans h.h2, h.below.trans (hb.mono (by have := h.lt; omega))⟩
theorem CdB.drew {tb n0 E M : Nat} {bits cl : Int} {neg vn : Bool} {num den : Value} {w W : World} (h : CdB tb n0 E M bits neg cl vn num den w W) : CdB tb n0 E M bits neg cl vn num den w W.drew := h.later ⟨rfl, rfl, rfl, Nat.le_refl _, fun _ _ => rfl⟩
theorem CdB.new {tb E M : Nat} (bits cl : Int) (neg vn : Bool) (num den : Value) {w : World} (ho : On tb w) (ht : w.tape = fun _ _ => 0) : CdB tb w.heap.size E M bits neg cl vn num den w (((w.alloc (.cells #[.int .u8 E, .int .u8 M] 23)).alloc (.cells #[.int .u64 bits, .bool neg, .int .i8 cl, .bool vn, num, den] 236)).alloc (.cells #[.bool false, .string ⟨#[]⟩, .int .i16 0] 74)) := by
  have hb : Below w.heap.size w (((w.alloc (.cells #[.int .u8 E, .int .u8 M] 23)).alloc (.cells #[.int .u64 bits, .bool neg, .int .i8 cl, .bool vn, num, den] 236)).alloc (.cells #[.bool false, .string ⟨#[]⟩, .int .i16 0] 74)) := (((Below.refl _ _).alloc (Nat.le_refl _) _).alloc (by rw [size_new]; omega) _).alloc (by rw [size_new, size_new]; omega) _
  exact ⟨ho.later hb, ht, by rw [size_new, size_new, size_new]; omega, row_old (row_old (row_new _ _ _ rfl)), row_old (row_new _ _ _ (size_new _ _)), row_new _ _ _ (by rw [size_new, size_new]), hb⟩

set_option maxHeartbeats 4000000 in
theorem candidate_run (w : World) (tb E M : Nat) (hf : fok E M = true) (bits cl : Int) (neg vn : Bool) (num den : Value) (n k : Int) (hn1 : -9223372036854775808 ≤ n) (hn2 : n ≤ 9223372036854775807) (hk1 : -1000000 ≤ k) (hk2 : k ≤ 1000000) (ho : On tb w) (ht : w.tape = fun _ _ => 0) :
    Calls Oaag.prog 305 #[fmt E M, opd bits neg cl vn num den, .int .i64 n, .int .i64 k] w (fun e w' => ∃ s d x b, e = .returned (.tuple #[.agg #[.bool s, .string d, .int .i16 x], .bool b]) ∧ Canon d x ∧ Below w.heap.size w w') := by
  obtain ⟨g1, g2, g3, g4⟩ := fok_bd hf
  have HO := hide ho
  have HT := hide ht
  clear ho ht
  go_enter Oaag.func305, Oaag.ntmps305
  go_wp2_with (first
    | (with_reducible refine at_reg 1 ?_
       refine gen_wp ?_
       intro W hW
       have S : CdB tb w.heap.size E M bits neg cl vn num den w W := by rw [← hW]; exact CdB.new bits cl neg vn num den (unhide HO) (unhide HT)
       clear hW
       have k1 := cellr S.h1 1 _ rfl
       have HS := hide S
       clear S
       refine wp_region_zero_list (unhide HS).tape (by kernel_rfl) ?_)
    | (with_reducible refine at_fn 36 ?_
       refine (itoa_ret n hn1 hn2) _ _ ?_
       rintro _ W2 ⟨s, rfl, hs⟩ hb
       have S := (unhide HS).drew.later hb
       clear HS hb k1)
    | (with_reducible refine at_fn 35 ?_
       refine (make_ret neg s k (by omega) (by omega) (by omega)) _ _ ?_
       rintro _ W3 ⟨n', d', e', ok, rfl, hcan⟩ hb
       replace S := S.later hb
       clear hb)
    | (with_reducible refine at_reg 2 ?_
       refine gen_wp ?_
       intro W hW
       have hrow : W.heap[W3.heap.size]? = some (.cells #[.bool n', .string d', .int .i16 e'] 74 (0, 0)) := by
         rw [← hW]; exact row_new _ _ _ rfl
       replace S : CdB tb w.heap.size E M bits neg cl vn num den w W := by
         rw [← hW]; exact S.later ((Below.refl _ _).alloc (Nat.le_refl _) _)
       clear hW
       have j0 := cellr hrow 0 _ rfl
       have j1 := cellr hrow 1 _ rfl
       have j2 := cellr hrow 2 _ rfl
       have k0 := cellr S.h0 0 _ rfl
       have k1 := cellr S.h0 1 _ rfl
       have x0 := cellr S.h1 0 _ rfl
       have r0 := cellr S.h2 0 _ rfl
       have r1 := cellr S.h2 1 _ rfl
       have r2 := cellr S.h2 2 _ rfl
       have fr := frzr S.h2
       have HR := hide hrow
       have HS := hide S
       clear S hrow
       refine wp_region_zero_list (unhide HS).tape (by kernel_rfl) ?_)
    | (with_reducible refine at_fn 58 ?_
       obtain ⟨_, ⟨r, rfl, hr0, hr1⟩, hD⟩ := det58 E M hf 0 (by omega) (by omega) n' d' (by rcases hcan with h | h <;> omega) e' (by rcases hcan with h | h <;> omega) (by rcases hcan with h | h <;> omega)
       refine hD _ tb _ (unhide HS).drew.on ?_
       intro W5 hb
       have S := (unhide HS).drew.later hb
       clear HS hb HR j0 j1 j2 k0 k1 x0 r0 r1 r2 fr hD
       have x0 := cellr S.h1 0 _ rfl
       have r0 := cellr S.h2 0 _ rfl
       have r1 := cellr S.h2 1 _ rfl
       have r2 := cellr S.h2 2 _ rfl
       have fr := frzr S.h2
       have HS := hide S
       clear S)
    | fail)
  all_goals
    refine bodyPost_box rfl ?_
    intro r hr
    simp [results, Oaag.results305, go_sem, r0, r1, r2] at hr
    subst hr
    refine ⟨_, rfl, _, _, _, _, rfl, hcan, ?_⟩
    first
      | exact below_store (below_store (below_store (unhide HS).below (by omega) _) (by omega) _) (by omega) _
      | exact below_store (below_store (below_store (unhide HS).drew.below (by omega) _) (by omega) _) (by omega) _
end Go.Proofs.YgcoaaGreat.NatW
