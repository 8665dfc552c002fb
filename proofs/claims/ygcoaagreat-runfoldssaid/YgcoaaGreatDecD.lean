/-
  Package dec: Text, TextE; so: whole.
-/
import Derived.Test.YgcoaaGreatDecC
set_option linter.unusedVariables false
set_option linter.unusedSimpArgs false
namespace Go.Proofs.YgcoaaGreat.NatW
attribute [local go_sem] Go.Instr.field Go.asAgg
open Go.RowKit
open Go.Proofs.YgcoaaGreat.Limbs Go.Proofs.YgcoaaGreat.Bits

theorem size_lit (l : Array UInt8) : (ByteArray.mk l).size = l.size := rfl
theorem toList_empty (d : ByteArray) : d.toList.isEmpty = decide (d.size = 0) := by
  rw [ByteArray.toList_eq]
  have : d.size = d.data.toList.length := Array.length_toList.symm
  rw [this]
  cases d.data.toList <;> simp
theorem app_le (a b : ByteArray) (m n k : Nat) (ha : a.size ≤ m) (hb : b.size ≤ n) (h : m + n ≤ k) : (a ++ b).size ≤ k := by
  rw [ByteArray.size_append]; omega

set_option maxRecDepth 20000 in
set_option maxHeartbeats 2000000 in
theorem whole_ret (i : Int) (h1 : -9223372036854775808 ≤ i) (h2 : i ≤ 9223372036854775807) (ok : Bool) : Ret 253 #[.int .i64 i, .bool ok] (fun v => ∃ s : ByteArray, v = .string s ∧ s.size ≤ 20) := by
  intro w K hK
  have HK := hide hK
  clear hK
  obtain ⟨wb, x0, hwb, hB⟩ := boxes0 w
  subst hwb
  have hne : Nonempty (Later wb) := ⟨x0⟩
  go_enter Oaag.func253, Oaag.ntmps253
  cases ok
  all_goals go_wp2_with (first | (with_reducible refine Go.Proofs.YgcoaaGreat.NatW.at_later 36 ?_; refine Go.Proofs.YgcoaaGreat.NatW.Ret.run (itoa_ret _ (by omega) (by omega)) _ ?_; rintro _ y__ ⟨sI, rfl, hsI⟩))
  · exact unhide HK _ _ ⟨_, rfl, by decide⟩ (hB _)
  · exact unhide HK _ _ ⟨_, rfl, hsI⟩ (hB _)

set_option maxRecDepth 20000 in
set_option maxHeartbeats 2000000 in
theorem textE_ret (n : Bool) (d : ByteArray) (hd : d.size ≤ 100000) (e : Int) (h1 : -32768 ≤ e) (h2 : e ≤ 32767) : Ret 367 #[.bool n, .string d, .int .i16 e] (fun v => ∃ s : ByteArray, v = .string s ∧ s.size ≤ 200000) := by
  intro w K hK
  have HK := hide hK
  clear hK
  obtain ⟨wb, x0, hwb, hB⟩ := boxes0 w
  subst hwb
  have hne : Nonempty (Later wb) := ⟨x0⟩
  go_enter Oaag.func367, Oaag.ntmps367
  have te := toList_empty d
  cases n
  all_goals by_cases h0 : d.size = 0
  all_goals simp only [h0, decide_true, decide_false] at te
  all_goals go_wp2_with (first | (with_reducible refine Go.Proofs.YgcoaaGreat.NatW.at_later 36 ?_; refine Go.Proofs.YgcoaaGreat.NatW.Ret.run (itoa_ret _ (by omega) (by omega)) _ ?_; rintro _ y__ ⟨sI, rfl, hsI⟩))
  all_goals first
    | exact unhide HK _ _ ⟨_, rfl, by decide⟩ (hB _)
    | (refine unhide HK _ _ ⟨_, rfl, ?_⟩ (hB _); simp only [ByteArray.size_append, ByteArray.size_extract, size_lit, List.size_toArray, List.length_cons, List.length_nil]; omega)
    | skip

set_option maxRecDepth 20000 in
set_option maxHeartbeats 2000000 in
theorem text_ret (n : Bool) (d : ByteArray) (hd : d.size ≤ 100000) (e : Int) (h1 : -32768 ≤ e) (h2 : e ≤ 32767) : Ret 56 #[.agg #[.bool n, .string d, .int .i16 e]] (fun v => ∃ s : ByteArray, v = .string s ∧ s.size ≤ 200000) := by
  intro w K hK
  have HK := hide hK
  clear hK
  obtain ⟨wb, x0, hwb, r0, hB, hZ⟩ := boxes1 w #[.bool n, .string d, .int .i16 e] 74
  have c00 : ∀ x : Later wb, _ = some (.bool n : Value) := Later.cell r0 0 _ rfl
  have c01 : ∀ x : Later wb, _ = some (.string d : Value) := Later.cell r0 1 _ rfl
  have c02 : ∀ x : Later wb, _ = some (.int .i16 e : Value) := Later.cell r0 2 _ rfl
  have R0 := hide r0
  clear r0
  have hne : Nonempty (Later wb) := ⟨x0⟩
  go_enter Oaag.func56, Oaag.ntmps56
  have te := toList_empty d
  by_cases h0 : d.size = 0
  all_goals simp only [h0, decide_true, decide_false] at te
  all_goals go_wp2_with (first
    | (with_reducible refine Go.Proofs.YgcoaaGreat.NatW.at_later 36 ?_; refine Go.Proofs.YgcoaaGreat.NatW.Ret.run (itoa_ret _ (by omega) (by omega)) _ ?_; rintro _ y__ ⟨sI, rfl, hsI⟩)
    | (with_reducible refine Go.Proofs.YgcoaaGreat.NatW.at_later 39 ?_; refine Go.Proofs.YgcoaaGreat.NatW.Ret.run (decOk_ret n d e h1 h2 (by omega)) _ ?_; rintro _ y__ ⟨bo, rfl, hbo⟩))
  all_goals first
    | exact unhide HK _ _ ⟨_, rfl, by decide⟩ (hB _)
    | (refine unhide HK _ _ ⟨_, rfl, ?_⟩ (hB _); simp only [ByteArray.size_append, ByteArray.size_extract, size_lit, List.size_toArray, List.length_cons, List.length_nil]; omega)
    | skip


end Go.Proofs.YgcoaaGreat.NatW
