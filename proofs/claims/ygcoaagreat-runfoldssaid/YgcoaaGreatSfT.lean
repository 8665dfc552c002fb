/-
  One run of one text: functions by hand: hexDigit, slow's bits and mulAdd.
-/
import Derived.Test.YgcoaaGreatSfS
import Derived.Test.YgcoaaGreatSoH
import Derived.Test.YgcoaaGreatSoftI
set_option linter.unusedVariables false
set_option linter.unusedSimpArgs false
set_option maxRecDepth 20000
namespace Go.Proofs.YgcoaaGreat.NatW
open Go.RowKit
open Go.Proofs.YgcoaaGreat.Limbs
attribute [local go_sem] Go.Instr.field Go.asAgg

/-- A drawn region in the order of the text, as a list. -/
theorem wp_region_zero_list {P : Program} {id : Nat} {Q : Exit → Act → World → Prop} {a : Act} {w : World} {l : List Oper} (ht : w.tape = fun _ _ => 0)
    (hs : Region.schedule (P.follows .mixedOrders) l.toArray 0 = List.range l.toArray.size) (h : wpList P l.toArray Q l a w.drew) : (Code.region id l.toArray true).wp P Q a w := by
  refine Sf.wp_region_zero ht (fun _ => hs) ?_
  have e : List.range l.toArray.size = List.range' 0 l.length := by rw [List.range_eq_range']; simp
  rw [e, wpOps_eq_wpList l 0 (fun j => by simp)]
  exact h

set_option maxHeartbeats 1000000 in
theorem hexDigit_any (w : World) (v : Int) (h0 : 0 ≤ v) (h1 : v ≤ 18446744073709551615) : Calls Oaag.prog 336 #[.int .u64 v] w fun e w' => ∃ s : ByteArray, e = .returned (.string s) ∧ s.size ≤ 16 ∧ w = w' := by
  obtain ⟨n, rfl⟩ := Int.eq_ofNat_of_zero_le h0
  obtain ⟨i, hi, hi16⟩ : ∃ i : Nat, bits .and .u64 (n : Int) 15 = (i : Int) ∧ i < 16 := ⟨n &&& 15, u64_and_nat n 15 (by omega) (by omega), by have := @Nat.and_le_right n 15; omega⟩
  have e1 : IntKind.u64.wrap ((i : Int) + 1) = (i + 1 : Nat) := by rw [Sf.wrap_in] <;> simp [IntKind.min, IntKind.max, IntKind.signed, IntKind.bits] <;> omega
  have e2 : ((i : Nat) : Int) ≤ ((i + 1 : Nat) : Int) := by omega
  have e3 : ((i + 1 : Nat) : Int) ≤ 16 := by omega
  go_enter Oaag.func336, Oaag.ntmps336
  go_wp2_with fail
  go_ret
  refine ⟨_, rfl, ?_, rfl⟩
  exact Sf.extract_le (by decide)

set_option maxHeartbeats 1000000 in
theorem bits_zero (w : World) (ht : w.tape = fun _ _ => 0) (B O n : Nat) (hn : n ≤ 52) (z : Int) (hz : U64 z) (c0 : w.cell? ⟨B, O, none⟩ = some (.int .i64 n)) (c1 : ∀ m : Nat, n = m + 1 → w.cell? ⟨B, O + 1 + m, none⟩ = some (.int .u64 z)) :
    Calls Oaag.prog 355 #[.pointer (some ⟨B, O, none⟩)] w fun e w' => ∃ r : Int, e = .returned (.int .i64 r) ∧ 0 ≤ r ∧ r ≤ 3328 ∧ Below w.heap.size w w' := by
  cases n with
  | zero =>
    go_enter Oaag.func355, Oaag.ntmps355
    go_wp2_with fail
    go_ret
    exact ⟨0, rfl, by omega, by omega, Below.refl _ _⟩
  | succ m =>
    have k1 := c1 m rfl
    have k0 : w.drew.cell? ⟨B, O, none⟩ = some (.int .i64 ((m + 1 : Nat) : Int)) := c0
    have k2 : w.drew.cell? ⟨B, O + 1 + m, none⟩ = some (.int .u64 z) := k1
    have hne : (((m + 1 : Nat) : Int) == 0) = false := by simp; omega
    go_enter Oaag.func355, Oaag.ntmps355
    go_wp2_with fail
    refine wp_region_zero_list ht (by kernel_rfl) ?_
    go_wp2_with fail
    refine clz_ret z hz w.drew _ ?_
    rintro _ w' ⟨k, rfl, hk0, hk1, _⟩ hb
    have e1 : IntKind.i64.wrap (64 * ((m : Int) + 1)) = 64 * ((m : Int) + 1) := Sf.wrap_in (by simp [IntKind.min, IntKind.signed, IntKind.bits]; omega) (by simp [IntKind.max, IntKind.signed, IntKind.bits]; omega)
    have e2 : IntKind.i64.wrap k = k := Sf.wrap_in (by simp [IntKind.min, IntKind.signed, IntKind.bits]; omega) (by simp [IntKind.max, IntKind.signed, IntKind.bits]; omega)
    have e3 : IntKind.i64.wrap (64 * ((m : Int) + 1) - k) = 64 * ((m : Int) + 1) - k := Sf.wrap_in (by simp [IntKind.min, IntKind.signed, IntKind.bits]; omega) (by simp [IntKind.max, IntKind.signed, IntKind.bits]; omega)
    go_wp2_with fail
    go_ret
    exact ⟨64 * ((m : Int) + 1) - k, by simp [e1, e2, e3], by omega, by omega, ⟨hb.os, hb.tape, hb.output, hb.size, hb.block⟩⟩
end Go.Proofs.YgcoaaGreat.NatW
