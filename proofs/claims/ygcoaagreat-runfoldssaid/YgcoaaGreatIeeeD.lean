/-
  Package ieee, on: subnormal.
-/
import Derived.Test.YgcoaaGreatIeeeC
import Derived.Test.YgcoaaGreatMixQ
set_option linter.unusedVariables false
set_option linter.unusedSimpArgs false
namespace Go.Proofs.YgcoaaGreat.NatW
open Go.RowKit
open Go.Proofs.YgcoaaGreat.Limbs Go.Proofs.YgcoaaGreat.Bits

/-- Behind the quiet operations: in every later world. -/
theorem wp_region_below_then {P : Program} {id : Nat} {Q : Exit → Act → World → Prop} {a : Act} {w : World} {l : List Oper} (n0 f : Nat) (hm : P.follows .mixedOrders = true) (hB : Mix.shapeB l.toArray n0 f = true)
    (hin : ((List.range n0).all fun i => match Mix.dst l.toArray i with | some t => decide (t < a.tmps.size) | none => true) = true)
    (h : wpQuiet P l.toArray (fun w' => ∃ x : Later w, w' = x.at_) (fun a' => ∀ w', (∃ x : Later w, w' = x.at_) → wpList P l.toArray Q (l.drop n0) a' w') (l.take n0) a) : (Code.region id l.toArray true).wp P Q a w :=
  Mix.wp_region_quiet_then (C := fun w' => ∃ x : Later w, w' = x.at_) n0 f hm hB hin ⟨⟨_, (Below.refl _ w).drew⟩, rfl⟩ h

set_option maxRecDepth 20000 in
set_option maxHeartbeats 1000000 in
theorem subnormal_is (E M : Nat) (hf : fok E M = true) (neg : Bool) (x k : Nat) (hk : k < M) (h1 : 2 ^ k ≤ x) (h2 : x < 2 ^ (k + 1)) (w : World) :
    Calls Oaag.prog 116 #[.agg #[.int .u8 E, .int .u8 M], .bool neg, .int .u64 x] w fun e w' => e = .returned (.agg #[.bool neg, .int .i8 1, .int .i16 (1 - ((2 ^ (E - 1) : Nat) - 1) - M - (M - k)), .int .u64 ((x * 2 ^ (M - k) : Nat) : Int)]) ∧ Below w.heap.size w w' := by
  obtain ⟨g1, g2, g3, g4⟩ := fok_bd hf
  have hw : ∀ w, Calls Oaag.prog 214 #[.int .u64 x] w fun e w' => e = .returned (.int .u8 ((k + 1 : Nat) : Int)) ∧ Below w.heap.size w w' := fun w => (width_is x k (by omega) h1 h2 w).mono fun e w' h => ⟨h.1, h.2 ▸ Below.refl _ _⟩
  have hbi := bias_is E M hf
  have HW := hide hw
  have HB := hide hbi
  have H1 := hide h1
  have H2 := hide h2
  clear hw hbi hf h1 h2
  go_enter Oaag.func116, Oaag.ntmps116
  go_wp2_with fail
  obtain ⟨w2, hw2⟩ : ∃ w2, w2 = (w.alloc (.cells #[.int .u8 E, .int .u8 M] 23)).alloc (.cells #[.bool false, .int .i8 0, .int .i16 0, .int .u64 0] 113) := ⟨_, rfl⟩
  have hz2 : w2.heap.size = w.heap.size + 2 := by rw [hw2]; simp
  have hh0 : w2.heap[w.heap.size]? = some (.cells #[.int .u8 E, .int .u8 M] 23 (0, 0)) := by
    rw [hw2, Below.heap_alloc _ _ _ (by simp), heap_alloc_new]
  have hh1 : w2.heap[w.heap.size + 1]? = some (.cells #[.bool false, .int .i8 0, .int .i16 0, .int .u64 0] 113 (0, 0)) := by
    rw [hw2]
    have := heap_alloc_new (w.alloc (.cells #[.int .u8 E, .int .u8 M] 23)) (.cells #[.bool false, .int .i8 0, .int .i16 0, .int .u64 0] 113)
    simpa using this
  have hb2 : Below w.heap.size w w2 := by rw [hw2]; exact ((Below.refl _ _).alloc (Nat.le_refl _) _).alloc (by simp) _
  rw [← hw2]
  clear hw2
  have hc0 : ∀ x : Later w2, x.at_.cell? ⟨w.heap.size, 0, none⟩ = some (.int .u8 E) := fun x => (x.ok.cell (by simp; omega)).trans (by rw [cell_of_row _ _ _ _ _ _ hh0]; rfl)
  have hc1 : ∀ x : Later w2, x.at_.cell? ⟨w.heap.size, 1, none⟩ = some (.int .u8 M) := fun x => (x.ok.cell (by simp; omega)).trans (by rw [cell_of_row _ _ _ _ _ _ hh0]; rfl)
  have HH0 := hide hh0
  have HH1 := hide hh1
  have HZ2 := hide hz2
  clear hh0 hh1 hz2
  have hne : Nonempty (Later w2) := ⟨⟨w2, Below.refl _ _⟩⟩
  refine wp_region_below (by kernel_rfl) (by kernel_rfl) ?_
  iterate 4 (go_big_quiet_want; go_big_quiet_op; go_big_quiet_on)
  go_big_quiet_want
  go_big_quiet_op
  apply Exists.intro
  refine ⟨fun x => Calls.below_of x (unhide HW x.at_), ?_⟩
  go_big_quiet_on
  iterate 2 (go_big_quiet_want; go_big_quiet_op; go_big_quiet_on)
  refine wpQuiet_nil ?_
  intro w3 hw3
  have hb3 : Below w2.heap.size w2 w3 := by obtain ⟨Z, hZ⟩ := hw3; rw [hZ]; exact Z.ok
  clear hw3 hc0 hc1 hne
  go_wp2_with fail
  have hup : ((M : Int) + 1 - ((k : Int) + 1)) = ((M - k : Nat) : Int) := by omega
  rw [hup]
  have hz3 := hb3.size
  have hh03 := (hb3.block w.heap.size (by have := unhide HZ2; omega)).trans (unhide HH0)
  have hh13 := (hb3.block (w.heap.size + 1) (by have := unhide HZ2; omega)).trans (unhide HH1)
  have hl3 : w.heap.size + 2 ≤ w3.heap.size := by have := unhide HZ2; omega
  have hc0 : ∀ x : Later w3, x.at_.cell? ⟨w.heap.size, 0, none⟩ = some (.int .u8 E) := fun x => (x.ok.cell (by simp; omega)).trans (by rw [cell_of_row _ _ _ _ _ _ hh03]; rfl)
  have hc1 : ∀ x : Later w3, x.at_.cell? ⟨w.heap.size, 1, none⟩ = some (.int .u8 M) := fun x => (x.ok.cell (by simp; omega)).trans (by rw [cell_of_row _ _ _ _ _ _ hh03]; rfl)
  have HH13 := hide hh13
  have hne : Nonempty (Later w3) := ⟨⟨w3, Below.refl _ _⟩⟩
  have hbw3 := hb2.trans (hb3.mono hb2.size)
  obtain ⟨U, hU⟩ : ∃ U : Nat, U = M - k := ⟨_, rfl⟩
  rw [← hU]
  have hU1 : U ≤ 52 := by omega
  clear hh03 hh13 hb3 hb2 hup
  refine wp_region_below_then 15 2 (by kernel_rfl) (by kernel_rfl) (by kernel_rfl) ?_
  simp only [List.take, List.drop]
  iterate 2 (go_big_quiet_want; go_big_quiet_op; go_big_quiet_on)
  go_big_quiet_want
  go_big_quiet_op
  apply Exists.intro
  refine ⟨fun x => Calls.below_of x (unhide HB x.at_), ?_⟩
  go_big_quiet_on
  iterate 12 (go_big_quiet_want; go_big_quiet_op; go_big_quiet_on)
  refine wpQuiet_nil ?_
  intro w4 hw4
  have hb4 : Below w3.heap.size w3 w4 := by obtain ⟨Z, hZ⟩ := hw4; rw [hZ]; exact Z.ok
  clear hw4 hc0 hc1 hne
  have hh14 := (hb4.block (w.heap.size + 1) (by omega)).trans (unhide HH13)
  have k0 : w4.cell? ⟨w.heap.size + 1, 0, none⟩ = some (.bool false) := by rw [cell_of_row _ _ _ _ _ _ hh14]; rfl
  have k1 : w4.cell? ⟨w.heap.size + 1, 1, none⟩ = some (.int .i8 0) := by rw [cell_of_row _ _ _ _ _ _ hh14]; rfl
  have k2 : w4.cell? ⟨w.heap.size + 1, 2, none⟩ = some (.int .i16 0) := by rw [cell_of_row _ _ _ _ _ _ hh14]; rfl
  have k3 : w4.cell? ⟨w.heap.size + 1, 3, none⟩ = some (.int .u64 0) := by rw [cell_of_row _ _ _ _ _ _ hh14]; rfl
  have fr0 := frozen_of_row w4 (w.heap.size + 1) 0 _ _ hh14
  have fr1 := frozen_of_row w4 (w.heap.size + 1) 1 _ _ hh14
  have fr2 := frozen_of_row w4 (w.heap.size + 1) 2 _ _ hh14
  have fr3 := frozen_of_row w4 (w.heap.size + 1) 3 _ _ hh14
  have hbw4 := hbw3.trans (hb4.mono hbw3.size)
  have HB4 := hide hbw4
  have HH14 := hide hh14
  clear hb4 hbw4 hbw3 hh14
  have hv1 : IntKind.i16.wrap (IntKind.i16.wrap (IntKind.i16.wrap (1 - ((2 : Int) ^ (E - 1) - 1)) - (M : Int)) - ((M - k : Nat) : Int)) = 1 - ((2 ^ (E - 1) : Nat) - 1) - M - (M - k) := by
    have h1 := pow_le' (E - 1) 10 (by omega)
    have h2 := Nat.one_le_two_pow (n := E - 1)
    rw [pow_cast]
    obtain ⟨N, hN⟩ : ∃ N : Nat, N = 2 ^ (E - 1) := ⟨_, rfl⟩
    rw [← hN] at h1 h2 ⊢
    have h1' : N ≤ 1024 := by simpa using h1
    rw [wrap_i16 (1 - ((N : Int) - 1)) (by omega) (by omega), wrap_i16 (1 - ((N : Int) - 1) - M) (by omega) (by omega), wrap_i16 _ (by omega) (by omega)]
    omega
  have hv2 : IntKind.u64.wrap ((x : Int) * 2 ^ (M - k)) = ((x * 2 ^ (M - k) : Nat) : Int) := by
    have h2 := unhide H2
    have h3 : x * 2 ^ (M - k) < 2 ^ (k + 1) * 2 ^ (M - k) := Nat.mul_lt_mul_of_pos_right h2 (Nat.two_pow_pos _)
    rw [← Nat.pow_add] at h3
    have h4 := pow63 (k + 1 + (M - k)) (by omega)
    rw [pow_cast, ← Int.natCast_mul]
    exact wrap_u (by omega) (by omega)
  have HV1 := hide hv1
  have HV2 := hide hv2
  clear hv1 hv2
  go_wp2
  rw [unhide HV1, unhide HV2]
  refine bodyPost_ret (v := .agg #[.bool neg, .int .i8 1, .int .i16 (1 - ((2 ^ (E - 1) : Nat) - 1) - M - (M - k)), .int .u64 ((x * 2 ^ (M - k) : Nat) : Int)]) (by simp [results, Oaag.results116, go_sem, k0, k1, k2, k3]) rfl ⟨rfl, ?_⟩
  exact below_store (below_store (below_store (below_store (unhide HB4) (by omega) _) (by omega) _) (by omega) _) (by omega) _

end Go.Proofs.YgcoaaGreat.NatW
