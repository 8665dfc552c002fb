/-
  entry, Entry: the walks.
-/
import Derived.Test.YgcoaaGreatTabA
import Derived.Test.YgcoaaGreatTabPlain
set_option linter.unusedVariables false
set_option linter.unusedSimpArgs false
namespace Go.Proofs.YgcoaaGreat.NatW
open Go.RowKit
open Go.Proofs.YgcoaaGreat.Limbs

theorem pow2_len (K : Nat) : (lim (2 ^ K)).length ≤ K / 32 + 1 := by
  apply lim_length_le
  rw [base_pow]
  exact Nat.pow_lt_pow_right (by omega) (by omega)

/-- The result's own cells, a block of two, in a later world. -/
theorem box_two (w w1 : World) (u v : Value) (t : TypeId) (hb : Below (w.heap.size + 1) (w.alloc (.cells #[u, v] t)) w1) :
    w1.cell? ⟨w.heap.size, 0, none⟩ = some u ∧ w1.cell? ⟨w.heap.size, 1, none⟩ = some v ∧ w1.frozen? ⟨w.heap.size, 0, none⟩ = false ∧ w1.frozen? ⟨w.heap.size, 1, none⟩ = false := by
  have h : w1.heap[w.heap.size]? = some (.cells #[u, v] t (0, 0)) := by
    rw [hb.block _ (by omega), heap_alloc_new]
  exact ⟨by rw [cell_of_row _ _ _ _ _ _ h]; rfl, by rw [cell_of_row _ _ _ _ _ _ h]; rfl, frozen_of_row _ _ _ _ _ h, frozen_of_row _ _ _ _ _ h⟩

set_option maxRecDepth 20000 in
set_option maxHeartbeats 1000000 in
theorem entry_neg (w : World) (a : Option Addr) (cap : Nat) (k : Nat) (h : Sl w a cap (lim (5 ^ k))) (h1 : 1 ≤ k) (h2 : k ≤ 348) (q : Int) (hq : q = -(k : Int)) :
    Calls Oaag.prog 26 #[.slice a (lim (5 ^ k)).length cap, .int .i16 q] w fun e w' => e = .returned (.tuple #[.agg #[.int .u64 (entMn k / 18446744073709551616 : Nat), .int .u64 (entMn k % 18446744073709551616 : Nat)], .int .i16 (entEn k)]) ∧ Below w.heap.size w w' := by
  have hq0 : q < 0 := by omega
  have hq1 : -348 ≤ q := by omega
  have hlen := pow5_len k
  have hbl := bl_5 k h2
  have hok := ok_n k h1 h2
  have HQ := hide hq
  have HOK := hide hok
  clear hq hok
  obtain ⟨K, hK⟩ : ∃ K, K = 127 + bl (5 ^ k) := ⟨_, rfl⟩
  have hK2 : (127 : Int) + ((bl (5 ^ k) : Nat) : Int) = (K : Int) := by omega
  have hK3 : K ≤ 936 := by omega
  have HK := hide hK
  clear hK hbl
  go_enter Oaag.func26, Oaag.ntmps26
  go_wp2_with fail
  obtain ⟨w0, hw0⟩ : ∃ w0, w0 = w.alloc (Obj.cells #[Value.int IntKind.u64 0, Value.int IntKind.u64 0] 47) := ⟨_, rfl⟩
  have hb0 : Below w.heap.size w w0 := by rw [hw0]; exact (Below.refl _ _).alloc (Nat.le_refl _) _
  have hs0 : w0.heap.size = w.heap.size + 1 := by rw [hw0]; simp
  rw [← hw0]
  have HW0 := hide hw0
  clear hw0
  have hz0 : w.heap.size + 1 ≤ w0.heap.size := by omega
  have HS0 := hide hs0
  clear hs0
  refine (bitLen_any _ a cap _ (5 ^ k) (val_lim _) (h.later hb0) (by omega)).mono ?_
  rintro e w' ⟨rfl, rfl⟩
  go_wp2_with fail
  refine (fromU64_any _ 1 (by omega)).mono ?_
  rintro e w1 ⟨a1, cap1, rfl, hres1, hb1⟩
  have hsz1 := hb1.size
  have hsh := shl_any w1 a1 cap1 _ 1 (val_lim 1) hres1.sl K (by omega) (by have := lim_one 1 (by omega) (by omega); rw [this]; simp)
  rw [Nat.one_mul] at hsh
  have HSH := hide hsh
  clear hsh hres1
  go_wp2_with fail
  refine (unhide HSH).mono ?_
  rintro e w2 ⟨a2, cap2, rfl, hres2, hb2⟩
  have hsz2 := hb2.size
  have hb02 : Below w0.heap.size w0 w2 := hb1.trans (hb2.mono hsz1)
  have hl2 := pow2_len K
  have hdm := divMod_any w2 a2 cap2 _ (2 ^ K) (val_lim _) hres2.sl (by omega) a cap _ (5 ^ k) (val_lim _) ((h.later hb0).later hb02) (by omega)
  have h5 : 5 ^ k ≠ 0 := Nat.ne_of_gt (Nat.pow_pos (by omega))
  have e1 : dq (2 ^ K) (5 ^ k) = entMn k := by rw [dq, if_neg h5, unhide HK]; rfl
  rw [e1] at hdm
  have HDM := hide hdm
  clear hdm hres2 HSH e1 h5
  go_wp2_with fail
  refine (unhide HDM).mono ?_
  rintro e w3 ⟨a3, cap3, a4, cap4, rfl, hres3, hres4, hb3⟩
  have hsz3 := hb3.size
  have hlo := low128_any w3 a3 cap3 (entMn k) hres3.sl (by have := unhide HOK; omega)
  have HLO := hide hlo
  clear hlo hres3 hres4 HDM
  go_wp2_with fail
  refine (unhide HLO).mono ?_
  rintro e w4 ⟨rfl, hb4⟩
  have hb04 : Below w0.heap.size w0 w4 := (hb02.trans (hb3.mono (by omega))).trans (hb4.mono (by omega))
  have hbox := box_two w w4 (.int .u64 0) (.int .u64 0) 47 (by rw [← unhide HW0]; exact hb04.mono hz0)
  obtain ⟨d0, d1, f0, f1⟩ := hbox
  have HLO2 := hide hb04
  clear hb04 HLO hb02 hb1 hb2 hb3 hb4
  go_wp2
  refine bodyPost_ret (v := .tuple #[.agg #[.int .u64 (entMn k / 18446744073709551616 : Nat), .int .u64 (entMn k % 18446744073709551616 : Nat)], .int .i16 (q - (K : Int))]) (by simp [results, Oaag.results26, go_sem, d0, d1]) rfl ⟨?_, ?_⟩
  · have e : q - (K : Int) = entEn k := by unfold entEn; rw [unhide HQ, unhide HK]
    rw [e]
  · have hb04 := unhide HLO2
    exact ((hb0.trans (hb04.mono (by omega))).setCell (p := ⟨w.heap.size, 0, none⟩) (Nat.le_refl _) _).setCell (p := ⟨w.heap.size, 1, none⟩) (Nat.le_refl _) _

set_option maxRecDepth 20000 in
set_option maxHeartbeats 1000000 in
theorem entry_pos (w : World) (a : Option Addr) (cap : Nat) (k : Nat) (h : Sl w a cap (lim (5 ^ k))) (h2 : k ≤ 347) :
    Calls Oaag.prog 26 #[.slice a (lim (5 ^ k)).length cap, .int .i16 k] w fun e w' => e = .returned (.tuple #[.agg #[.int .u64 (entMp k / 18446744073709551616 : Nat), .int .u64 (entMp k % 18446744073709551616 : Nat)], .int .i16 (entEp k)]) ∧ Below w.heap.size w w' := by
  have hlen := pow5_len k
  have hbl := bl_5 k (by omega)
  have hok := ok_p k h2
  have HOK := hide hok
  clear hok
  obtain ⟨b, hbb⟩ : ∃ b, b = bl (5 ^ k) := ⟨_, rfl⟩
  have hbl2 : b ≤ 809 := by omega
  have HB := hide hbb
  clear hbl
  go_enter Oaag.func26, Oaag.ntmps26
  go_wp2_with fail
  obtain ⟨w0, hw0⟩ : ∃ w0, w0 = w.alloc (Obj.cells #[Value.int IntKind.u64 0, Value.int IntKind.u64 0] 47) := ⟨_, rfl⟩
  have hb0 : Below w.heap.size w w0 := by rw [hw0]; exact (Below.refl _ _).alloc (Nat.le_refl _) _
  have hs0 : w0.heap.size = w.heap.size + 1 := by rw [hw0]; simp
  rw [← hw0]
  have HW0 := hide hw0
  clear hw0
  have hz0 : w.heap.size + 1 ≤ w0.heap.size := by omega
  have HS0 := hide hs0
  clear hs0
  refine (bitLen_any _ a cap _ (5 ^ k) (val_lim _) (h.later hb0) (by omega)).mono ?_
  rintro e w' ⟨rfl, rfl⟩
  rw [← hbb]
  clear hbb
  by_cases hlt : b < 128
  · have em : entMp k = 5 ^ k * 2 ^ (128 - b) := by unfold entMp; rw [← unhide HB, if_pos hlt]
    obtain ⟨K, hK⟩ : ∃ K, K = 128 - b := ⟨_, rfl⟩
    have hK3 : K ≤ 128 := by omega
    have hK2 : -((b : Int) - 128) = (K : Int) := by omega
    have hK4 : (128 : Int) - (b : Int) = (K : Int) := by omega
    rw [← hK] at em
    have EM := hide em
    have HK := hide hK
    clear hK em
    have hsh := shl_any w0 a cap _ (5 ^ k) (val_lim _) (h.later hb0) K (by omega) (by omega)
    rw [← unhide EM] at hsh
    have HSH := hide hsh
    clear hsh
    go_wp2_with fail
    refine (unhide HSH).mono ?_
    rintro e w1 ⟨a1, cap1, rfl, hres1, hb1⟩
    have hsz1 := hb1.size
    have hlo := low128_any w1 a1 cap1 (entMp k) hres1.sl (by have := unhide HOK; omega)
    have HLO := hide hlo
    clear hlo hres1 HSH
    go_wp2_with fail
    refine (unhide HLO).mono ?_
    rintro e w4 ⟨rfl, hb4⟩
    have hb04 : Below w0.heap.size w0 w4 := hb1.trans (hb4.mono (by omega))
    have hbox := box_two w w4 (.int .u64 0) (.int .u64 0) 47 (by rw [← unhide HW0]; exact hb04.mono hz0)
    obtain ⟨d0, d1, f0, f1⟩ := hbox
    have HLO2 := hide hb04
    clear hb04 HLO hb1 hb4
    go_wp2
    refine bodyPost_ret (v := .tuple #[.agg #[.int .u64 (entMp k / 18446744073709551616 : Nat), .int .u64 (entMp k % 18446744073709551616 : Nat)], .int .i16 ((b : Int) - 128 + k)]) (by simp [results, Oaag.results26, go_sem, d0, d1]) rfl ⟨?_, ?_⟩
    · have e : (b : Int) - 128 + k = entEp k := by unfold entEp; rw [unhide HB]
      rw [e]
    · have hb04 := unhide HLO2
      exact ((hb0.trans (hb04.mono (by omega))).setCell (p := ⟨w.heap.size, 0, none⟩) (Nat.le_refl _) _).setCell (p := ⟨w.heap.size, 1, none⟩) (Nat.le_refl _) _
  · have em : entMp k = 5 ^ k / 2 ^ (b - 128) := by unfold entMp; rw [← unhide HB, if_neg hlt]
    obtain ⟨K, hK⟩ : ∃ K, K = b - 128 := ⟨_, rfl⟩
    have hK3 : K ≤ 700 := by omega
    have hK2 : (b : Int) - 128 = (K : Int) := by omega
    rw [← hK] at em
    have EM := hide em
    have HK := hide hK
    have HK2 := hide hK2
    clear hK em
    have hsh := shr_any w0 a cap _ (5 ^ k) (val_lim _) (h.later hb0) K (by omega) (by omega)
    rw [← unhide EM] at hsh
    have HSH := hide hsh
    clear hsh
    go_wp2_with fail
    refine (unhide HSH).mono ?_
    rintro e w1 ⟨a1, cap1, rfl, hres1, hb1⟩
    have hsz1 := hb1.size
    have hlo := low128_any w1 a1 cap1 (entMp k) hres1.sl (by have := unhide HOK; omega)
    have HLO := hide hlo
    clear hlo hres1 HSH
    go_wp2_with fail
    refine (unhide HLO).mono ?_
    rintro e w4 ⟨rfl, hb4⟩
    have hb04 : Below w0.heap.size w0 w4 := hb1.trans (hb4.mono (by omega))
    have hbox := box_two w w4 (.int .u64 0) (.int .u64 0) 47 (by rw [← unhide HW0]; exact hb04.mono hz0)
    obtain ⟨d0, d1, f0, f1⟩ := hbox
    have HLO2 := hide hb04
    clear hb04 HLO hb1 hb4
    go_wp2
    refine bodyPost_ret (v := .tuple #[.agg #[.int .u64 (entMp k / 18446744073709551616 : Nat), .int .u64 (entMp k % 18446744073709551616 : Nat)], .int .i16 ((K : Int) + k)]) (by simp [results, Oaag.results26, go_sem, d0, d1]) rfl ⟨?_, ?_⟩
    · have e : (K : Int) + k = entEp k := by unfold entEp; rw [← unhide HK2, unhide HB]
      rw [e]
    · have hb04 := unhide HLO2
      exact ((hb0.trans (hb04.mono (by omega))).setCell (p := ⟨w.heap.size, 0, none⟩) (Nat.le_refl _) _).setCell (p := ⟨w.heap.size, 1, none⟩) (Nat.le_refl _) _

end Go.Proofs.YgcoaaGreat.NatW
