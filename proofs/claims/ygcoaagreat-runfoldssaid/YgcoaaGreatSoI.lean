/-
  Package so: read, readSecond at the empty text.
-/
import Derived.Test.YgcoaaGreatSoH
import Derived.Test.YgcoaaGreatParseZ
set_option linter.unusedVariables false
set_option linter.unusedSimpArgs false
namespace Go.Proofs.YgcoaaGreat.NatW
attribute [local go_sem] Go.Instr.field Go.asAgg
open Go.RowKit
open Go.Proofs.YgcoaaGreat.Limbs Go.Proofs.YgcoaaGreat.Bits

set_option maxRecDepth 20000 in
set_option maxHeartbeats 4000000 in
theorem read_wrong (E M : Nat) (hf : fok E M = true) (tb mb n : Nat) (hn : n ≤ 1000) (md kd kD kA kB imm : Int) (hD0 : 0 ≤ kD) (hD1 : kD ≤ 255) (w : World) (h : Mach E M mb n w) (K : Ending → World → Prop)
    (hK : ∀ w', Mach E M mb (n + 1) w' → Below mb w w' → K (.returned (.tuple #[])) w') : Calls Oaag.prog 145 #[.pointer (some ⟨tb, 0, none⟩), fmt E M, .int .u8 md, .pointer (some ⟨mb, 0, none⟩), .agg #[.int .u8 kd, .int .u8 kD, .int .u8 kA, .int .u8 kB, .int .u64 imm, .string ⟨#[]⟩] ] w K := by
  obtain ⟨g1, g2, g3, g4⟩ := fok_bd hf
  have HK := hide hK
  clear hK
  obtain ⟨wb, x0, hwb, r0, r1, hB, hZ⟩ := boxes2 w #[.int .u8 E, .int .u8 M] #[.int .u8 kd, .int .u8 kD, .int .u8 kA, .int .u8 kB, .int .u64 imm, .string ⟨#[]⟩] 23 91
  have c00 : ∀ x : Later wb, _ = some (.int .u8 E : Value) := Later.cell r0 0 _ rfl
  have c01 : ∀ x : Later wb, _ = some (.int .u8 M : Value) := Later.cell r0 1 _ rfl
  have c10 : ∀ x : Later wb, _ = some (.int .u8 kd : Value) := Later.cell r1 0 _ rfl
  have c11 : ∀ x : Later wb, _ = some (.int .u8 kD : Value) := Later.cell r1 1 _ rfl
  have c12 : ∀ x : Later wb, _ = some (.int .u8 kA : Value) := Later.cell r1 2 _ rfl
  have c13 : ∀ x : Later wb, _ = some (.int .u8 kB : Value) := Later.cell r1 3 _ rfl
  have c14 : ∀ x : Later wb, _ = some (.int .u64 imm : Value) := Later.cell r1 4 _ rfl
  have c15 : ∀ x : Later wb, _ = some (.string ⟨#[]⟩ : Value) := Later.cell r1 5 _ rfl
  have R0 := hide r0
  have R1 := hide r1
  clear r0 r1
  have hne : Nonempty (Later wb) := ⟨x0⟩
  have hm' : ∀ y : Later wb, Mach E M mb n y.at_ := fun y => h.later (hB y)
  have hml := h.own.1
  clear h
  go_enter Oaag.func145, Oaag.ntmps145
  go_wp2_with (first
    | ((with_reducible refine Go.Proofs.YgcoaaGreat.NatW.at_later 254 ?_)
       refine Ret.run scan_zero _ ?_
       rintro _ y rfl
       obtain ⟨nb, hnb⟩ : ∃ nb, y.at_.heap.size = nb := ⟨_, rfl⟩
       have bw : w.heap.size + 2 ≤ nb := by have := hZ y; omega
       have ca0 : ∀ o, (y.at_.alloc o).cell? ⟨w.heap.size, 0, none⟩ = some (.int .u8 E) := fun o => c00 ⟨y.at_.alloc o, y.ok.alloc y.ok.size o⟩
       have ca1 : ∀ o, (y.at_.alloc o).cell? ⟨w.heap.size, 1, none⟩ = some (.int .u8 M) := fun o => c01 ⟨y.at_.alloc o, y.ok.alloc y.ok.size o⟩)
    | (
      (first | (with_reducible refine Go.Proofs.YgcoaaGreat.NatW.at_alw ?_) | (with_reducible refine Go.Proofs.YgcoaaGreat.NatW.at_alc ?_))
      ((first | with_reducible refine Go.Proofs.YgcoaaGreat.NatW.gen_calls ?_ | with_reducible refine Go.Proofs.YgcoaaGreat.NatW.gen_wp ?_ | with_reducible refine Go.Proofs.YgcoaaGreat.NatW.gen_list ?_ | with_reducible refine Go.Proofs.YgcoaaGreat.NatW.gen_body ?_); intro W hW)
      have hyW : Below wb.heap.size wb W := by rw [← hW]; exact y.ok.alloc y.ok.size _
      have qr := congrArg (fun z : World => z.heap[y.at_.heap.size]?) hW
      rw [heap_alloc_new, hnb] at qr
      clear hW hne
      obtain ⟨wb2, x9, hx, hup, hrow, hZ2⟩ := rebase3 wb W hyW
      replace c00 := fun x : Later wb2 => (show _ from (Exists.choose_spec (hup x)) ▸ c00 (Exists.choose (hup x)))
      replace c01 := fun x : Later wb2 => (show _ from (Exists.choose_spec (hup x)) ▸ c01 (Exists.choose (hup x)))
      replace c10 := fun x : Later wb2 => (show _ from (Exists.choose_spec (hup x)) ▸ c10 (Exists.choose (hup x)))
      replace c11 := fun x : Later wb2 => (show _ from (Exists.choose_spec (hup x)) ▸ c11 (Exists.choose (hup x)))
      replace c12 := fun x : Later wb2 => (show _ from (Exists.choose_spec (hup x)) ▸ c12 (Exists.choose (hup x)))
      replace c13 := fun x : Later wb2 => (show _ from (Exists.choose_spec (hup x)) ▸ c13 (Exists.choose (hup x)))
      replace c14 := fun x : Later wb2 => (show _ from (Exists.choose_spec (hup x)) ▸ c14 (Exists.choose (hup x)))
      replace c15 := fun x : Later wb2 => (show _ from (Exists.choose_spec (hup x)) ▸ c15 (Exists.choose (hup x)))
      replace hB := fun x : Later wb2 => (show _ from (Exists.choose_spec (hup x)) ▸ hB (Exists.choose (hup x)))
      replace hm' := fun x : Later wb2 => (show _ from (Exists.choose_spec (hup x)) ▸ hm' (Exists.choose (hup x)))
      have hne : Nonempty (Later wb2) := ⟨x9⟩
      have hz9 : ∀ x : Later wb2, nb + 1 ≤ x.at_.heap.size := fun x => Nat.le_trans (Array.getElem?_eq_some_iff.1 qr.symm).1 (hZ2 x)
      have r9 := hrow _ _ qr.symm
      have c90 := Later.cell r9 0 _ rfl
      have c91 := Later.cell r9 1 _ rfl
      have c92 := Later.cell r9 2 _ rfl
      have c93 := Later.cell r9 3 _ rfl
      have c94 := Later.cell r9 4 _ rfl
      have c95 := Later.cell r9 5 _ rfl
      clear hup hrow hyW qr r9 hZ2
      rw [hx]
      clear hx)
    | ((with_reducible refine Go.Proofs.YgcoaaGreat.NatW.at_later 54 ?_); refine Go.Proofs.YgcoaaGreat.NatW.Ret.run (parse_zero E M hf tb md false) _ ?_; rintro _ y__ rfl)
    | ((with_reducible refine Go.Proofs.YgcoaaGreat.NatW.at_later 255 ?_)
       refine settle_wrong E M hf mb n hn kd kD kA kB imm 0 hD0 hD1 _ (hm' _) _ ?_
       intro w9 hm9 hb9
       have HM9 := hide hm9
       have HB9 := hide (((hB _).mono (Nat.le_of_lt hml)).trans hb9)
       clear hm9 hb9))
  all_goals first
    | (refine bodyPost_box rfl ?_; intro r hr; simp [results, Oaag.results145, go_sem] at hr; subst hr; refine ⟨_, rfl, ?_⟩
       exact unhide HK _ (unhide HM9) (unhide HB9))
    | skip

set_option maxRecDepth 20000 in
set_option maxHeartbeats 4000000 in
theorem readSecond_wrong (E M : Nat) (hf : fok E M = true) (tb mb n : Nat) (hn : n ≤ 1000) (md kd kD kA kB imm : Int) (hD0 : 0 ≤ kD) (hD1 : kD ≤ 255) (w : World) (h : Mach E M mb n w) (K : Ending → World → Prop)
    (hK : ∀ w', Mach E M mb (n + 1) w' → Below mb w w' → K (.returned (.tuple #[])) w') : Calls Oaag.prog 267 #[.pointer (some ⟨tb, 0, none⟩), fmt E M, .int .u8 md, .pointer (some ⟨mb, 0, none⟩), .agg #[.int .u8 kd, .int .u8 kD, .int .u8 kA, .int .u8 kB, .int .u64 imm, .string ⟨#[]⟩] ] w K := by
  obtain ⟨g1, g2, g3, g4⟩ := fok_bd hf
  have HK := hide hK
  clear hK
  obtain ⟨wb, x0, hwb, r0, r1, hB, hZ⟩ := boxes2 w #[.int .u8 E, .int .u8 M] #[.int .u8 kd, .int .u8 kD, .int .u8 kA, .int .u8 kB, .int .u64 imm, .string ⟨#[]⟩] 23 91
  have c00 : ∀ x : Later wb, _ = some (.int .u8 E : Value) := Later.cell r0 0 _ rfl
  have c01 : ∀ x : Later wb, _ = some (.int .u8 M : Value) := Later.cell r0 1 _ rfl
  have c10 : ∀ x : Later wb, _ = some (.int .u8 kd : Value) := Later.cell r1 0 _ rfl
  have c11 : ∀ x : Later wb, _ = some (.int .u8 kD : Value) := Later.cell r1 1 _ rfl
  have c12 : ∀ x : Later wb, _ = some (.int .u8 kA : Value) := Later.cell r1 2 _ rfl
  have c13 : ∀ x : Later wb, _ = some (.int .u8 kB : Value) := Later.cell r1 3 _ rfl
  have c14 : ∀ x : Later wb, _ = some (.int .u64 imm : Value) := Later.cell r1 4 _ rfl
  have c15 : ∀ x : Later wb, _ = some (.string ⟨#[]⟩ : Value) := Later.cell r1 5 _ rfl
  have R0 := hide r0
  have R1 := hide r1
  clear r0 r1
  have hne : Nonempty (Later wb) := ⟨x0⟩
  have hm' : ∀ y : Later wb, Mach E M mb n y.at_ := fun y => h.later (hB y)
  have hml := h.own.1
  clear h
  go_enter Oaag.func267, Oaag.ntmps267
  go_wp2_with (first
    | ((with_reducible refine Go.Proofs.YgcoaaGreat.NatW.at_later 254 ?_)
       refine Ret.run scan_zero _ ?_
       rintro _ y rfl
       obtain ⟨nb, hnb⟩ : ∃ nb, y.at_.heap.size = nb := ⟨_, rfl⟩
       have bw : w.heap.size + 2 ≤ nb := by have := hZ y; omega
       have ca0 : ∀ o, (y.at_.alloc o).cell? ⟨w.heap.size, 0, none⟩ = some (.int .u8 E) := fun o => c00 ⟨y.at_.alloc o, y.ok.alloc y.ok.size o⟩
       have ca1 : ∀ o, (y.at_.alloc o).cell? ⟨w.heap.size, 1, none⟩ = some (.int .u8 M) := fun o => c01 ⟨y.at_.alloc o, y.ok.alloc y.ok.size o⟩)
    | (
      (first | (with_reducible refine Go.Proofs.YgcoaaGreat.NatW.at_alw ?_) | (with_reducible refine Go.Proofs.YgcoaaGreat.NatW.at_alc ?_))
      ((first | with_reducible refine Go.Proofs.YgcoaaGreat.NatW.gen_calls ?_ | with_reducible refine Go.Proofs.YgcoaaGreat.NatW.gen_wp ?_ | with_reducible refine Go.Proofs.YgcoaaGreat.NatW.gen_list ?_ | with_reducible refine Go.Proofs.YgcoaaGreat.NatW.gen_body ?_); intro W hW)
      have hyW : Below wb.heap.size wb W := by rw [← hW]; exact y.ok.alloc y.ok.size _
      have qr := congrArg (fun z : World => z.heap[y.at_.heap.size]?) hW
      rw [heap_alloc_new, hnb] at qr
      clear hW hne
      obtain ⟨wb2, x9, hx, hup, hrow, hZ2⟩ := rebase3 wb W hyW
      replace c00 := fun x : Later wb2 => (show _ from (Exists.choose_spec (hup x)) ▸ c00 (Exists.choose (hup x)))
      replace c01 := fun x : Later wb2 => (show _ from (Exists.choose_spec (hup x)) ▸ c01 (Exists.choose (hup x)))
      replace c10 := fun x : Later wb2 => (show _ from (Exists.choose_spec (hup x)) ▸ c10 (Exists.choose (hup x)))
      replace c11 := fun x : Later wb2 => (show _ from (Exists.choose_spec (hup x)) ▸ c11 (Exists.choose (hup x)))
      replace c12 := fun x : Later wb2 => (show _ from (Exists.choose_spec (hup x)) ▸ c12 (Exists.choose (hup x)))
      replace c13 := fun x : Later wb2 => (show _ from (Exists.choose_spec (hup x)) ▸ c13 (Exists.choose (hup x)))
      replace c14 := fun x : Later wb2 => (show _ from (Exists.choose_spec (hup x)) ▸ c14 (Exists.choose (hup x)))
      replace c15 := fun x : Later wb2 => (show _ from (Exists.choose_spec (hup x)) ▸ c15 (Exists.choose (hup x)))
      replace hB := fun x : Later wb2 => (show _ from (Exists.choose_spec (hup x)) ▸ hB (Exists.choose (hup x)))
      replace hm' := fun x : Later wb2 => (show _ from (Exists.choose_spec (hup x)) ▸ hm' (Exists.choose (hup x)))
      have hne : Nonempty (Later wb2) := ⟨x9⟩
      have hz9 : ∀ x : Later wb2, nb + 1 ≤ x.at_.heap.size := fun x => Nat.le_trans (Array.getElem?_eq_some_iff.1 qr.symm).1 (hZ2 x)
      have r9 := hrow _ _ qr.symm
      have c90 := Later.cell r9 0 _ rfl
      have c91 := Later.cell r9 1 _ rfl
      have c92 := Later.cell r9 2 _ rfl
      have c93 := Later.cell r9 3 _ rfl
      have c94 := Later.cell r9 4 _ rfl
      have c95 := Later.cell r9 5 _ rfl
      clear hup hrow hyW qr r9 hZ2
      rw [hx]
      clear hx)
    | ((with_reducible refine Go.Proofs.YgcoaaGreat.NatW.at_later 55 ?_); refine Go.Proofs.YgcoaaGreat.NatW.Ret.run (second_zero E M hf tb md false) _ ?_; rintro _ y__ rfl)
    | ((with_reducible refine Go.Proofs.YgcoaaGreat.NatW.at_later 255 ?_)
       refine settle_wrong E M hf mb n hn kd kD kA kB imm 0 hD0 hD1 _ (hm' _) _ ?_
       intro w9 hm9 hb9
       have HM9 := hide hm9
       have HB9 := hide (((hB _).mono (Nat.le_of_lt hml)).trans hb9)
       clear hm9 hb9))
  all_goals first
    | (refine bodyPost_box rfl ?_; intro r hr; simp [results, Oaag.results267, go_sem] at hr; subst hr; refine ⟨_, rfl, ?_⟩
       exact unhide HK _ (unhide HM9) (unhide HB9))
    | skip


end Go.Proofs.YgcoaaGreat.NatW
