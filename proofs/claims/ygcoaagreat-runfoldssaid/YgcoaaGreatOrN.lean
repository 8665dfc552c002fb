/-
  ex.orName, na.orName.
-/
import Derived.Test.YgcoaaGreatSoF
import Derived.Test.YgcoaaGreatDetE
set_option linter.unusedVariables false
set_option linter.unusedSimpArgs false
namespace Go.Proofs.YgcoaaGreat.NatW
attribute [local go_sem] Go.Instr.field Go.asAgg
open Go.RowKit
open Go.Proofs.YgcoaaGreat.Limbs Go.Proofs.YgcoaaGreat.Bits
open Go.Proofs.YgcoaaGreat.Det

set_option maxRecDepth 20000 in
set_option maxHeartbeats 2000000 in
theorem orName229_ret (E M : Nat) (hf : fok E M = true) (a : Int) (ha : U64 a) (s : ByteArray) : Ret 229 #[fmt E M, .int .u64 a, .string s] (fun v => ∃ t, v = .string t ∧ (t = s ∨ t.size ≤ 5)) := by
  obtain ⟨g1, g2, g3, g4⟩ := fok_bd hf
  intro w K hK
  have HK := hide hK
  clear hK
  obtain ⟨wb, x0, hwb, r0, hB, hZ⟩ := boxes1 w #[.int .u8 E, .int .u8 M] 23
  have c00 : ∀ x : Later wb, _ = some (.int .u8 E : Value) := Later.cell r0 0 _ rfl
  have c01 : ∀ x : Later wb, _ = some (.int .u8 M : Value) := Later.cell r0 1 _ rfl
  have R0 := hide r0
  clear r0
  have hne : Nonempty (Later wb) := ⟨x0⟩
  go_enter Oaag.func229, Oaag.ntmps229
  go_wp2_with (first
    | (
      (first | with_reducible refine Go.Proofs.YgcoaaGreat.NatW.at_alw ?_ | with_reducible refine Go.Proofs.YgcoaaGreat.NatW.at_alc ?_)
      ((first | with_reducible refine Go.Proofs.YgcoaaGreat.NatW.gen_calls ?_ | with_reducible refine Go.Proofs.YgcoaaGreat.NatW.gen_wp ?_ | with_reducible refine Go.Proofs.YgcoaaGreat.NatW.gen_list ?_ | with_reducible refine Go.Proofs.YgcoaaGreat.NatW.gen_body ?_); intro W hW)
      have hyW : Below wb.heap.size wb W := by rw [← hW]; exact y.ok.alloc y.ok.size _
      have qr := congrArg (fun z : World => z.heap[y.at_.heap.size]?) hW
      rw [heap_alloc_new, hnb] at qr
      clear hW hne
      obtain ⟨wb2, x9, hx, hup, hrow, hZ2⟩ := rebase3 wb W hyW
      replace c00 := fun x : Later wb2 => (show _ from (Exists.choose_spec (hup x)) ▸ c00 (Exists.choose (hup x)))
      replace c01 := fun x : Later wb2 => (show _ from (Exists.choose_spec (hup x)) ▸ c01 (Exists.choose (hup x)))
      replace hB := fun x : Later wb2 => (show _ from (Exists.choose_spec (hup x)) ▸ hB (Exists.choose (hup x)))
      have hne : Nonempty (Later wb2) := ⟨x9⟩
      have r9 := hrow _ _ qr.symm
      have c90 := Later.cell r9 0 _ rfl
      have c91 := Later.cell r9 1 _ rfl
      have c92 := Later.cell r9 2 _ rfl
      have c93 := Later.cell r9 3 _ rfl
      skip
      skip
      skip
      skip
      clear hup hrow hyW qr r9
      rw [hx]
      clear hx)
    | (with_reducible refine Go.Proofs.YgcoaaGreat.NatW.at_later 68 ?_
       refine Ret.run (unpack_i E M hf a ha) _ ?_
       rintro _ y ⟨xn, xc, xe, xm, rfl, xp, xq⟩
       obtain ⟨xe0, xe1, uxm, xc0, xc1⟩ := Pb.bd g4 xp
       have XP := hide xp
       have XQ := hide xq
       clear xp xq
       obtain ⟨nb, hnb⟩ : ∃ nb, y.at_.heap.size = nb := ⟨_, rfl⟩
       have bw : w.heap.size + 1 ≤ nb := by have := hZ y; omega
       have nn0 : nb ≠ w.heap.size := by omega
       have nn1 : w.heap.size ≠ nb := by omega
       have ca0 : ∀ o, (y.at_.alloc o).cell? ⟨w.heap.size, 0, none⟩ = some (.int .u8 E) := fun o => c00 ⟨y.at_.alloc o, y.ok.alloc y.ok.size o⟩
       have ca1 : ∀ o, (y.at_.alloc o).cell? ⟨w.heap.size, 1, none⟩ = some (.int .u8 M) := fun o => c01 ⟨y.at_.alloc o, y.ok.alloc y.ok.size o⟩))
  all_goals first
    | exact unhide HK _ _ ⟨_, rfl, .inr (by decide)⟩ (hB ⟨y.at_.alloc _, y.ok.alloc y.ok.size _⟩)
    | exact unhide HK _ _ ⟨_, rfl, .inl rfl⟩ (hB ⟨y.at_.alloc _, y.ok.alloc y.ok.size _⟩)
    | skip



theorem orName229_sz (E M : Nat) (hf : fok E M = true) (a : Int) (ha : U64 a) (s : ByteArray) (hs : s.size ≤ 300000) : Ret 229 #[fmt E M, .int .u64 a, .string s] (fun v => ∃ s : ByteArray, v = .string s ∧ s.size ≤ 300000) :=
  fun w K hK => (orName229_ret E M hf a ha s) w K fun v w' hv hb => hK v w' (by obtain ⟨t, rfl, h⟩ := hv; exact ⟨t, rfl, by rcases h with rfl | h <;> omega⟩) hb
theorem orName229_det (E M : Nat) (hf : fok E M = true) (a : Int) (ha : U64 a) (s : ByteArray) (hs : s.size ≤ 300000) : ∃ v, (fun v => ∃ s : ByteArray, v = .string s ∧ s.size ≤ 300000) v ∧ DR 229 (argsAt [.v (fmt E M), .v (.int .u64 a), .v (.string s)]) v :=
  detQ [.v (fmt E M), .v (.int .u64 a), .v (.string s)] 3 (by decide) rfl (by kernel_rfl) (by kernel_rfl) (by simp [Arg.ok, selfV, selfC, fmt]) (orName229_sz E M hf a ha s hs) (by rintro v hv; obtain ⟨_, rfl, _⟩ := hv; rfl)

set_option maxRecDepth 20000 in
set_option maxHeartbeats 2000000 in
theorem orName292_ret (E M : Nat) (hf : fok E M = true) (a : Int) (ha : U64 a) (s : ByteArray) : Ret 292 #[fmt E M, .int .u64 a, .string s] (fun v => ∃ t, v = .string t ∧ (t = s ∨ t.size ≤ 5)) := by
  obtain ⟨g1, g2, g3, g4⟩ := fok_bd hf
  intro w K hK
  have HK := hide hK
  clear hK
  obtain ⟨wb, x0, hwb, r0, hB, hZ⟩ := boxes1 w #[.int .u8 E, .int .u8 M] 23
  have c00 : ∀ x : Later wb, _ = some (.int .u8 E : Value) := Later.cell r0 0 _ rfl
  have c01 : ∀ x : Later wb, _ = some (.int .u8 M : Value) := Later.cell r0 1 _ rfl
  have R0 := hide r0
  clear r0
  have hne : Nonempty (Later wb) := ⟨x0⟩
  go_enter Oaag.func292, Oaag.ntmps292
  go_wp2_with (first
    | (
      (first | with_reducible refine Go.Proofs.YgcoaaGreat.NatW.at_alw ?_ | with_reducible refine Go.Proofs.YgcoaaGreat.NatW.at_alc ?_)
      ((first | with_reducible refine Go.Proofs.YgcoaaGreat.NatW.gen_calls ?_ | with_reducible refine Go.Proofs.YgcoaaGreat.NatW.gen_wp ?_ | with_reducible refine Go.Proofs.YgcoaaGreat.NatW.gen_list ?_ | with_reducible refine Go.Proofs.YgcoaaGreat.NatW.gen_body ?_); intro W hW)
      have hyW : Below wb.heap.size wb W := by rw [← hW]; exact y.ok.alloc y.ok.size _
      have qr := congrArg (fun z : World => z.heap[y.at_.heap.size]?) hW
      rw [heap_alloc_new, hnb] at qr
      clear hW hne
      obtain ⟨wb2, x9, hx, hup, hrow, hZ2⟩ := rebase3 wb W hyW
      replace c00 := fun x : Later wb2 => (show _ from (Exists.choose_spec (hup x)) ▸ c00 (Exists.choose (hup x)))
      replace c01 := fun x : Later wb2 => (show _ from (Exists.choose_spec (hup x)) ▸ c01 (Exists.choose (hup x)))
      replace hB := fun x : Later wb2 => (show _ from (Exists.choose_spec (hup x)) ▸ hB (Exists.choose (hup x)))
      have hne : Nonempty (Later wb2) := ⟨x9⟩
      have r9 := hrow _ _ qr.symm
      have c90 := Later.cell r9 0 _ rfl
      have c91 := Later.cell r9 1 _ rfl
      have c92 := Later.cell r9 2 _ rfl
      have c93 := Later.cell r9 3 _ rfl
      skip
      skip
      skip
      skip
      clear hup hrow hyW qr r9
      rw [hx]
      clear hx)
    | (with_reducible refine Go.Proofs.YgcoaaGreat.NatW.at_later 68 ?_
       refine Ret.run (unpack_i E M hf a ha) _ ?_
       rintro _ y ⟨xn, xc, xe, xm, rfl, xp, xq⟩
       obtain ⟨xe0, xe1, uxm, xc0, xc1⟩ := Pb.bd g4 xp
       have XP := hide xp
       have XQ := hide xq
       clear xp xq
       obtain ⟨nb, hnb⟩ : ∃ nb, y.at_.heap.size = nb := ⟨_, rfl⟩
       have bw : w.heap.size + 1 ≤ nb := by have := hZ y; omega
       have nn0 : nb ≠ w.heap.size := by omega
       have nn1 : w.heap.size ≠ nb := by omega
       have ca0 : ∀ o, (y.at_.alloc o).cell? ⟨w.heap.size, 0, none⟩ = some (.int .u8 E) := fun o => c00 ⟨y.at_.alloc o, y.ok.alloc y.ok.size o⟩
       have ca1 : ∀ o, (y.at_.alloc o).cell? ⟨w.heap.size, 1, none⟩ = some (.int .u8 M) := fun o => c01 ⟨y.at_.alloc o, y.ok.alloc y.ok.size o⟩))
  all_goals first
    | exact unhide HK _ _ ⟨_, rfl, .inr (by decide)⟩ (hB ⟨y.at_.alloc _, y.ok.alloc y.ok.size _⟩)
    | exact unhide HK _ _ ⟨_, rfl, .inl rfl⟩ (hB ⟨y.at_.alloc _, y.ok.alloc y.ok.size _⟩)
    | skip



theorem orName292_sz (E M : Nat) (hf : fok E M = true) (a : Int) (ha : U64 a) (s : ByteArray) (hs : s.size ≤ 300000) : Ret 292 #[fmt E M, .int .u64 a, .string s] (fun v => ∃ s : ByteArray, v = .string s ∧ s.size ≤ 300000) :=
  fun w K hK => (orName292_ret E M hf a ha s) w K fun v w' hv hb => hK v w' (by obtain ⟨t, rfl, h⟩ := hv; exact ⟨t, rfl, by rcases h with rfl | h <;> omega⟩) hb
theorem orName292_det (E M : Nat) (hf : fok E M = true) (a : Int) (ha : U64 a) (s : ByteArray) (hs : s.size ≤ 300000) : ∃ v, (fun v => ∃ s : ByteArray, v = .string s ∧ s.size ≤ 300000) v ∧ DR 292 (argsAt [.v (fmt E M), .v (.int .u64 a), .v (.string s)]) v :=
  detQ [.v (fmt E M), .v (.int .u64 a), .v (.string s)] 3 (by decide) rfl (by kernel_rfl) (by kernel_rfl) (by simp [Arg.ok, selfV, selfC, fmt]) (orName292_sz E M hf a ha s hs) (by rintro v hv; obtain ⟨_, rfl, _⟩ := hv; rfl)

end Go.Proofs.YgcoaaGreat.NatW
