/-
  Package soft: ToInt64, LogB, their range.
-/
import Derived.Test.YgcoaaGreatTacB
import Derived.Test.YgcoaaGreatSoftK
import Derived.Test.YgcoaaGreatSoftU
import Derived.Test.YgcoaaGreatExpA
set_option linter.unusedVariables false
set_option linter.unusedSimpArgs false
namespace Go.Proofs.YgcoaaGreat.NatW
attribute [local go_sem] Go.Instr.field Go.asAgg
open Go.RowKit
open Go.Proofs.YgcoaaGreat.Limbs Go.Proofs.YgcoaaGreat.Bits

theorem u64w (x : Int) : IntKind.u64.wrap x = x % 18446744073709551616 := by simp [IntKind.wrap, IntKind.bits, IntKind.signed]


set_option maxRecDepth 20000 in
set_option maxHeartbeats 2000000 in
theorem logBFlags_rng (E M : Nat) (hf : fok E M = true) (a : Int) (ha : U64 a) : Ret 187 #[fmt E M, .int .u64 a] (fun v => ∃ r b f, v = .tuple #[.int .i64 r, .bool b, .int .u8 f] ∧ I64 r) := by
  obtain ⟨g1, g2, g3, g4⟩ := fok_bd hf
  intro w K hK
  have HK := hide hK
  clear hK
  obtain ⟨wb, x0, hwb, r0, hB, hZ⟩ := boxes1 w #[.int .u8 E, .int .u8 M] 23
  have c00 : ∀ x : Later wb, _ = some (.int .u8 E : Value) := Later.cell r0 0 _ rfl
  have c01 : ∀ x : Later wb, _ = some (.int .u8 M : Value) := Later.cell r0 1 _ rfl
  have R0 := hide r0
  clear r0
  have hne : Nonempty (Later wb) := ⟨x0⟩
  go_enter Oaag.func187, Oaag.ntmps187
  go_wp2_with (first
    | (
      (first | with_reducible refine Go.Proofs.YgcoaaGreat.NatW.at_alw ?_ | with_reducible refine Go.Proofs.YgcoaaGreat.NatW.at_alc ?_)
      ((first | with_reducible refine Go.Proofs.YgcoaaGreat.NatW.gen_calls ?_ | with_reducible refine Go.Proofs.YgcoaaGreat.NatW.gen_wp ?_ | with_reducible refine Go.Proofs.YgcoaaGreat.NatW.gen_list ?_ | with_reducible refine Go.Proofs.YgcoaaGreat.NatW.gen_body ?_); intro W hW)
      have hyW : Below wb.heap.size wb W := by rw [← hW]; exact y.ok.alloc y.ok.size _
      have qr := congrArg (fun z : World => z.heap[y.at_.heap.size]?) hW
      rw [heap_alloc_new, hnb] at qr
      clear hW hne
      obtain ⟨wb2, x9, hx, hup, hrow, hZ2⟩ := rebase3 wb W hyW
      replace c00 := fun x : Later wb2 => (show _ from (Exists.choose_spec (hup x)) ▸ c00 (Exists.choose (hup x)))
      replace c01 := fun x : Later wb2 => (show _ from (Exists.choose_spec (hup x)) ▸ c01 (Exists.choose (hup x)))
      replace hB := fun x : Later wb2 => (show _ from (Exists.choose_spec (hup x)) ▸ hB (Exists.choose (hup x)))
      have hne : Nonempty (Later wb2) := ⟨x9⟩
      have r9 := hrow _ _ qr.symm
      have c90 := Later.cell r9 0 _ rfl
      have c91 := Later.cell r9 1 _ rfl
      have c92 := Later.cell r9 2 _ rfl
      have c93 := Later.cell r9 3 _ rfl
      skip
      skip
      skip
      skip
      clear hup hrow hyW qr r9
      rw [hx]
      clear hx)
    | (with_reducible refine Go.Proofs.YgcoaaGreat.NatW.at_later 67 ?_; refine Go.Proofs.YgcoaaGreat.NatW.Ret.run (fmtOk_ret E M hf) _ ?_; rintro _ y__ rfl)
    | (with_reducible refine Go.Proofs.YgcoaaGreat.NatW.at_later 68 ?_
       refine Ret.run (unpack_i E M hf a ha) _ ?_
       rintro _ y ⟨xn, xc, xe, xm, rfl, xp, xq⟩
       obtain ⟨xe0, xe1, uxm, xc0, xc1⟩ := Pb.bd g4 xp
       have XP := hide xp
       have XQ := hide xq
       clear xp xq
       obtain ⟨nb, hnb⟩ : ∃ nb, y.at_.heap.size = nb := ⟨_, rfl⟩
       have bw : w.heap.size + 1 ≤ nb := by have := hZ y; omega
       have nn0 : nb ≠ w.heap.size := by omega
       have nn1 : w.heap.size ≠ nb := by omega
       have ca0 : ∀ o, (y.at_.alloc o).cell? ⟨w.heap.size, 0, none⟩ = some (.int .u8 E) := fun o => c00 ⟨y.at_.alloc o, y.ok.alloc y.ok.size o⟩
       have ca1 : ∀ o, (y.at_.alloc o).cell? ⟨w.heap.size, 1, none⟩ = some (.int .u8 M) := fun o => c01 ⟨y.at_.alloc o, y.ok.alloc y.ok.size o⟩))
  all_goals
    refine bodyPost_box rfl ?_
    intro r hr
    simp [results, Oaag.results187, go_sem] at hr
    subst hr
    refine ⟨_, rfl, ?_⟩
    refine unhide HK _ _ ?_ (hB _)
    first | exact ⟨_, _, _, rfl, by (first | with_reducible exact wri64 _ | with_reducible exact wr64i _ | exact ⟨by decide, by decide⟩ | exact ⟨by omega, by omega⟩)⟩ | skip

set_option maxRecDepth 20000 in
set_option maxHeartbeats 2000000 in
theorem toIntFlags_rng (E M : Nat) (hf : fok E M = true) (m a : Int) (ha : U64 a) : Ret 306 #[fmt E M, .int .u8 m, .int .u64 a] (fun v => ∃ r b f, v = .tuple #[.int .i64 r, .bool b, .int .u8 f] ∧ I64 r) := by
  obtain ⟨g1, g2, g3, g4⟩ := fok_bd hf
  intro w K hK
  have HK := hide hK
  clear hK
  obtain ⟨wb, x0, hwb, r0, hB, hZ⟩ := boxes1 w #[.int .u8 E, .int .u8 M] 23
  have c00 : ∀ x : Later wb, _ = some (.int .u8 E : Value) := Later.cell r0 0 _ rfl
  have c01 : ∀ x : Later wb, _ = some (.int .u8 M : Value) := Later.cell r0 1 _ rfl
  have R0 := hide r0
  clear r0
  have hne : Nonempty (Later wb) := ⟨x0⟩
  go_enter Oaag.func306, Oaag.ntmps306
  go_wp2_with (first
    | (
      (first | with_reducible refine Go.Proofs.YgcoaaGreat.NatW.at_alw ?_ | with_reducible refine Go.Proofs.YgcoaaGreat.NatW.at_alc ?_)
      ((first | with_reducible refine Go.Proofs.YgcoaaGreat.NatW.gen_calls ?_ | with_reducible refine Go.Proofs.YgcoaaGreat.NatW.gen_wp ?_ | with_reducible refine Go.Proofs.YgcoaaGreat.NatW.gen_list ?_ | with_reducible refine Go.Proofs.YgcoaaGreat.NatW.gen_body ?_); intro W hW)
      have hyW : Below wb.heap.size wb W := by rw [← hW]; exact y.ok.alloc y.ok.size _
      have qr := congrArg (fun z : World => z.heap[y.at_.heap.size]?) hW
      rw [heap_alloc_new, hnb] at qr
      clear hW hne
      obtain ⟨wb2, x9, hx, hup, hrow, hZ2⟩ := rebase3 wb W hyW
      replace c00 := fun x : Later wb2 => (show _ from (Exists.choose_spec (hup x)) ▸ c00 (Exists.choose (hup x)))
      replace c01 := fun x : Later wb2 => (show _ from (Exists.choose_spec (hup x)) ▸ c01 (Exists.choose (hup x)))
      replace hB := fun x : Later wb2 => (show _ from (Exists.choose_spec (hup x)) ▸ hB (Exists.choose (hup x)))
      have hne : Nonempty (Later wb2) := ⟨x9⟩
      have r9 := hrow _ _ qr.symm
      have c90 := Later.cell r9 0 _ rfl
      have c91 := Later.cell r9 1 _ rfl
      have c92 := Later.cell r9 2 _ rfl
      have c93 := Later.cell r9 3 _ rfl
      skip
      skip
      skip
      skip
      clear hup hrow hyW qr r9
      rw [hx]
      clear hx)
    | (with_reducible refine Go.Proofs.YgcoaaGreat.NatW.at_later 67 ?_; refine Go.Proofs.YgcoaaGreat.NatW.Ret.run (fmtOk_ret E M hf) _ ?_; rintro _ y__ rfl)
    | (with_reducible refine Go.Proofs.YgcoaaGreat.NatW.at_later 68 ?_
       refine Ret.run (unpack_i E M hf a ha) _ ?_
       rintro _ y ⟨xn, xc, xe, xm, rfl, xp, xq⟩
       obtain ⟨xe0, xe1, uxm, xc0, xc1⟩ := Pb.bd g4 xp
       have XP := hide xp
       have XQ := hide xq
       clear xp xq
       obtain ⟨nb, hnb⟩ : ∃ nb, y.at_.heap.size = nb := ⟨_, rfl⟩
       have bw : w.heap.size + 1 ≤ nb := by have := hZ y; omega
       have nn0 : nb ≠ w.heap.size := by omega
       have nn1 : w.heap.size ≠ nb := by omega
       have ca0 : ∀ o, (y.at_.alloc o).cell? ⟨w.heap.size, 0, none⟩ = some (.int .u8 E) := fun o => c00 ⟨y.at_.alloc o, y.ok.alloc y.ok.size o⟩
       have ca1 : ∀ o, (y.at_.alloc o).cell? ⟨w.heap.size, 1, none⟩ = some (.int .u8 M) := fun o => c01 ⟨y.at_.alloc o, y.ok.alloc y.ok.size o⟩)
    | (with_reducible refine Go.Proofs.YgcoaaGreat.NatW.at_later 399 ?_; refine Go.Proofs.YgcoaaGreat.NatW.Ret.run (cut_ret _ _ (by (first | assumption | exact U64.wrap _ | exact U64.bits _ _ _ | exact U64.div (by first | assumption | exact U64.wrap _ | exact U64.bits _ _ _ | exact U64.div (by first | assumption | exact U64.wrap _ | exact U64.bits _ _ _ | exact U64.lit (by omega) (by omega)) _ | exact U64.ediv (by first | assumption | exact U64.wrap _ | exact U64.bits _ _ _ | exact U64.lit (by omega) (by omega)) _ (by omega) | exact U64.lit (by omega) (by omega) | exact U64.one _ (by first | assumption | exact U64.wrap _ | exact U64.bits _ _ _ | exact U64.lit (by omega) (by omega)) (by first | assumption | exact U64.wrap _ | exact U64.bits _ _ _ | exact U64.lit (by omega) (by omega))) _ | exact U64.ediv (by first | assumption | exact U64.wrap _ | exact U64.bits _ _ _ | exact U64.div (by first | assumption | exact U64.wrap _ | exact U64.bits _ _ _ | exact U64.lit (by omega) (by omega)) _ | exact U64.ediv (by first | assumption | exact U64.wrap _ | exact U64.bits _ _ _ | exact U64.lit (by omega) (by omega)) _ (by omega) | exact U64.lit (by omega) (by omega) | exact U64.one _ (by first | assumption | exact U64.wrap _ | exact U64.bits _ _ _ | exact U64.lit (by omega) (by omega)) (by first | assumption | exact U64.wrap _ | exact U64.bits _ _ _ | exact U64.lit (by omega) (by omega))) _ (by omega) | exact U64.lit (by omega) (by omega) | exact U64.one _ (by first | assumption | exact U64.wrap _ | exact U64.bits _ _ _ | exact U64.div (by first | assumption | exact U64.wrap _ | exact U64.bits _ _ _ | exact U64.lit (by omega) (by omega)) _ | exact U64.ediv (by first | assumption | exact U64.wrap _ | exact U64.bits _ _ _ | exact U64.lit (by omega) (by omega)) _ (by omega) | exact U64.lit (by omega) (by omega) | exact U64.one _ (by first | assumption | exact U64.wrap _ | exact U64.bits _ _ _ | exact U64.lit (by omega) (by omega)) (by first | assumption | exact U64.wrap _ | exact U64.bits _ _ _ | exact U64.lit (by omega) (by omega))) (by first | assumption | exact U64.wrap _ | exact U64.bits _ _ _ | exact U64.div (by first | assumption | exact U64.wrap _ | exact U64.bits _ _ _ | exact U64.lit (by omega) (by omega)) _ | exact U64.ediv (by first | assumption | exact U64.wrap _ | exact U64.bits _ _ _ | exact U64.lit (by omega) (by omega)) _ (by omega) | exact U64.lit (by omega) (by omega) | exact U64.one _ (by first | assumption | exact U64.wrap _ | exact U64.bits _ _ _ | exact U64.lit (by omega) (by omega)) (by first | assumption | exact U64.wrap _ | exact U64.bits _ _ _ | exact U64.lit (by omega) (by omega))))) (by omega) (by omega)) _ ?_; rintro _ y__ ⟨n7, r7, rfl, un7, ur7⟩)
    | (with_reducible refine Go.Proofs.YgcoaaGreat.NatW.at_later 400 ?_; refine Go.Proofs.YgcoaaGreat.NatW.Ret.run (raises_ret _ _ _ _) _ ?_; rintro _ y__ ⟨b7, rfl⟩))
  all_goals
    refine bodyPost_box rfl ?_
    intro r hr
    simp [results, Oaag.results306, go_sem] at hr
    subst hr
    refine ⟨_, rfl, ?_⟩
    refine unhide HK _ _ ?_ (hB _)
    first | exact ⟨_, _, _, rfl, by (first | with_reducible exact wri64 _ | with_reducible exact wr64i _ | exact ⟨by decide, by decide⟩ | exact ⟨by omega, by omega⟩)⟩ | skip

set_option maxRecDepth 20000 in
set_option maxHeartbeats 2000000 in
theorem logB_rng (E M : Nat) (hf : fok E M = true) (a : Int) (ha : U64 a) : Ret 271 #[fmt E M, .int .u64 a] (fun v => ∃ r b, v = .tuple #[.int .i64 r, .bool b] ∧ I64 r) := by
  obtain ⟨g1, g2, g3, g4⟩ := fok_bd hf
  intro w K hK
  have HK := hide hK
  clear hK
  obtain ⟨wb, x0, hwb, r0, hB, hZ⟩ := boxes1 w #[.int .u8 E, .int .u8 M] 23
  have c00 : ∀ x : Later wb, _ = some (.int .u8 E : Value) := Later.cell r0 0 _ rfl
  have c01 : ∀ x : Later wb, _ = some (.int .u8 M : Value) := Later.cell r0 1 _ rfl
  have R0 := hide r0
  clear r0
  have hne : Nonempty (Later wb) := ⟨x0⟩
  go_enter Oaag.func271, Oaag.ntmps271
  go_wp2_with (first
    | (with_reducible refine Go.Proofs.YgcoaaGreat.NatW.at_later 187 ?_; refine Go.Proofs.YgcoaaGreat.NatW.Ret.run (logBFlags_rng E M hf a ha) _ ?_; rintro _ y__ ⟨r, b, f, rfl, hr64⟩))
  all_goals first | exact unhide HK _ _ ⟨_, _, rfl, hr64⟩ (hB _) | skip

set_option maxRecDepth 20000 in
set_option maxHeartbeats 2000000 in
theorem toInt_rng (E M : Nat) (hf : fok E M = true) (m a : Int) (ha : U64 a) : Ret 168 #[fmt E M, .int .u8 m, .int .u64 a] (fun v => ∃ r b, v = .tuple #[.int .i64 r, .bool b] ∧ I64 r) := by
  obtain ⟨g1, g2, g3, g4⟩ := fok_bd hf
  intro w K hK
  have HK := hide hK
  clear hK
  obtain ⟨wb, x0, hwb, r0, hB, hZ⟩ := boxes1 w #[.int .u8 E, .int .u8 M] 23
  have c00 : ∀ x : Later wb, _ = some (.int .u8 E : Value) := Later.cell r0 0 _ rfl
  have c01 : ∀ x : Later wb, _ = some (.int .u8 M : Value) := Later.cell r0 1 _ rfl
  have R0 := hide r0
  clear r0
  have hne : Nonempty (Later wb) := ⟨x0⟩
  go_enter Oaag.func168, Oaag.ntmps168
  go_wp2_with (first
    | (with_reducible refine Go.Proofs.YgcoaaGreat.NatW.at_later 306 ?_; refine Go.Proofs.YgcoaaGreat.NatW.Ret.run (toIntFlags_rng E M hf m a ha) _ ?_; rintro _ y__ ⟨r, b, f, rfl, hr64⟩))
  all_goals first | exact unhide HK _ _ ⟨_, _, rfl, hr64⟩ (hB _) | skip


end Go.Proofs.YgcoaaGreat.NatW
