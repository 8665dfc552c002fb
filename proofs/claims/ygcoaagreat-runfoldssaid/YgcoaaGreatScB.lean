/-
  Package hexa: Scan at the empty text.
-/
import Derived.Test.YgcoaaGreatScA
set_option linter.unusedVariables false
set_option linter.unusedSimpArgs false
namespace Go.Proofs.YgcoaaGreat.NatW
attribute [local go_sem] Go.Instr.field Go.asAgg
open Go.RowKit

theorem two_of {w W : World} {a b : Obj} (h : (w.alloc a).alloc b = W) : W.heap[w.heap.size]? = some a ∧ W.heap[w.heap.size + 1]? = some b ∧ Below w.heap.size w W := by
  subst h
  have hs : ∀ (X : World) (o : Obj), (X.alloc o).heap.size = X.heap.size + 1 := fun X o => by simp
  have hn : ∀ (X : World) (o : Obj) (k : Nat), k = X.heap.size → (X.alloc o).heap[k]? = some o := fun X o k hk => by rw [hk]; exact heap_alloc_new X o
  have ho := Below.heap_alloc
  refine ⟨?_, ?_, ?_⟩
  · rw [ho _ _ _ (by simp only [hs]; omega), hn _ _ _ rfl]
  · rw [hn _ _ _ (by simp only [hs])]
  · exact ((Below.refl _ _).alloc (Nat.le_refl _) _).alloc (by simp only [hs]; omega) _

set_option maxRecDepth 20000 in
set_option maxHeartbeats 4000000 in
theorem hscan_zero : Ret 266 #[.string ⟨#[]⟩] (fun v => v = .agg #[.int .u8 3, .bool false, .string ⟨#[]⟩, .int .i16 0, .int .i64 0, .int .i32 (-1)]) := by
  intro w K hK
  have HK := hide hK
  clear hK
  go_enter Oaag.func266, Oaag.ntmps266
  go_wp2_with fail
  go_step3
  go_wp2_with fail
  go_step3
  go_wp2_with fail
  ((first | with_reducible refine Go.Proofs.YgcoaaGreat.NatW.gen_calls ?_ | with_reducible refine Go.Proofs.YgcoaaGreat.NatW.gen_wp ?_ | with_reducible refine Go.Proofs.YgcoaaGreat.NatW.gen_list ?_ | with_reducible refine Go.Proofs.YgcoaaGreat.NatW.gen_body ?_); intro W hW)
  obtain ⟨r0, r3, hbW⟩ := two_of (show (w.alloc _).alloc _ = W from hW)
  clear hW
  obtain ⟨wb, x0, hx, hrow, hB, hZ⟩ := rebase w W hbW
  have q0 := hrow _ _ r0
  have q3 := hrow _ _ r3
  have c00 : ∀ x : Later wb, _ = some (.int .u8 0 : Value) := Later.cell q0 0 _ rfl
  have c01 : ∀ x : Later wb, _ = some (.bool false : Value) := Later.cell q0 1 _ rfl
  have c02 : ∀ x : Later wb, _ = some (.string ⟨#[]⟩ : Value) := Later.cell q0 2 _ rfl
  have c03 : ∀ x : Later wb, _ = some (.int .i16 0 : Value) := Later.cell q0 3 _ rfl
  have c04 : ∀ x : Later wb, _ = some (.int .i64 0 : Value) := Later.cell q0 4 _ rfl
  have c05 : ∀ x : Later wb, _ = some (.int .i32 0 : Value) := Later.cell q0 5 _ rfl
  have f00 := Later.frz q0 0
  have f01 := Later.frz q0 1
  have f02 := Later.frz q0 2
  have f03 := Later.frz q0 3
  have f04 := Later.frz q0 4
  have f05 := Later.frz q0 5
  have hnx : ∀ x : Later wb, (Instr.next (.pointer (some ⟨w.heap.size + 1, 0, none⟩)) true 0).run Oaag.prog x.at_ = .ok (.tuple #[.bool false]) x.at_ := fun x => by
    have hr := Later.row q3 x
    have h0 : ¬ (0 : Nat) < (ByteArray.mk #[]).size := by decide
    simp [Instr.next, getObj, Sem.run, hr, h0]
  clear hrow q0 q3 r0 r3 hbW
  have hne : Nonempty (Later wb) := ⟨x0⟩
  rw [hx]
  clear hx hZ
  go_loopw [8, 21] (fun t8 _ wr => t8 = .int .i64 0 ∧ wr = x0.at_) (fun _ _ _ => 0)
  case atStart => exact ⟨rfl, rfl⟩
  case round =>
    obtain ⟨rfl, rfl⟩ := hrel
    go_wp2_with fail
    refine bodyPost_box rfl ?_; intro r hr; simp [results, Oaag.results266, go_sem, c00, c01, c02, c03, c04, c05] at hr; subst hr; refine ⟨_, rfl, ?_⟩
    exact unhide HK _ _ rfl (by (repeat ((with_reducible refine Go.Proofs.YgcoaaGreat.NatW.at_setb ?_); refine below_store ?_ (Nat.le_refl _) _)); exact hB _)

end Go.Proofs.YgcoaaGreat.NatW
