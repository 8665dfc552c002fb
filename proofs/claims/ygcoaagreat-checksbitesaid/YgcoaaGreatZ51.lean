/-
  The zero of the table's type.
-/
import Derived.Test.YgcoaaGreatTabD
import Derived.Test.YgcoaaGreatRebase
set_option linter.unusedVariables false
namespace Go.Proofs.YgcoaaGreat.NatW
attribute [local go_sem] Go.Instr.field Go.asAgg
open Go.RowKit
def tz : Array Value := (List.replicate 1392 (Value.int .u64 0) ++ List.replicate 696 (Value.int .i16 0)).toArray
theorem z51 : ((Oaag.prog.info? 51).bind fun i => i.zero.map fun z => z.cells) = some tz := by kernel_rfl
theorem tz_u (i : Nat) (hi : i < 1392) : tz[i]? = some (Value.int .u64 0) := by
  unfold tz
  rw [List.getElem?_toArray, List.getElem?_append_left (by rw [List.length_replicate]; exact hi), List.getElem?_replicate, if_pos hi]
theorem tz_e (i : Nat) (hi : i < 696) : tz[1392 + i]? = some (Value.int .i16 0) := by
  unfold tz
  rw [List.getElem?_toArray, List.getElem?_append_right (by rw [List.length_replicate]; omega), List.length_replicate, List.getElem?_replicate, if_pos (by omega)]
theorem rows3 (w : World) (o1 o2 o3 : Obj) : (((w.alloc o1).alloc o2).alloc o3).heap[w.heap.size]? = some o1 ∧ (((w.alloc o1).alloc o2).alloc o3).heap[w.heap.size + 1]? = some o2 ∧ (((w.alloc o1).alloc o2).alloc o3).heap[w.heap.size + 2]? = some o3 := by
  have e : ∀ (w : World) (o : Obj), (w.alloc o).heap.size = w.heap.size + 1 := fun w o => by simp
  refine ⟨?_, ?_, ?_⟩
  · rw [heap_new, e, e, if_pos (by omega), heap_new, e, if_pos (by omega), heap_new, if_neg (by omega), if_pos rfl]
  · rw [heap_new, e, e, if_pos (by omega), heap_new, e, if_neg (by omega), if_pos rfl]
  · rw [heap_new, e, e, if_neg (by omega), if_pos rfl]
end Go.Proofs.YgcoaaGreat.NatW
