/-
  Package dmodel: the pieces; runs with tape zero.
-/
import Derived.Test.YgcoaaGreatSfT
import Derived.Test.YgcoaaGreatDecC
import Derived.Laws.RangeAny
set_option linter.unusedVariables false
set_option linter.unusedSimpArgs false
set_option maxRecDepth 20000
namespace Go.Proofs.YgcoaaGreat.NatW
open Go.RowKit
attribute [local go_sem] Go.Instr.field Go.asAgg

/-- With tape zero it returns some value with this fact. -/
def ZRet (g : FuncId) (args : Array Value) (Ψ : Value → Prop) : Prop := ∀ (w : World) (K : Ending → World → Prop), w.tape = (fun _ _ => 0) → (∀ v w', Ψ v → Below w.heap.size w w' → K (.returned v) w') → Calls Oaag.prog g args w K

set_option maxHeartbeats 1000000 in
theorem digits_z (s : ByteArray) (hs : s.size ≤ 1000000) : ZRet 418 #[.string s] (fun v => ∃ n : Nat, v = .int .i64 n ∧ n ≤ s.size) := by
  intro w K ht hK
  have HK := hide hK
  clear hK
  go_enter Oaag.func418, Oaag.ntmps418
  go_wp2_with fail
  go_loop [3] (fun t => ∃ n : Nat, t = .int .i64 n ∧ n ≤ s.size) (fun t => s.size - (intOf t).toNat)
  case atStart => exact ⟨0, rfl, by omega⟩
  case round =>
    obtain ⟨n, rfl, hn⟩ := hrel
    by_cases hl : n < s.size
    · have hix := index_str s n n rfl hl
      have hb := byt_lt s n
      go_wp2_with fail
      all_goals first
        | exact ⟨⟨n + 1, by simp, by omega⟩, by simp [intOf]; omega⟩
        | exact unhide HK _ _ ⟨n, rfl, hn⟩ (Below.refl _ _)
        | (go_ret; exact unhide HK _ _ ⟨n, rfl, hn⟩ (Below.refl _ _))
    · go_wp2_with fail
      all_goals first
        | exact unhide HK _ _ ⟨n, rfl, hn⟩ (Below.refl _ _)
        | (go_ret; exact unhide HK _ _ ⟨n, rfl, hn⟩ (Below.refl _ _))

set_option maxHeartbeats 1000000 in
theorem cut_z (s : ByteArray) (hs : s.size ≤ 1000000) (a b : Int) : ZRet 417 #[.string s, .int .u8 a, .int .u8 b] (fun v => ∃ n : Int, v = .int .i64 n ∧ -1 ≤ n ∧ n < s.size) := by
  intro w K ht hK
  have HK := hide hK
  clear hK
  go_enter Oaag.func417, Oaag.ntmps417
  go_wp2_with fail
  go_loop [7] (fun t => ∃ n : Nat, t = .int .i64 n ∧ n ≤ s.size) (fun t => s.size - (intOf t).toNat)
  case atStart => exact ⟨0, rfl, by omega⟩
  case round =>
    obtain ⟨n, rfl, hn⟩ := hrel
    by_cases hl : n < s.size
    · have hix := index_str s n n rfl hl
      have hb := byt_lt s n
      go_wp2_with fail
      all_goals first
        | exact ⟨⟨n + 1, by simp, by omega⟩, by simp [intOf]; omega⟩
        | exact unhide HK _ _ ⟨n, rfl, by omega, by omega⟩ (Below.refl _ _)
        | (go_ret; exact unhide HK _ _ ⟨n, rfl, by omega, by omega⟩ (Below.refl _ _))
    · go_wp2_with fail
      all_goals first
        | exact unhide HK _ _ ⟨-1, rfl, by omega, by omega⟩ (Below.refl _ _)
        | (go_ret; exact unhide HK _ _ ⟨-1, rfl, by omega, by omega⟩ (Below.refl _ _))

set_option maxHeartbeats 2000000 in
theorem matched_z (s v : ByteArray) (hs : s.size ≤ 1000000) (hv : v.size ≤ 1000000) : ZRet 363 #[.string s, .string v] (fun r => ∃ n : Nat, r = .int .i64 n ∧ n ≤ s.size ∧ n ≤ v.size) := by
  intro w K ht hK
  have HK := hide hK
  clear hK
  go_enter Oaag.func363, Oaag.ntmps363
  go_wp2_with fail
  go_loopw [5] (fun t wr => ∃ n : Nat, t = .int .i64 n ∧ n ≤ s.size ∧ n ≤ v.size ∧ Below w.heap.size w wr) (fun t _ => s.size - (intOf t).toNat)
  case atStart => exact ⟨0, rfl, by omega, by omega, Below.refl _ _⟩
  case round =>
    obtain ⟨n, rfl, hn, hn2, hb⟩ := hrel
    have ht' : wr.tape = fun _ _ => 0 := hb.tape.trans ht
    have HB := hide (show Below w.heap.size w wr.drew from ⟨hb.os, hb.tape, hb.output, hb.size, hb.block⟩)
    clear hb
    by_cases hl : n < s.size
    · by_cases hl2 : n < v.size
      · have hix := index_str s n n rfl hl
        have hix2 := index_str v n n rfl hl2
        go_wp2_with (refine wp_region_zero_list ht' (by kernel_rfl) ?_)
        all_goals first
          | exact ⟨⟨n + 1, by simp, by omega, by omega, unhide HB⟩, by simp [intOf]; omega⟩
          | exact unhide HK _ _ ⟨n, rfl, hn, hn2⟩ (unhide HB)
          | (go_ret; exact unhide HK _ _ ⟨n, rfl, hn, hn2⟩ (unhide HB))
      · go_wp2_with (refine wp_region_zero_list ht' (by kernel_rfl) ?_)
        all_goals first
          | exact unhide HK _ _ ⟨n, rfl, hn, hn2⟩ (unhide HB)
          | (go_ret; exact unhide HK _ _ ⟨n, rfl, hn, hn2⟩ (unhide HB))
    · go_wp2_with (refine wp_region_zero_list ht' (by kernel_rfl) ?_)
      all_goals first
        | exact unhide HK _ _ ⟨n, rfl, hn, hn2⟩ (unhide HB)
        | (go_ret; exact unhide HK _ _ ⟨n, rfl, hn, hn2⟩ (unhide HB))

def scanV (k : Int) (n : Bool) (d : ByteArray) (e p g : Int) : Value := .agg #[.int .u8 k, .bool n, .string d, .int .i16 e, .int .i64 p, .int .i32 g]
set_option maxHeartbeats 2000000 in
theorem wrong_z (s : ByteArray) (hs : s.size ≤ 1000000) (p : Nat) (hp : p ≤ s.size) : ZRet 364 #[.string s, .int .i64 p] (fun r => ∃ g : Int, r = scanV 3 false ⟨#[]⟩ 0 p g) := by
  intro w K ht hK
  have HK := hide hK
  clear hK
  have hsz : ∀ o, (w.alloc o).heap.size = w.heap.size + 1 := fun o => by simp
  go_enter Oaag.func364, Oaag.ntmps364
  go_wp2_with fail
  go_loopw [6] (fun _ wr => wr = (w.alloc (Obj.cells #[Value.int IntKind.u8 0, Value.bool false, Value.string ⟨#[]⟩, Value.int IntKind.i16 0, Value.int IntKind.i64 0, Value.int IntKind.i32 0] 244)).iter (s.extract p s.size) 0) (fun _ _ => 0)
  case atStart => rfl
  case round =>
    subst hrel
    by_cases h0 : 0 < (s.extract p s.size).size
    · have hnx := fun ty => run_next_any (P := Oaag.prog) (w.alloc (Obj.cells #[Value.int IntKind.u8 0, Value.bool false, Value.string ⟨#[]⟩, Value.int IntKind.i16 0, Value.int IntKind.i64 0, Value.int IntKind.i32 0] 244)) (s.extract p s.size) 0 ty h0
      simp only [hsz] at hnx
      obtain ⟨q, hq⟩ : ∃ q, 0 + (Utf8.decode (s.extract p s.size) 0).2 = q := ⟨_, rfl⟩
      obtain ⟨g, hg⟩ : ∃ g : Int, ((Utf8.decode (s.extract p s.size) 0).1 : Int) = g := ⟨_, rfl⟩
      rw [hq, hg] at hnx
      obtain ⟨W2, hW2⟩ : ∃ W2, (w.alloc (Obj.cells #[Value.int IntKind.u8 0, Value.bool false, Value.string ⟨#[]⟩, Value.int IntKind.i16 0, Value.int IntKind.i64 0, Value.int IntKind.i32 0] 244)).iter (s.extract p s.size) q = W2 := ⟨_, rfl⟩
      rw [hW2] at hnx
      have c0 : W2.cell? ⟨w.heap.size, 0, none⟩ = some (.int .u8 0) := by rw [← hW2]; simp [World.iter]
      have f0 : W2.frozen? ⟨w.heap.size, 0, none⟩ = false := by rw [← hW2]; simp [World.iter]
      have c1 : W2.cell? ⟨w.heap.size, 1, none⟩ = some (.bool false) := by rw [← hW2]; simp [World.iter]
      have f1 : W2.frozen? ⟨w.heap.size, 1, none⟩ = false := by rw [← hW2]; simp [World.iter]
      have c2 : W2.cell? ⟨w.heap.size, 2, none⟩ = some (.string ⟨#[]⟩) := by rw [← hW2]; simp [World.iter]
      have f2 : W2.frozen? ⟨w.heap.size, 2, none⟩ = false := by rw [← hW2]; simp [World.iter]
      have c3 : W2.cell? ⟨w.heap.size, 3, none⟩ = some (.int .i16 0) := by rw [← hW2]; simp [World.iter]
      have f3 : W2.frozen? ⟨w.heap.size, 3, none⟩ = false := by rw [← hW2]; simp [World.iter]
      have c4 : W2.cell? ⟨w.heap.size, 4, none⟩ = some (.int .i64 0) := by rw [← hW2]; simp [World.iter]
      have f4 : W2.frozen? ⟨w.heap.size, 4, none⟩ = false := by rw [← hW2]; simp [World.iter]
      have c5 : W2.cell? ⟨w.heap.size, 5, none⟩ = some (.int .i32 0) := by rw [← hW2]; simp [World.iter]
      have f5 : W2.frozen? ⟨w.heap.size, 5, none⟩ = false := by rw [← hW2]; simp [World.iter]
      have HB := hide (show Below w.heap.size w W2 from by rw [← hW2]; exact ((Below.refl _ _).alloc (Nat.le_refl _) _).alloc (by simp) _)
      clear hsz hq hg hW2
      go_wp2_with fail
      all_goals
        refine bodyPost_box rfl ?_
        intro r hr
        simp [results, Oaag.results364, go_sem, c0, c1, c2, c3, c4, c5] at hr
        subst hr
        refine ⟨_, rfl, ?_⟩
        exact unhide HK _ _ ⟨_, rfl⟩ (below_store (below_store (below_store (below_store (below_store (below_store (unhide HB) (Nat.le_refl _) _) (Nat.le_refl _) _) (Nat.le_refl _) _) (Nat.le_refl _) _) (Nat.le_refl _) _) (Nat.le_refl _) _)
    · have hnx := fun ty => run_next_end (P := Oaag.prog) (w.alloc (Obj.cells #[Value.int IntKind.u8 0, Value.bool false, Value.string ⟨#[]⟩, Value.int IntKind.i16 0, Value.int IntKind.i64 0, Value.int IntKind.i32 0] 244)) (s.extract p s.size) 0 ty h0
      simp only [hsz] at hnx
      obtain ⟨W2, hW2⟩ : ∃ W2, (w.alloc (Obj.cells #[Value.int IntKind.u8 0, Value.bool false, Value.string ⟨#[]⟩, Value.int IntKind.i16 0, Value.int IntKind.i64 0, Value.int IntKind.i32 0] 244)).iter (s.extract p s.size) 0 = W2 := ⟨_, rfl⟩
      rw [hW2] at hnx
      have c0 : W2.cell? ⟨w.heap.size, 0, none⟩ = some (.int .u8 0) := by rw [← hW2]; simp [World.iter]
      have f0 : W2.frozen? ⟨w.heap.size, 0, none⟩ = false := by rw [← hW2]; simp [World.iter]
      have c1 : W2.cell? ⟨w.heap.size, 1, none⟩ = some (.bool false) := by rw [← hW2]; simp [World.iter]
      have f1 : W2.frozen? ⟨w.heap.size, 1, none⟩ = false := by rw [← hW2]; simp [World.iter]
      have c2 : W2.cell? ⟨w.heap.size, 2, none⟩ = some (.string ⟨#[]⟩) := by rw [← hW2]; simp [World.iter]
      have f2 : W2.frozen? ⟨w.heap.size, 2, none⟩ = false := by rw [← hW2]; simp [World.iter]
      have c3 : W2.cell? ⟨w.heap.size, 3, none⟩ = some (.int .i16 0) := by rw [← hW2]; simp [World.iter]
      have f3 : W2.frozen? ⟨w.heap.size, 3, none⟩ = false := by rw [← hW2]; simp [World.iter]
      have c4 : W2.cell? ⟨w.heap.size, 4, none⟩ = some (.int .i64 0) := by rw [← hW2]; simp [World.iter]
      have f4 : W2.frozen? ⟨w.heap.size, 4, none⟩ = false := by rw [← hW2]; simp [World.iter]
      have c5 : W2.cell? ⟨w.heap.size, 5, none⟩ = some (.int .i32 0) := by rw [← hW2]; simp [World.iter]
      have f5 : W2.frozen? ⟨w.heap.size, 5, none⟩ = false := by rw [← hW2]; simp [World.iter]
      have HB := hide (show Below w.heap.size w W2 from by rw [← hW2]; exact ((Below.refl _ _).alloc (Nat.le_refl _) _).alloc (by simp) _)
      rw [hW2]
      clear hsz hW2
      go_wp2_with fail
      all_goals
        refine bodyPost_box rfl ?_
        intro r hr
        simp [results, Oaag.results364, go_sem, c0, c1, c2, c3, c4, c5] at hr
        subst hr
        refine ⟨_, rfl, ?_⟩
        exact unhide HK _ _ ⟨_, rfl⟩ (below_store (below_store (below_store (below_store (below_store (below_store (unhide HB) (Nat.le_refl _) _) (Nat.le_refl _) _) (Nat.le_refl _) _) (Nat.le_refl _) _) (Nat.le_refl _) _) (Nat.le_refl _) _)
end Go.Proofs.YgcoaaGreat.NatW
