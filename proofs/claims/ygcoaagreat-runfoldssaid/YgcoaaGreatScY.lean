/-
  Package dec: finish, exactly.
-/
import Derived.Test.YgcoaaGreatScB0
set_option linter.unusedVariables false
set_option linter.unusedSimpArgs false
set_option maxRecDepth 20000
namespace Go.Proofs.YgcoaaGreat.NatW
open Go.RowKit
open Go.Proofs.YgcoaaGreat.Det
attribute [local go_sem] Go.Instr.field Go.asAgg

theorem two_alloc {W : World} {a b : Obj} : Below W.heap.size W ((W.alloc a).alloc b) := ((Below.refl _ _).alloc (Nat.le_refl _) _).alloc (by simp) _

set_option maxHeartbeats 2000000 in
theorem finish_num (st : Nat) (hst : st = 2 ∨ st = 3 ∨ st = 5 ∨ st = 8) (neg eneg : Bool) (dig : List Int) (frac exp at_ n : Nat) (wd : ByteArray) (h1 : exp ≤ 1000000) (h2 : frac ≤ 1000000) (m : MK) (hm : DF 35 #[.bool neg, .string (strOfNums dig), .int .i64 ((if eneg then -(exp : Int) else exp) - frac)] m.val)
    (v : Value) (tb : Nat) (W : World) (hon : On tb W) {base : Nat} {av : Nat → Prop} (hrow : W.rowX base av v (dig.map (.int .u8))) (K : Ending → World → Prop) (hK : ∀ W', Below W.heap.size W W' → K (.returned m.scan) W') :
    Calls Oaag.prog 377 #[.agg #[.bool neg, .bool eneg, v, .int .i64 frac, .int .i64 exp], .int .i64 st, .string wd, .int .i64 at_, .int .i64 n] W K := by
  have HK := hide hK
  clear hK
  obtain ⟨n', d', e', ok⟩ := m
  simp only [MK.val, MK.scan] at hm HK
  obtain ⟨va, vc, rfl⟩ := rowX_sliceM hrow
  have hcv : ∀ E : Int, (convert 119 9 (Value.slice va dig.length vc)).run Oaag.prog ((W.alloc (Obj.cells #[Value.bool neg, Value.bool eneg, Value.slice va dig.length vc, Value.int IntKind.i64 frac, Value.int IntKind.i64 E] 343)).alloc (Obj.cells #[Value.int IntKind.u8 0, Value.bool false, Value.string ⟨#[]⟩, Value.int IntKind.i16 0, Value.int IntKind.i64 0, Value.int IntKind.i32 0] 244)) = .ok (.string (strOfNums dig)) ((W.alloc (Obj.cells #[Value.bool neg, Value.bool eneg, Value.slice va dig.length vc, Value.int IntKind.i64 frac, Value.int IntKind.i64 E] 343)).alloc (Obj.cells #[Value.int IntKind.u8 0, Value.bool false, Value.string ⟨#[]⟩, Value.int IntKind.i16 0, Value.int IntKind.i64 0, Value.int IntKind.i32 0] 244)) := fun E => rowX_string _ ((hrow.alloc _).alloc _)
  have ho : ∀ E : Int, On tb ((W.alloc (Obj.cells #[Value.bool neg, Value.bool eneg, Value.slice va dig.length vc, Value.int IntKind.i64 frac, Value.int IntKind.i64 E] 343)).alloc (Obj.cells #[Value.int IntKind.u8 0, Value.bool false, Value.string ⟨#[]⟩, Value.int IntKind.i16 0, Value.int IntKind.i64 0, Value.int IntKind.i32 0] 244)) := fun E => hon.later two_alloc
  have hB : ∀ E : Int, Below W.heap.size W ((W.alloc (Obj.cells #[Value.bool neg, Value.bool eneg, Value.slice va dig.length vc, Value.int IntKind.i64 frac, Value.int IntKind.i64 E] 343)).alloc (Obj.cells #[Value.int IntKind.u8 0, Value.bool false, Value.string ⟨#[]⟩, Value.int IntKind.i16 0, Value.int IntKind.i64 0, Value.int IntKind.i32 0] 244)) := fun E => two_alloc
  have HO := hide ho
  have HBB := hide hB
  clear hrow hon ho hB
  rcases hst with rfl | rfl | rfl | rfl
  all_goals cases eneg
  all_goals simp only [if_true, if_false, Bool.false_eq_true] at hm
  all_goals
    go_enter Oaag.func377, Oaag.ntmps377
    go_wp2_with ((with_reducible refine DF.run hm (unhide HO _) ?_); refine unhide ?_)
    refine hide ?_
    intro W2 hb
    have c0 : W2.cell? ⟨W.heap.size + 1, 0, none⟩ = some (.int .u8 0) := (hb.cell (p := ⟨W.heap.size + 1, 0, none⟩) (by simp)).trans (by simp)
    have f0 : W2.frozen? ⟨W.heap.size + 1, 0, none⟩ = false := (hb.frozen (p := ⟨W.heap.size + 1, 0, none⟩) (by simp)).trans (by simp)
    have c1 : W2.cell? ⟨W.heap.size + 1, 1, none⟩ = some (.bool false) := (hb.cell (p := ⟨W.heap.size + 1, 1, none⟩) (by simp)).trans (by simp)
    have f1 : W2.frozen? ⟨W.heap.size + 1, 1, none⟩ = false := (hb.frozen (p := ⟨W.heap.size + 1, 1, none⟩) (by simp)).trans (by simp)
    have c2 : W2.cell? ⟨W.heap.size + 1, 2, none⟩ = some (.string ⟨#[]⟩) := (hb.cell (p := ⟨W.heap.size + 1, 2, none⟩) (by simp)).trans (by simp)
    have f2 : W2.frozen? ⟨W.heap.size + 1, 2, none⟩ = false := (hb.frozen (p := ⟨W.heap.size + 1, 2, none⟩) (by simp)).trans (by simp)
    have c3 : W2.cell? ⟨W.heap.size + 1, 3, none⟩ = some (.int .i16 0) := (hb.cell (p := ⟨W.heap.size + 1, 3, none⟩) (by simp)).trans (by simp)
    have f3 : W2.frozen? ⟨W.heap.size + 1, 3, none⟩ = false := (hb.frozen (p := ⟨W.heap.size + 1, 3, none⟩) (by simp)).trans (by simp)
    have c4 : W2.cell? ⟨W.heap.size + 1, 4, none⟩ = some (.int .i64 0) := (hb.cell (p := ⟨W.heap.size + 1, 4, none⟩) (by simp)).trans (by simp)
    have f4 : W2.frozen? ⟨W.heap.size + 1, 4, none⟩ = false := (hb.frozen (p := ⟨W.heap.size + 1, 4, none⟩) (by simp)).trans (by simp)
    have c5 : W2.cell? ⟨W.heap.size + 1, 5, none⟩ = some (.int .i32 0) := (hb.cell (p := ⟨W.heap.size + 1, 5, none⟩) (by simp)).trans (by simp)
    have f5 : W2.frozen? ⟨W.heap.size + 1, 5, none⟩ = false := (hb.frozen (p := ⟨W.heap.size + 1, 5, none⟩) (by simp)).trans (by simp)
    have lt : W.heap.size + 1 < W2.heap.size := Nat.lt_of_lt_of_le (by simp) hb.size
    have HB := hide (Below.trans two_alloc (hb.mono (by omega)))
    clear hb hcv
    cases ok
    all_goals simp only [if_true, if_false, Bool.false_eq_true] at HK
    all_goals
      go_wp2_with fail
      refine bodyPost_box rfl ?_
      intro r hr
      simp [results, Oaag.results377, go_sem, c0, c1, c2, c3, c4, c5, lt] at hr
      subst hr
      refine ⟨_, rfl, ?_⟩
      exact unhide HK _ ((below_store (below_store (below_store (below_store (below_store (below_store (unhide HB) (Nat.le_succ _) _) (Nat.le_succ _) _) (Nat.le_succ _) _) (Nat.le_succ _) _) (Nat.le_succ _) _) (Nat.le_succ _) _).alloc (by simp only [World.size_setCell]; omega) _)

set_option maxHeartbeats 2000000 in
theorem finish_wrong (st : Nat) (hst : st = 0 ∨ st = 1 ∨ st = 4 ∨ st = 6 ∨ st = 7) (neg eneg : Bool) (v : Value) (frac exp at_ n : Nat) (wd : ByteArray) (hv : ∃ a l c, v = .slice a l c) (W : World) (K : Ending → World → Prop) (hK : ∀ W', Below W.heap.size W W' → K (.returned (scanV 3 false ⟨#[]⟩ 0 n (-1))) W') :
    Calls Oaag.prog 377 #[.agg #[.bool neg, .bool eneg, v, .int .i64 frac, .int .i64 exp], .int .i64 st, .string wd, .int .i64 at_, .int .i64 n] W K := by
  have HK := hide hK
  clear hK
  obtain ⟨va, vl, vc, rfl⟩ := hv
  rcases hst with rfl | rfl | rfl | rfl | rfl
  all_goals
    go_enter Oaag.func377, Oaag.ntmps377
    go_wp2_with fail
    refine bodyPost_box rfl ?_
    intro r hr
    simp [results, Oaag.results377, go_sem] at hr
    subst hr
    refine ⟨_, rfl, ?_⟩
    exact unhide HK _ two_alloc

set_option maxHeartbeats 2000000 in
theorem finish_word (wk at_ : Nat) (hwk : wk ≤ 2) (hat : at_ ≤ 8) (mk : Bool → ByteArray → Int → MK) (neg eneg : Bool) (dig : List Int) (v : Value) (frac exp n : Nat) (hv : ∃ a l c, v = .slice a l c) (W : World) (K : Ending → World → Prop) (hK : ∀ W', Below W.heap.size W W' → K (.returned (finV mk ⟨neg, eneg, dig, frac, exp, 9, wk, at_⟩ n)) W') :
    Calls Oaag.prog 377 #[.agg #[.bool neg, .bool eneg, v, .int .i64 frac, .int .i64 exp], .int .i64 (9 : Nat), .string (wdOf wk), .int .i64 at_, .int .i64 n] W K := by
  have HK := hide hK
  clear hK
  obtain ⟨va, vl, vc, rfl⟩ := hv
  rcases (by omega : wk = 0 ∨ wk = 1 ∨ wk = 2) with rfl | rfl | rfl
  all_goals rcases (by omega : at_ = 0 ∨ at_ = 1 ∨ at_ = 2 ∨ at_ = 3 ∨ at_ = 4 ∨ at_ = 5 ∨ at_ = 6 ∨ at_ = 7 ∨ at_ = 8) with rfl | rfl | rfl | rfl | rfl | rfl | rfl | rfl | rfl
  all_goals simp only [finV, wdOf] at HK ⊢
  all_goals
    go_enter Oaag.func377, Oaag.ntmps377
    go_wp2_with fail
    refine bodyPost_box rfl ?_
    intro r hr
    simp [results, Oaag.results377, go_sem] at hr
    subst hr
    refine ⟨_, rfl, ?_⟩
    exact unhide HK _ two_alloc

/-- finish. -/
theorem finish_x (mk : Bool → ByteArray → Int → MK) (hmk : Mk mk) (s : DS) (n : Nat) (h0 : s.st ≤ 9) (h1 : s.exp ≤ 1000000) (h2 : s.frac ≤ 1000000) (h3 : s.wk ≤ 2) (h4 : s.at_ ≤ 8) (h5 : s.dig.length ≤ 1000000)
    (v : Value) (tb : Nat) (W : World) (hon : On tb W) {base : Nat} {av : Nat → Prop} (hrow : W.rowX base av v (s.dig.map (.int .u8))) (K : Ending → World → Prop) (hK : ∀ W', Below W.heap.size W W' → K (.returned (finV mk s n)) W') :
    Calls Oaag.prog 377 #[.agg #[.bool s.neg, .bool s.eneg, v, .int .i64 s.frac, .int .i64 s.exp], .int .i64 s.st, .string (wdOf s.wk), .int .i64 s.at_, .int .i64 n] W K := by
  obtain ⟨neg, eneg, dig, frac, exp, st, wk, at_⟩ := s
  dsimp only at *
  have hsl := rowX_slice hrow
  have hv : ∃ a l c, v = .slice a l c := by obtain ⟨a, c, h⟩ := hsl; exact ⟨a, _, c, h⟩
  have hm := (hmk neg (strOfNums dig) ((if eneg then -(exp : Int) else exp) - frac) (by split <;> omega) (by split <;> omega) (by rw [strOfNums_size]; exact h5)).2
  rcases (by omega : st = 0 ∨ st = 1 ∨ st = 2 ∨ st = 3 ∨ st = 4 ∨ st = 5 ∨ st = 6 ∨ st = 7 ∨ st = 8 ∨ st = 9) with rfl | rfl | rfl | rfl | rfl | rfl | rfl | rfl | rfl | rfl
  · exact finish_wrong 0 (by omega) neg eneg v frac exp at_ n _ hv W K hK
  · exact finish_wrong 1 (by omega) neg eneg v frac exp at_ n _ hv W K hK
  · exact finish_num 2 (by omega) neg eneg dig frac exp at_ n _ h1 h2 _ hm v tb W hon hrow K hK
  · exact finish_num 3 (by omega) neg eneg dig frac exp at_ n _ h1 h2 _ hm v tb W hon hrow K hK
  · exact finish_wrong 4 (by omega) neg eneg v frac exp at_ n _ hv W K hK
  · exact finish_num 5 (by omega) neg eneg dig frac exp at_ n _ h1 h2 _ hm v tb W hon hrow K hK
  · exact finish_wrong 6 (by omega) neg eneg v frac exp at_ n _ hv W K hK
  · exact finish_wrong 7 (by omega) neg eneg v frac exp at_ n _ hv W K hK
  · exact finish_num 8 (by omega) neg eneg dig frac exp at_ n _ h1 h2 _ hm v tb W hon hrow K hK
  · exact finish_word wk at_ h3 h4 mk neg eneg dig v frac exp n hv W K hK
end Go.Proofs.YgcoaaGreat.NatW
