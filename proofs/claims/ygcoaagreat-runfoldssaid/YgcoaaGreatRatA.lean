/-
  exact.Round's small callees: of each it is said that it returns SOME answer that hangs on its arguments alone.
-/
import Derived.Test.YgcoaaGreatSqrt
import Derived.Deep.QuietTactic
import Derived.BigQuiet
set_option linter.unusedVariables false
set_option linter.unusedSimpArgs false
namespace Go.Proofs.YgcoaaGreat.NatW
open Go.RowKit
open Go.Proofs.YgcoaaGreat.Limbs

/-- The worlds in which w's memory stands. -/
structure Later (w : World) where
  at_ : World
  ok : Below w.heap.size w at_

/-- A REGION THAT DRAWS ITS ORDER, whose operations leave old memory alone and yield one value in every later world: one walk, in the order of the text. -/
theorem wp_region_below {P : Program} {id : Nat} {Q : Exit → Act → World → Prop} {a : Act} {w : World} {l : List Oper} (hm : P.follows .mixedOrders = true) (hB : Region.lexB .any l.toArray = true)
    (h : wpQuiet P l.toArray (fun w' => ∃ x : Later w, w' = x.at_) (fun a' => ∀ w', (∃ x : Later w, w' = x.at_) → Q .normal a' w') l a) : (Code.region id l.toArray true).wp P Q a w :=
  wp_region_quiet (C := fun w' => ∃ x : Later w, w' = x.at_) hm hB ⟨⟨_, (Below.refl _ w).drew⟩, rfl⟩ (by simpa using h)

/-- A callee's contract, met inside such a region. -/
theorem Calls.below_of {P : Program} {f : FuncId} {args : Array Value} {w : World} {v : Value} (x : Later w)
    (h : Calls P f args x.at_ fun e w' => e = .returned v ∧ Below x.at_.heap.size x.at_ w') : Calls P f args x.at_ fun e w'' => e = .returned v ∧ ∃ y : Later w, w'' = y.at_ :=
  h.mono fun _ w' ⟨he, hb⟩ => ⟨he, ⟨w', x.ok.trans (hb.mono x.ok.size)⟩, rfl⟩

def fok (E M : Nat) : Bool := decide (2 ≤ E ∧ E ≤ 11 ∧ 2 ≤ M ∧ M ≤ 52)

set_option maxRecDepth 20000 in
set_option maxHeartbeats 1000000 in
theorem fmtOk_any (E M : Nat) (w : World) :
    Calls Oaag.prog 67 #[.agg #[.int .u8 E, .int .u8 M]] w fun e w' => e = .returned (.bool (fok E M)) ∧ Below w.heap.size w w' := by
  by_cases h1 : 2 ≤ E
  · by_cases h2 : E ≤ 11
    · by_cases h3 : 2 ≤ M
      · by_cases h4 : M ≤ 52
        · have e : fok E M = true := by simp [fok, h1, h2, h3, h4]
          rw [e]
          have hd : decide ((M : Int) ≤ 52) = true := decide_eq_true (by omega)
          clear e
          go_enter Oaag.func67, Oaag.ntmps67
          go_wp2
          go_ret
          exact ⟨rfl, (Below.refl _ _).alloc (Nat.le_refl _) _⟩
        · have e : fok E M = false := by simp [fok, h4]
          rw [e]
          have hd : decide ((M : Int) ≤ 52) = false := decide_eq_false (by omega)
          clear e
          go_enter Oaag.func67, Oaag.ntmps67
          go_wp2
          go_ret
          exact ⟨rfl, (Below.refl _ _).alloc (Nat.le_refl _) _⟩
      · have e : fok E M = false := by simp [fok, h3]
        rw [e]
        have hd : decide ((2 : Int) ≤ M) = false := decide_eq_false (by omega)
        clear e
        go_enter Oaag.func67, Oaag.ntmps67
        go_wp2
        go_ret
        exact ⟨rfl, (Below.refl _ _).alloc (Nat.le_refl _) _⟩
    · have e : fok E M = false := by simp [fok, h2]
      rw [e]
      have hd : decide ((E : Int) ≤ 11) = false := decide_eq_false (by omega)
      clear e
      go_enter Oaag.func67, Oaag.ntmps67
      go_wp2
      go_ret
      exact ⟨rfl, (Below.refl _ _).alloc (Nat.le_refl _) _⟩
  · have e : fok E M = false := by simp [fok, h1]
    rw [e]
    have hd : decide ((2 : Int) ≤ E) = false := decide_eq_false (by omega)
    clear e
    go_enter Oaag.func67, Oaag.ntmps67
    go_wp2
    go_ret
    exact ⟨rfl, (Below.refl _ _).alloc (Nat.le_refl _) _⟩

/-- A struct of two, boxed. -/
theorem box_now (w w1 : World) (u v : Value) (t : TypeId) (hb : Below (w.heap.size + 1) (w.alloc (.cells #[u, v] t)) w1) : w1.cell? ⟨w.heap.size, 0, none⟩ = some u ∧ w1.cell? ⟨w.heap.size, 1, none⟩ = some v := by
  have h : w1.heap[w.heap.size]? = some (.cells #[u, v] t (0, 0)) := by
    rw [hb.block _ (by omega), heap_alloc_new]
  exact ⟨by rw [cell_of_row _ _ _ _ _ _ h]; rfl, by rw [cell_of_row _ _ _ _ _ _ h]; rfl⟩

theorem fmtOk_yes (E M : Nat) (hf : fok E M = true) (w : World) :
    Calls Oaag.prog 67 #[.agg #[.int .u8 E, .int .u8 M]] w fun e w' => e = .returned (.bool true) ∧ Below w.heap.size w w' := by
  have := fmtOk_any E M w
  rw [hf] at this
  exact this

theorem fok_bd {E M : Nat} (hf : fok E M = true) : 2 ≤ E ∧ E ≤ 11 ∧ 2 ≤ M ∧ M ≤ 52 := of_decide_eq_true hf

/-- A function of a format whose answer is one number. -/
def OneOf (f : FuncId) (E M : Nat) (k : IntKind) (r : Int) : Prop := ∀ w, Calls Oaag.prog f #[.agg #[.int .u8 E, .int .u8 M]] w fun e w' => e = .returned (.int k r) ∧ Below w.heap.size w w'

set_option maxRecDepth 20000 in
set_option maxHeartbeats 1000000 in
theorem signBit_any (E M : Nat) (hf : fok E M = true) : ∃ r : Int, OneOf 104 E M .u64 r := by
  obtain ⟨g1, g2, g3, g4⟩ := fok_bd hf
  have hk := fun w => fmtOk_yes E M hf w
  have HK := hide hk
  clear hk hf
  apply Exists.intro
  intro w
  go_enter Oaag.func104, Oaag.ntmps104
  go_wp2_with fail
  refine (unhide HK _).mono ?_
  rintro e w1 ⟨rfl, hb⟩
  obtain ⟨c0, c1⟩ := box_now w w1 (.int .u8 E) (.int .u8 M) 23 (by simpa using hb)
  have hb1 : Below w.heap.size w w1 := ((Below.refl _ _).alloc (Nat.le_refl _) _).trans (hb.mono (by simp))
  go_wp2
  go_ret
  exact ⟨rfl, hb1⟩

set_option maxRecDepth 20000 in
set_option maxHeartbeats 1000000 in
theorem bias_any (E M : Nat) (hf : fok E M = true) : ∃ r : Int, OneOf 117 E M .i16 r := by
  obtain ⟨g1, g2, g3, g4⟩ := fok_bd hf
  have hk := fun w => fmtOk_yes E M hf w
  have HK := hide hk
  clear hk hf
  apply Exists.intro
  intro w
  go_enter Oaag.func117, Oaag.ntmps117
  go_wp2_with fail
  refine (unhide HK _).mono ?_
  rintro e w1 ⟨rfl, hb⟩
  obtain ⟨c0, c1⟩ := box_now w w1 (.int .u8 E) (.int .u8 M) 23 (by simpa using hb)
  have hb1 : Below w.heap.size w w1 := ((Below.refl _ _).alloc (Nat.le_refl _) _).trans (hb.mono (by simp))
  go_wp2
  go_ret
  exact ⟨rfl, hb1⟩

set_option maxRecDepth 20000 in
set_option maxHeartbeats 1000000 in
theorem emin_any (E M : Nat) (hf : fok E M = true) : ∃ r : Int, OneOf 349 E M .i64 r := by
  obtain ⟨b, hk⟩ := bias_any E M hf
  have HK := hide hk
  clear hk hf
  apply Exists.intro
  intro w
  go_enter Oaag.func349, Oaag.ntmps349
  go_wp2_with fail
  refine (unhide HK _).mono ?_
  rintro e w1 ⟨rfl, hb⟩
  have hb1 : Below w.heap.size w w1 := ((Below.refl _ _).alloc (Nat.le_refl _) _).trans (hb.mono (by simp))
  go_wp2
  go_ret
  exact ⟨rfl, hb1⟩

set_option maxRecDepth 20000 in
set_option maxHeartbeats 1000000 in
theorem emax_any (E M : Nat) (hf : fok E M = true) : ∃ r : Int, OneOf 350 E M .i64 r := by
  obtain ⟨b, hk⟩ := bias_any E M hf
  have HK := hide hk
  clear hk hf
  apply Exists.intro
  intro w
  go_enter Oaag.func350, Oaag.ntmps350
  go_wp2_with fail
  refine (unhide HK _).mono ?_
  rintro e w1 ⟨rfl, hb⟩
  have hb1 : Below w.heap.size w w1 := ((Below.refl _ _).alloc (Nat.le_refl _) _).trans (hb.mono (by simp))
  go_wp2
  go_ret
  exact ⟨rfl, hb1⟩

set_option maxRecDepth 20000 in
set_option maxHeartbeats 1000000 in
theorem zero_any (E M : Nat) (hf : fok E M = true) (neg : Bool) : ∃ r : Int, ∀ w, Calls Oaag.prog 348 #[.agg #[.int .u8 E, .int .u8 M], .bool neg] w fun e w' => e = .returned (.int .u64 r) ∧ Below w.heap.size w w' := by
  obtain ⟨b, hk⟩ := signBit_any E M hf
  have HK := hide hk
  clear hk hf
  cases neg
  · refine ⟨0, fun w => ?_⟩
    go_enter Oaag.func348, Oaag.ntmps348
    go_wp2
    go_ret
    exact ⟨rfl, (Below.refl _ _).alloc (Nat.le_refl _) _⟩
  · refine ⟨b, fun w => ?_⟩
    go_enter Oaag.func348, Oaag.ntmps348
    go_wp2_with fail
    refine (unhide HK _).mono ?_
    rintro e w1 ⟨rfl, hb⟩
    have hb1 : Below w.heap.size w w1 := ((Below.refl _ _).alloc (Nat.le_refl _) _).trans (hb.mono (by simp))
    go_wp2
    go_ret
    exact ⟨rfl, hb1⟩

set_option maxRecDepth 20000 in
set_option maxHeartbeats 1000000 in
theorem signed_one (E M : Nat) (hf : fok E M = true) (neg : Bool) (x : Int) : ∃ r : Int, ∀ w, Calls Oaag.prog 158 #[.agg #[.int .u8 E, .int .u8 M], .bool neg, .int .u64 x] w fun e w' => e = .returned (.int .u64 r) ∧ Below w.heap.size w w' := by
  obtain ⟨b, hk⟩ := signBit_any E M hf
  have HK := hide hk
  clear hk hf
  cases neg
  · refine ⟨x, fun w => ?_⟩
    go_enter Oaag.func158, Oaag.ntmps158
    go_wp2
    go_ret
    exact ⟨rfl, (Below.refl _ _).alloc (Nat.le_refl _) _⟩
  · apply Exists.intro
    intro w
    go_enter Oaag.func158, Oaag.ntmps158
    go_wp2_with fail
    refine (unhide HK _).mono ?_
    rintro e w1 ⟨rfl, hb⟩
    have hb1 : Below w.heap.size w w1 := ((Below.refl _ _).alloc (Nat.le_refl _) _).trans (hb.mono (by simp))
    go_wp2
    go_ret
    exact ⟨rfl, hb1⟩

theorem signed_any (E M : Nat) (hf : fok E M = true) (neg : Bool) : ∃ r : Int → Int, ∀ x w, Calls Oaag.prog 158 #[.agg #[.int .u8 E, .int .u8 M], .bool neg, .int .u64 x] w fun e w' => e = .returned (.int .u64 (r x)) ∧ Below w.heap.size w w' :=
  ⟨fun x => Classical.choose (signed_one E M hf neg x), fun x => Classical.choose_spec (signed_one E M hf neg x)⟩

end Go.Proofs.YgcoaaGreat.NatW
