/-
  exact.Round's callees, on: Inf, MaxFinite, overflow, raises, pack, toU64.
-/
import Derived.Test.YgcoaaGreatRatA
set_option linter.unusedVariables false
set_option linter.unusedSimpArgs false
namespace Go.Proofs.YgcoaaGreat.NatW
open Go.RowKit
open Go.Proofs.YgcoaaGreat.Limbs

/-- A function of a format and a sign whose answer is one number. -/
def OneNeg (f : FuncId) (E M : Nat) (neg : Bool) (r : Int) : Prop := ∀ w, Calls Oaag.prog f #[.agg #[.int .u8 E, .int .u8 M], .bool neg] w fun e w' => e = .returned (.int .u64 r) ∧ Below w.heap.size w w'

set_option maxRecDepth 20000 in
set_option maxHeartbeats 1000000 in
theorem inf_any (E M : Nat) (hf : fok E M = true) (neg : Bool) : ∃ r : Int, OneNeg 85 E M neg r := by
  obtain ⟨g1, g2, g3, g4⟩ := fok_bd hf
  obtain ⟨r, hr⟩ := signed_any E M hf neg
  have hk := fun w => fmtOk_yes E M hf w
  have HK := hide hk
  have HR := hide hr
  clear hk hf hr
  apply Exists.intro
  intro w
  go_enter Oaag.func85, Oaag.ntmps85
  go_wp2_with fail
  refine (unhide HK _).mono ?_
  rintro e w1 ⟨rfl, hb⟩
  obtain ⟨c0, c1⟩ := box_now w w1 (.int .u8 E) (.int .u8 M) 23 (by simpa using hb)
  have hb1 : Below w.heap.size w w1 := ((Below.refl _ _).alloc (Nat.le_refl _) _).trans (hb.mono (by simp))
  have hz1 := hb1.size
  go_wp2_with fail
  refine (unhide HR _ _).mono ?_
  rintro e w2 ⟨rfl, hb2⟩
  go_wp2
  go_ret
  exact ⟨rfl, hb1.trans (hb2.mono hz1)⟩

set_option maxRecDepth 20000 in
set_option maxHeartbeats 1000000 in
theorem maxFinite_any (E M : Nat) (hf : fok E M = true) (neg : Bool) : ∃ r : Int, OneNeg 162 E M neg r := by
  obtain ⟨g1, g2, g3, g4⟩ := fok_bd hf
  obtain ⟨r, hr⟩ := signed_any E M hf neg
  have hk := fun w => fmtOk_yes E M hf w
  have HK := hide hk
  have HR := hide hr
  clear hk hf hr
  apply Exists.intro
  intro w
  go_enter Oaag.func162, Oaag.ntmps162
  go_wp2_with fail
  refine (unhide HK _).mono ?_
  rintro e w1 ⟨rfl, hb⟩
  obtain ⟨c0, c1⟩ := box_now w w1 (.int .u8 E) (.int .u8 M) 23 (by simpa using hb)
  have hb1 : Below w.heap.size w w1 := ((Below.refl _ _).alloc (Nat.le_refl _) _).trans (hb.mono (by simp))
  have hz1 := hb1.size
  go_wp2_with fail
  refine (unhide HR _ _).mono ?_
  rintro e w2 ⟨rfl, hb2⟩
  go_wp2
  go_ret
  exact ⟨rfl, hb1.trans (hb2.mono hz1)⟩

/-- overflow's answer. -/
def OverOf (E M : Nat) (mode : Int) (neg : Bool) (r fl : Int) : Prop := ∀ w, Calls Oaag.prog 351 #[.agg #[.int .u8 E, .int .u8 M], .int .u8 mode, .bool neg] w fun e w' => e = .returned (.tuple #[.int .u64 r, .int .u8 fl]) ∧ Below w.heap.size w w'

set_option maxRecDepth 20000 in
set_option maxHeartbeats 1000000 in
theorem overflow_any (E M : Nat) (hf : fok E M = true) (mode : Int) (neg : Bool) : ∃ r fl : Int, OverOf E M mode neg r fl := by
  obtain ⟨r1, h1⟩ := inf_any E M hf neg
  obtain ⟨r2, h2⟩ := maxFinite_any E M hf neg
  have H1 := hide h1
  have H2 := hide h2
  clear h1 h2 hf
  have hb : (mode == 2) = true ∨ (mode == 2) = false := by cases (mode == 2) <;> simp
  have hb3 : (mode == 3) = true ∨ (mode == 3) = false := by cases (mode == 3) <;> simp
  have hb4 : (mode == 4) = true ∨ (mode == 4) = false := by cases (mode == 4) <;> simp
  have fin1 : ∀ (w w1 : World), Below (w.heap.size + 1) (w.alloc (.cells #[.int .u8 E, .int .u8 M] 23)) w1 → Below w.heap.size w w1 := fun w w1 hb => ((Below.refl _ _).alloc (Nat.le_refl _) _).trans (hb.mono (by omega))
  have F1 := hide fin1
  clear fin1
  by_cases hc : (mode == 2) = true ∨ ((mode == 3) = true ∧ neg = true) ∨ ((mode == 4) = true ∧ neg = false)
  · refine ⟨r2, 20, fun w => ?_⟩
    rcases hb with hb | hb
    · clear hc hb3 hb4
      go_enter Oaag.func351, Oaag.ntmps351
      go_wp2_with fail
      refine (unhide H2 _).mono ?_
      rintro e w1 ⟨rfl, hb1⟩
      go_wp2
      go_ret2
      exact ⟨rfl, unhide F1 w w1 (by simpa using hb1)⟩
    · rcases hb3 with hb3 | hb3
      · cases neg
        · have hb4 : (mode == 4) = true := by
            rcases hc with h | ⟨h, h'⟩ | ⟨h, h'⟩
            · rw [h] at hb; cases hb
            · cases h'
            · exact h
          clear hc
          go_enter Oaag.func351, Oaag.ntmps351
          go_wp2_with fail
          refine (unhide H2 _).mono ?_
          rintro e w1 ⟨rfl, hb1⟩
          go_wp2
          go_ret2
          exact ⟨rfl, unhide F1 w w1 (by simpa using hb1)⟩
        · clear hc hb4
          go_enter Oaag.func351, Oaag.ntmps351
          go_wp2_with fail
          refine (unhide H2 _).mono ?_
          rintro e w1 ⟨rfl, hb1⟩
          go_wp2
          go_ret2
          exact ⟨rfl, unhide F1 w w1 (by simpa using hb1)⟩
      · have hh : (mode == 4) = true ∧ neg = false := by
          rcases hc with h | ⟨h, h'⟩ | h
          · rw [h] at hb; cases hb
          · rw [h] at hb3; cases hb3
          · exact h
        obtain ⟨hb4, rfl⟩ := hh
        clear hc
        go_enter Oaag.func351, Oaag.ntmps351
        go_wp2_with fail
        refine (unhide H2 _).mono ?_
        rintro e w1 ⟨rfl, hb1⟩
        go_wp2
        go_ret2
        exact ⟨rfl, unhide F1 w w1 (by simpa using hb1)⟩
  · refine ⟨r1, 20, fun w => ?_⟩
    have hb' : (mode == 2) = false := by
      rcases hb with h | h
      · exact absurd (.inl h) hc
      · exact h
    clear hb
    rcases hb3 with hb3 | hb3
    · cases neg
      · have hb4' : (mode == 4) = false := by
          rcases hb4 with h | h
          · exact absurd (.inr (.inr ⟨h, rfl⟩)) hc
          · exact h
        clear hb4 hc
        go_enter Oaag.func351, Oaag.ntmps351
        go_wp2_with fail
        refine (unhide H1 _).mono ?_
        rintro e w1 ⟨rfl, hb1⟩
        go_wp2
        go_ret2
        exact ⟨rfl, unhide F1 w w1 (by simpa using hb1)⟩
      · exact absurd (.inr (.inl ⟨hb3, rfl⟩)) hc
    · rcases hb4 with hb4 | hb4
      · cases neg
        · exact absurd (.inr (.inr ⟨hb4, rfl⟩)) hc
        · clear hc
          go_enter Oaag.func351, Oaag.ntmps351
          go_wp2_with fail
          refine (unhide H1 _).mono ?_
          rintro e w1 ⟨rfl, hb1⟩
          go_wp2
          go_ret2
          exact ⟨rfl, unhide F1 w w1 (by simpa using hb1)⟩
      · clear hc
        go_enter Oaag.func351, Oaag.ntmps351
        go_wp2_with fail
        refine (unhide H1 _).mono ?_
        rintro e w1 ⟨rfl, hb1⟩
        go_wp2
        go_ret2
        exact ⟨rfl, unhide F1 w w1 (by simpa using hb1)⟩

end Go.Proofs.YgcoaaGreat.NatW
