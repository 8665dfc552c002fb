/-
  exact.Round's callees, on: raises, toU64, floor, shift, MakeRat, Rat.Ok.
-/
import Derived.Test.YgcoaaGreatRatB
import Derived.Test.YgcoaaGreatNatAns
set_option linter.unusedVariables false
set_option linter.unusedSimpArgs false
namespace Go.Proofs.YgcoaaGreat.NatW
open Go.RowKit
open Go.Proofs.YgcoaaGreat.Limbs

theorem bool_or (b : Bool) : b = true ∨ b = false := by cases b <;> simp

def RaisesOf (mode : Int) (neg odd : Bool) (half : Int) (some_ : Bool) (r : Bool) : Prop := ∀ w, Calls Oaag.prog 413 #[.int .u8 mode, .bool neg, .bool odd, .agg #[.int .i8 half, .bool some_]] w fun e w' => e = .returned (.bool r) ∧ Below w.heap.size w w'

set_option maxRecDepth 20000 in
set_option maxHeartbeats 1000000 in
theorem raises_any (mode : Int) (neg odd : Bool) (half : Int) (hh : half = -1 ∨ half = 0 ∨ half = 1) (some_ : Bool) : ∃ r : Bool, RaisesOf mode neg odd half some_ r := by
  rcases bool_or (mode == 1) with h1 | h1
  · clear hh
    refine ⟨decide (0 ≤ half), fun w => ?_⟩
    go_enter Oaag.func413, Oaag.ntmps413
    go_wp2
    go_ret
    exact ⟨rfl, (Below.refl _ _).alloc (Nat.le_refl _) _⟩
  · rcases bool_or (mode == 2) with h2 | h2
    · clear hh
      refine ⟨false, fun w => ?_⟩
      go_enter Oaag.func413, Oaag.ntmps413
      go_wp2
      go_ret
      exact ⟨rfl, (Below.refl _ _).alloc (Nat.le_refl _) _⟩
    · rcases bool_or (mode == 3) with h3 | h3
      · clear hh
        cases some_
        · refine ⟨false, fun w => ?_⟩
          go_enter Oaag.func413, Oaag.ntmps413
          go_wp2
          go_ret
          exact ⟨rfl, (Below.refl _ _).alloc (Nat.le_refl _) _⟩
        · refine ⟨!neg, fun w => ?_⟩
          go_enter Oaag.func413, Oaag.ntmps413
          go_wp2
          go_ret
          exact ⟨rfl, (Below.refl _ _).alloc (Nat.le_refl _) _⟩
      · rcases bool_or (mode == 4) with h4 | h4
        · clear hh
          cases some_
          · refine ⟨false, fun w => ?_⟩
            go_enter Oaag.func413, Oaag.ntmps413
            go_wp2
            go_ret
            exact ⟨rfl, (Below.refl _ _).alloc (Nat.le_refl _) _⟩
          · refine ⟨neg, fun w => ?_⟩
            go_enter Oaag.func413, Oaag.ntmps413
            go_wp2
            go_ret
            exact ⟨rfl, (Below.refl _ _).alloc (Nat.le_refl _) _⟩
        · rcases hh with rfl | rfl | rfl
          · refine ⟨false, fun w => ?_⟩
            go_enter Oaag.func413, Oaag.ntmps413
            go_wp2
            go_ret
            exact ⟨rfl, (Below.refl _ _).alloc (Nat.le_refl _) _⟩
          · refine ⟨odd, fun w => ?_⟩
            go_enter Oaag.func413, Oaag.ntmps413
            go_wp2
            go_ret
            exact ⟨rfl, (Below.refl _ _).alloc (Nat.le_refl _) _⟩
          · refine ⟨true, fun w => ?_⟩
            go_enter Oaag.func413, Oaag.ntmps413
            go_wp2
            go_ret
            exact ⟨rfl, (Below.refl _ _).alloc (Nat.le_refl _) _⟩

set_option maxRecDepth 20000 in
set_option maxHeartbeats 1000000 in
theorem toU64_any (n : Nat) (hn : (lim n).length ≤ 70368744177664) : ∃ r : Int, ∀ (w : World) (a : Option Addr) (cap : Nat), Sl w a cap (lim n) →
    Calls Oaag.prog 335 #[.slice a (lim n).length cap] w fun e w' => e = .returned (.int .u64 r) ∧ w = w' := by
  by_cases h1 : 1 < (lim n).length
  · have p1 := getD_lt (lim n) (Lt_lim n) 1
    have p0 := getD_lt (lim n) (Lt_lim n) 0
    obtain ⟨X1, hX1⟩ : ∃ X, X = (lim n).getD 1 0 := ⟨_, rfl⟩
    obtain ⟨X0, hX0⟩ : ∃ X, X = (lim n).getD 0 0 := ⟨_, rfl⟩
    rw [← hX1] at p1
    rw [← hX0] at p0
    have HX1 := hide hX1
    have HX0 := hide hX0
    have hor := or_join X1 X0 p1 p0
    clear hX1 hX0
    refine ⟨(X1 : Int) * 4294967296 + X0, fun w a cap hs => ?_⟩
    obtain ⟨b, off, rfl, hc⟩ := hs.row (by omega)
    have c1 := hc 1 (by omega)
    have c0 := hc 0 (by omega)
    rw [← unhide HX1] at c1
    rw [← unhide HX0, Nat.add_zero] at c0
    clear hc
    go_enter Oaag.func335, Oaag.ntmps335
    go_wp2
    go_ret
    exact ⟨rfl, rfl⟩
  · by_cases h0 : 0 < (lim n).length
    · have p0 := getD_lt (lim n) (Lt_lim n) 0
      obtain ⟨X0, hX0⟩ : ∃ X, X = (lim n).getD 0 0 := ⟨_, rfl⟩
      rw [← hX0] at p0
      have HX0 := hide hX0
      clear hX0
      apply Exists.intro
      intro w a cap hs
      obtain ⟨b, off, rfl, hc⟩ := hs.row (by omega)
      have c0 := hc 0 (by omega)
      rw [← unhide HX0, Nat.add_zero] at c0
      clear hc
      go_enter Oaag.func335, Oaag.ntmps335
      go_wp2
      go_ret
      exact ⟨rfl, rfl⟩
    · refine ⟨0, fun w a cap hs => ?_⟩
      go_enter Oaag.func335, Oaag.ntmps335
      go_wp2
      go_ret
      exact ⟨rfl, rfl⟩

/-- shift's two numbers. -/
def shK (k : Int) : Nat := if k < 0 then (wrap64 (-k) % 65536).toNat else (k % 65536).toNat
def shX (x : Nat) (k : Int) : Nat := if k < 0 then x else x * 2 ^ shK k
def shY (y : Nat) (k : Int) : Nat := if k < 0 then y * 2 ^ shK k else y
theorem shK_lt (k : Int) : shK k < 65536 := by unfold shK; split <;> omega

set_option maxRecDepth 20000 in
set_option maxHeartbeats 1000000 in
theorem shift_any (w : World) (a : Option Addr) (cap : Nat) (x : Nat) (h : Sl w a cap (lim x)) (a2 : Option Addr) (cap2 : Nat) (y : Nat) (h2 : Sl w a2 cap2 (lim y)) (k : Int)
    (hb : (lim x).length ≤ 70368744170000) (hb2 : (lim y).length ≤ 70368744170000) :
    Calls Oaag.prog 333 #[.slice a (lim x).length cap, .slice a2 (lim y).length cap2, .int .i64 k] w fun e w' => ∃ a1 c1 a3 c3, e = .returned (.tuple #[.slice a1 (lim (shX x k)).length c1, .slice a3 (lim (shY y k)).length c3]) ∧
      Sl w' a1 c1 (lim (shX x k)) ∧ Sl w' a3 c3 (lim (shY y k)) ∧ Below w.heap.size w w' := by
  by_cases hk : k < 0
  · have e1 : shX x k = x := by unfold shX; rw [if_pos hk]
    have e2 : shY y k = y * 2 ^ shK k := by unfold shY; rw [if_pos hk]
    rw [e1, e2]
    obtain ⟨K, hK⟩ : ∃ K, K = shK k := ⟨_, rfl⟩
    rw [← hK]
    have hK1 : K < 65536 := by rw [hK]; exact shK_lt k
    have hK2 : IntKind.u16.wrap (wrap64 (-k)) = (K : Int) := by rw [IntKind.wrap_u16, hK]; unfold shK; rw [if_pos hk]; omega
    have hc := shl_any w a2 cap2 _ y (val_lim y) h2 K hK1 hb2
    have HC := hide hc
    have HS := hide h
    clear hc hK e1 e2 h h2
    go_enter Oaag.func333, Oaag.ntmps333
    go_wp2_with fail
    refine (unhide HC).mono ?_
    rintro e w1 ⟨a1, c1, rfl, hres, hb1⟩
    go_wp2
    go_ret2
    exact ⟨a, cap, a1, c1, rfl, (unhide HS).later hb1, hres.sl, hb1⟩
  · have e1 : shX x k = x * 2 ^ shK k := by unfold shX; rw [if_neg hk]
    have e2 : shY y k = y := by unfold shY; rw [if_neg hk]
    rw [e1, e2]
    obtain ⟨K, hK⟩ : ∃ K, K = shK k := ⟨_, rfl⟩
    rw [← hK]
    have hK1 : K < 65536 := by rw [hK]; exact shK_lt k
    have hK2 : IntKind.u16.wrap k = (K : Int) := by rw [IntKind.wrap_u16, hK]; unfold shK; rw [if_neg hk]; omega
    have hc := shl_any w a cap _ x (val_lim x) h K hK1 hb
    have HC := hide hc
    have HS := hide h2
    clear hc hK e1 e2 h h2
    go_enter Oaag.func333, Oaag.ntmps333
    go_wp2_with fail
    refine (unhide HC).mono ?_
    rintro e w1 ⟨a1, c1, rfl, hres, hb1⟩
    go_wp2
    go_ret2
    exact ⟨a1, c1, a2, cap2, rfl, hres.sl, (unhide HS).later hb1, hb1⟩

end Go.Proofs.YgcoaaGreat.NatW
