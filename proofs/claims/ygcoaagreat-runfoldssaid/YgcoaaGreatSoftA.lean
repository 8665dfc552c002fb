/-
  Package soft: how its walks begin; what a sound pattern is.
-/
import Derived.Test.YgcoaaGreatUnpackC
set_option linter.unusedVariables false
set_option linter.unusedSimpArgs false
namespace Go.Proofs.YgcoaaGreat.NatW
attribute [local go_sem] Go.Instr.field Go.asAgg
open Go.RowKit
open Go.Proofs.YgcoaaGreat.Limbs Go.Proofs.YgcoaaGreat.Bits

theorem boxes0 (w : World) : ∃ (wb : World) (x0 : Later wb), w = x0.at_ ∧ ∀ x : Later wb, Below x0.at_.heap.size x0.at_ x.at_ := ⟨w, ⟨w, Below.refl _ _⟩, rfl, fun x => x.ok⟩
theorem boxes1 (w : World) (vs : Array Value) (t : TypeId) : ∃ (wb : World) (x0 : Later wb), w.alloc (.cells vs t) = x0.at_ ∧ wb.heap[w.heap.size]? = some (.cells vs t (0, 0)) ∧ (∀ x : Later wb, Below w.heap.size w x.at_) ∧ ∀ x : Later wb, w.heap.size + 1 ≤ x.at_.heap.size := by
  refine ⟨w.alloc (.cells vs t), ⟨_, Below.refl _ _⟩, rfl, ?_, ?_, ?_⟩
  · rw [heap_alloc_new]
  · intro x
    have h : Below w.heap.size w (w.alloc (.cells vs t)) := (Below.refl _ _).alloc (Nat.le_refl _) _
    exact h.trans (x.ok.mono h.size)
  · intro x
    have := x.ok.size
    simpa using this
theorem boxes2 (w : World) (vs us : Array Value) (t s : TypeId) : ∃ (wb : World) (x0 : Later wb), (w.alloc (.cells vs t)).alloc (.cells us s) = x0.at_ ∧ wb.heap[w.heap.size]? = some (.cells vs t (0, 0)) ∧ wb.heap[w.heap.size + 1]? = some (.cells us s (0, 0)) ∧ (∀ x : Later wb, Below w.heap.size w x.at_) ∧ ∀ x : Later wb, w.heap.size + 2 ≤ x.at_.heap.size := by
  refine ⟨(w.alloc (.cells vs t)).alloc (.cells us s), ⟨_, Below.refl _ _⟩, rfl, ?_, ?_, ?_, ?_⟩
  · rw [Below.heap_alloc _ _ _ (by simp), heap_alloc_new]
  · have := heap_alloc_new (w.alloc (.cells vs t)) (.cells us s)
    simpa using this
  · intro x
    have h : Below w.heap.size w ((w.alloc (.cells vs t)).alloc (.cells us s)) := ((Below.refl _ _).alloc (Nat.le_refl _) _).alloc (by simp) _
    exact h.trans (x.ok.mono h.size)
  · intro x
    have := x.ok.size
    simpa using this
theorem boxes3 (w : World) (vs us xs : Array Value) (t s r : TypeId) : ∃ (wb : World) (x0 : Later wb), ((w.alloc (.cells vs t)).alloc (.cells us s)).alloc (.cells xs r) = x0.at_ ∧ wb.heap[w.heap.size]? = some (.cells vs t (0, 0)) ∧ wb.heap[w.heap.size + 1]? = some (.cells us s (0, 0)) ∧ wb.heap[w.heap.size + 2]? = some (.cells xs r (0, 0)) ∧ (∀ x : Later wb, Below w.heap.size w x.at_) ∧ ∀ x : Later wb, w.heap.size + 3 ≤ x.at_.heap.size := by
  refine ⟨((w.alloc (.cells vs t)).alloc (.cells us s)).alloc (.cells xs r), ⟨_, Below.refl _ _⟩, rfl, ?_, ?_, ?_, ?_, ?_⟩
  · rw [Below.heap_alloc _ _ _ (by simp; omega), Below.heap_alloc _ _ _ (by simp), heap_alloc_new]
  · have := heap_alloc_new (w.alloc (.cells vs t)) (.cells us s)
    rw [Below.heap_alloc _ _ _ (by simp)]
    simpa using this
  · have := heap_alloc_new ((w.alloc (.cells vs t)).alloc (.cells us s)) (.cells xs r)
    simpa using this
  · intro x
    have h : Below w.heap.size w (((w.alloc (.cells vs t)).alloc (.cells us s)).alloc (.cells xs r)) := (((Below.refl _ _).alloc (Nat.le_refl _) _).alloc (by simp) _).alloc (by simp; omega) _
    exact h.trans (x.ok.mono h.size)
  · intro x
    have := x.ok.size
    simpa using this

/-- A pattern of the format: within its width, a NaN being THE NaN. -/
def Snd (E M : Nat) (r : Int) : Prop := ∃ n : Nat, r = n ∧ n < 2 ^ (E + M + 1) ∧ (cls E M n = 4 → n = nanP E M)

theorem cls_small (E M n s : Nat) (hE : 1 ≤ E) (hn : n < infP E M) (hs : s = 0 ∨ s = 2 ^ (E + M)) : cls E M (n + s) ≠ 4 := by
  have h1 : fE E M (n + s) ≠ 2 ^ E - 1 := by
    unfold fE
    have h2 : (n + s) / 2 ^ M % 2 ^ E = n / 2 ^ M := by
      have h3 : n / 2 ^ M < 2 ^ E - 1 := (Nat.div_lt_iff_lt_mul (Nat.two_pow_pos M)).2 hn
      have h4 : n / 2 ^ M < 2 ^ E := Nat.lt_of_lt_of_le h3 (Nat.sub_le _ _)
      rcases hs with rfl | rfl
      · rw [Nat.add_zero]; exact Nat.mod_eq_of_lt h4
      · rw [Nat.pow_add, Nat.add_mul_div_right _ _ (Nat.two_pow_pos M), Nat.add_mod_right]
        exact Nat.mod_eq_of_lt h4
    rw [h2]
    have h3 : n / 2 ^ M < 2 ^ E - 1 := (Nat.div_lt_iff_lt_mul (Nat.two_pow_pos M)).2 hn
    omega
  unfold cls
  rw [if_neg h1]
  split
  · split <;> simp
  · simp

theorem sgn_or (E M : Nat) (neg : Bool) : sgn E M neg = 0 ∨ sgn E M neg = 2 ^ (E + M) := by cases neg <;> simp [sgn]
theorem snd_fin (E M n : Nat) (neg : Bool) (hE : 1 ≤ E) (hn : n < infP E M) : Snd E M ((n + sgn E M neg : Nat) : Int) := by
  refine ⟨_, rfl, ?_, fun h => absurd h (cls_small E M n _ hE hn (sgn_or E M neg))⟩
  have h1 := infP_lt E M
  rw [Nat.pow_succ]
  rcases sgn_or E M neg with h | h <;> rw [h] <;> omega
theorem infP_pos (E M : Nat) (hE : 1 ≤ E) : 0 < infP E M := by
  unfold infP
  have h6 := pow_le' 1 E hE
  exact Nat.mul_pos (by omega) (Nat.two_pow_pos M)
theorem snd_zero (E M : Nat) (neg : Bool) (hE : 1 ≤ E) : Snd E M ((sgn E M neg : Nat) : Int) := by
  have := snd_fin E M 0 neg hE (infP_pos E M hE)
  simpa using this
theorem snd_max (E M : Nat) (neg : Bool) (hE : 1 ≤ E) : Snd E M ((infP E M - 1 + sgn E M neg : Nat) : Int) := snd_fin E M _ neg hE (by have := infP_pos E M hE; omega)
theorem snd_inf (E M : Nat) (neg : Bool) (hE : 1 ≤ E) : Snd E M ((infP E M + sgn E M neg : Nat) : Int) := by
  refine ⟨_, rfl, ?_, fun h => ?_⟩
  · have h1 := infP_lt E M
    rw [Nat.pow_succ]
    rcases sgn_or E M neg with h | h <;> rw [h] <;> omega
  · exfalso
    have h1 : fM M (infP E M + sgn E M neg) = 0 := by
      unfold fM infP
      rcases sgn_or E M neg with h | h <;> rw [h]
      · rw [Nat.add_zero]; exact Nat.mul_mod_left _ _
      · rw [Nat.pow_add, ← Nat.add_mul]; exact Nat.mul_mod_left _ _
    unfold cls at h
    rw [if_pos h1] at h
    by_cases h2 : fE E M (infP E M + sgn E M neg) = 2 ^ E - 1
    · rw [if_pos h2] at h; simp at h
    · rw [if_neg h2] at h
      by_cases h3 : fE E M (infP E M + sgn E M neg) = 0
      · rw [if_pos h3, if_pos h1] at h; simp at h
      · rw [if_neg h3] at h; simp at h
theorem snd_nan (E M : Nat) (hM : 1 ≤ M) : Snd E M ((nanP E M : Nat) : Int) :=
  ⟨_, rfl, by have := nanP_lt E M hM; rw [Nat.pow_succ]; omega, fun _ => rfl⟩

theorem inf_ret (E M : Nat) (hf : fok E M = true) (neg : Bool) : Ret 85 #[fmt E M, .bool neg] (fun u => u = .int .u64 ((infP E M + sgn E M neg : Nat) : Int)) := Ret.of fun w => inf_is E M hf neg w
theorem max_ret (E M : Nat) (hf : fok E M = true) (neg : Bool) : Ret 162 #[fmt E M, .bool neg] (fun u => u = .int .u64 ((infP E M - 1 + sgn E M neg : Nat) : Int)) := Ret.of fun w => maxFinite_is E M hf neg w
theorem mask_ret (E M : Nat) (hf : fok E M = true) : Ret 163 #[fmt E M] (fun u => u = .int .u64 (((2 ^ (E + M + 1) : Nat) : Int) - 1)) := Ret.of fun w => mask_is E M hf w
theorem nan_ret (E M : Nat) (hf : fok E M = true) : Ret 45 #[fmt E M] (fun u => u = .int .u64 ((nanP E M : Nat) : Int)) := Ret.of fun w => theNaN_is E M hf w

/-- Within a uint64. -/
def U64 (x : Int) : Prop := 0 ≤ x ∧ x < 18446744073709551616
theorem U64.wrap (x : Int) : U64 (IntKind.u64.wrap x) := by rw [IntKind.wrap_u64]; constructor <;> omega
theorem U64.bits (op : BinOp) (a b : Int) : U64 (Go.bits op .u64 a b) := by unfold Go.bits; exact U64.wrap _
theorem U64.div {x : Int} (h : U64 x) (k : Nat) : U64 (x / 2 ^ k) := by
  obtain ⟨h0, h1⟩ := h
  rw [pow_cast]
  have hp : (0 : Int) ≤ ((2 ^ k : Nat) : Int) := Int.natCast_nonneg _
  exact ⟨Int.ediv_nonneg h0 hp, Int.lt_of_le_of_lt (Int.ediv_le_self _ h0) h1⟩
theorem U64.ediv {x : Int} (h : U64 x) (d : Int) (hd : 0 ≤ d) : U64 (x / d) := by
  obtain ⟨h0, h1⟩ := h
  exact ⟨Int.ediv_nonneg h0 hd, Int.lt_of_le_of_lt (Int.ediv_le_self _ h0) h1⟩
theorem U64.nat {x : Int} (h : U64 x) : ∃ n : Nat, x = n ∧ n < 18446744073709551616 := ⟨x.toNat, by have := h.1; omega, by have := h.1; have := h.2; omega⟩
theorem U64.lit {x : Int} (h0 : 0 ≤ x) (h1 : x < 18446744073709551616) : U64 x := ⟨h0, h1⟩
theorem U64.one (c : Prop) [Decidable c] {x y : Int} (hx : U64 x) (hy : U64 y) : U64 (if c then x else y) := by split <;> assumption




theorem Snd.u64 {E M : Nat} (hf : fok E M = true) {r : Int} (h : Snd E M r) : U64 r := by
  obtain ⟨g1, g2, g3, g4⟩ := fok_bd hf
  obtain ⟨n, rfl, hn, _⟩ := h
  have := pow_le' (E + M + 1) 64 (by omega)
  have e64 : (2 : Nat) ^ 64 = 18446744073709551616 := by decide
  exact ⟨by omega, by omega⟩

/-- Unpack at an Int. -/
theorem unpack_i (E M : Nat) (hf : fok E M = true) (x : Int) (hx : U64 x) : Ret 68 #[fmt E M, .int .u64 x] (fun v => ∃ neg c e m, v = .agg #[.bool neg, .int .i8 c, .int .i16 e, .int .u64 m] ∧ Pb M c e m ∧ c = cls E M x.toNat) := by
  obtain ⟨n, rfl, hn⟩ := hx.nat
  refine (unpack_ret E M hf n hn).mono ?_
  rintro v ⟨neg, e, m, rfl, hp⟩
  exact ⟨_, _, _, _, rfl, hp, by simp⟩

abbrev u128 (h l : Int) : Value := .agg #[.int .u64 h, .int .u64 l]

end Go.Proofs.YgcoaaGreat.NatW
