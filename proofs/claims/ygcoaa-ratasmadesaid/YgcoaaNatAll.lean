/-
  natAnswer, whatever fn: its answer hangs on the numbers alone. And what NatAsTaken's loops write into.
-/
import Derived.Test.YgcoaaNatAns
set_option linter.unusedVariables false
set_option linter.unusedSimpArgs false
namespace Go.Proofs.Ygcoaa.NatW
open Go.RowKit
open Go.Proofs.Ygcoaa.Limbs

theorem len_mul (x y : Nat) : (lim (x * y)).length ≤ (lim x).length + (lim y).length := by
  by_cases hx : x = 0
  · subst hx; simp [lim_zero]
  · by_cases hy : y = 0
    · subst hy; simp [lim_zero]
    · apply lim_length_le
      rw [Nat.pow_add]
      exact Nat.mul_lt_mul_of_lt_of_lt (lt_of_lim_length x) (lt_of_lim_length y)
theorem len_add (x y n : Nat) (hx : (lim x).length ≤ n) (hy : (lim y).length ≤ n) : (lim (x + y)).length ≤ n + 1 := by
  apply lim_length_le
  have h1 := lt_of_lim_length x
  have h2 := lt_of_lim_length y
  have h3 : 4294967296 ^ (lim x).length ≤ 4294967296 ^ n := Nat.pow_le_pow_right (by omega) hx
  have h4 : 4294967296 ^ (lim y).length ≤ 4294967296 ^ n := Nat.pow_le_pow_right (by omega) hy
  rw [Nat.pow_succ]
  omega
theorem len_small (x : Nat) (h : x < 18446744073709551616) : (lim x).length ≤ 2 := lim_length_le x 2 (by simpa using h)

/-- What natAnswer answers. -/
def Answers (fn : Int) (x y k : Nat) (i : Int) (rx ry : Nat) (u v : Int) : Prop :=
  ∀ (w : World) (a : Option Addr) (cap : Nat) (l : List Nat), val l = x → Sl w a cap l → ∀ (a2 : Option Addr) (cap2 : Nat) (l2 : List Nat), val l2 = y → Sl w a2 cap2 l2 → l.length ≤ 35184372088000 → l2.length ≤ 35184372088000 →
    Calls Oaag.prog 9 #[.int .u8 fn, .slice a l.length cap, .slice a2 l2.length cap2, .int .u16 k, .int .i64 i] w fun e w' => Ans w w' e rx ry u v

theorem ans_any (fn : Int) (hf0 : 0 ≤ fn) (hf1 : fn ≤ 255) (x y : Nat) (hx : (lim x).length ≤ 35184372088000) (hy : (lim y).length ≤ 35184372088000) (k : Nat) (hk : k < 65536) (i : Int) (hi : -9223372036854775808 ≤ i ∧ i ≤ 9223372036854775807) :
    ∃ rx ry u v, (lim rx).length ≤ 70368744177664 ∧ (lim ry).length ≤ 70368744177664 ∧ Answers fn x y k i rx ry u v := by
  have h0 : (lim 0).length ≤ 70368744177664 := by rw [lim_zero]; simp
  have hm : fn % 15 = 0 ∨ fn % 15 = 1 ∨ fn % 15 = 2 ∨ fn % 15 = 3 ∨ fn % 15 = 4 ∨ fn % 15 = 5 ∨ fn % 15 = 6 ∨ fn % 15 = 7 ∨ fn % 15 = 8 ∨ fn % 15 = 9 ∨ fn % 15 = 10 ∨ fn % 15 = 11 ∨ fn % 15 = 12 ∨ fn % 15 = 13 ∨ fn % 15 = 14 := by omega
  rcases hm with hm | hm | hm | hm | hm | hm | hm | hm | hm | hm | hm | hm | hm | hm | hm
  · exact ⟨_, _, _, _, by omega, h0, fun w a cap l h1 h2 a2 cap2 l2 h3 h4 h5 h6 => ans_0 w fn hm hf0 hf1 a cap l x h1 h2 a2 cap2 l2 y h3 h4 h5 h6 k hk i hi⟩
  · exact ⟨_, _, _, _, Nat.le_trans (len_small _ (by omega)) (by omega), h0, fun w a cap l h1 h2 a2 cap2 l2 h3 h4 h5 h6 => ans_1 w fn hm hf0 hf1 a cap l x h1 h2 a2 cap2 l2 y h3 h4 h5 h6 k hk i hi⟩
  · exact ⟨_, _, _, _, h0, h0, fun w a cap l h1 h2 a2 cap2 l2 h3 h4 h5 h6 => ans_2 w fn hm hf0 hf1 a cap l x h1 h2 a2 cap2 l2 y h3 h4 h5 h6 k hk i hi⟩
  · exact ⟨_, _, _, _, h0, h0, fun w a cap l h1 h2 a2 cap2 l2 h3 h4 h5 h6 => ans_3 w fn hm hf0 hf1 a cap l x h1 h2 a2 cap2 l2 y h3 h4 h5 h6 k hk i hi⟩
  · exact ⟨_, _, _, _, Nat.le_trans (len_add x 1 35184372088000 hx (Nat.le_trans (len_small 1 (by omega)) (by omega))) (by omega), h0, fun w a cap l h1 h2 a2 cap2 l2 h3 h4 h5 h6 => ans_4 w fn hm hf0 hf1 a cap l x h1 h2 a2 cap2 l2 y h3 h4 h5 h6 k hk i hi⟩
  · exact ⟨_, _, _, _, Nat.le_trans (len_add x y 35184372088000 hx hy) (by omega), h0, fun w a cap l h1 h2 a2 cap2 l2 h3 h4 h5 h6 => ans_5 w fn hm hf0 hf1 a cap l x h1 h2 a2 cap2 l2 y h3 h4 h5 h6 k hk i hi⟩
  · exact ⟨_, _, _, _, Nat.le_trans (len_mul x y) (by omega), h0, fun w a cap l h1 h2 a2 cap2 l2 h3 h4 h5 h6 => ans_6 w fn hm hf0 hf1 a cap l x h1 h2 a2 cap2 l2 y h3 h4 h5 h6 k hk i hi⟩
  · exact ⟨_, _, _, _, h0, h0, fun w a cap l h1 h2 a2 cap2 l2 h3 h4 h5 h6 => ans_7 w fn hm hf0 hf1 a cap l x h1 h2 a2 cap2 l2 y h3 h4 h5 h6 k hk i hi⟩
  · exact ⟨_, _, _, _, Nat.le_trans (lim_length_mono _ x (Nat.sub_le _ _)) (by omega), h0, fun w a cap l h1 h2 a2 cap2 l2 h3 h4 h5 h6 => ans_8 w fn hm hf0 hf1 a cap l x h1 h2 a2 cap2 l2 y h3 h4 h5 h6 k hk i hi⟩
  · refine ⟨_, _, _, _, Nat.le_trans (lim_length_mono _ x ?_) (by omega), Nat.le_trans (lim_length_mono _ x ?_) (by omega), fun w a cap l h1 h2 a2 cap2 l2 h3 h4 h5 h6 => ans_9 w fn hm hf0 hf1 a cap l x h1 h2 a2 cap2 l2 y h3 h4 h5 h6 k hk i hi⟩
    · unfold dq; split; omega; exact Nat.div_le_self _ _
    · unfold dr; split; omega; exact Nat.mod_le _ _
  · exact ⟨_, _, _, _, Nat.le_trans (len_mul x (2 ^ k)) (by have := pow2_len' k; omega), h0, fun w a cap l h1 h2 a2 cap2 l2 h3 h4 h5 h6 => ans_10 w fn hm hf0 hf1 a cap l x h1 h2 a2 cap2 l2 y h3 h4 h5 h6 k hk i hi⟩
  · exact ⟨_, _, _, _, Nat.le_trans (lim_length_mono _ x (Nat.div_le_self _ _)) (by omega), h0, fun w a cap l h1 h2 a2 cap2 l2 h3 h4 h5 h6 => ans_11 w fn hm hf0 hf1 a cap l x h1 h2 a2 cap2 l2 y h3 h4 h5 h6 k hk i hi⟩
  · refine ⟨_, _, _, _, Nat.le_trans (lim_length_mono _ (s0 x) ?_) (by have := s0_len x; omega), h0, fun w a cap l h1 h2 a2 cap2 l2 h3 h4 h5 h6 => ans_12 w fn hm hf0 hf1 a cap l x h1 h2 a2 cap2 l2 y h3 h4 h5 h6 k hk i hi⟩
    unfold isq; split; omega; exact nwt_le _ _ _
  · exact ⟨_, _, _, _, Nat.le_trans (pow5_len k) (by omega), h0, fun w a cap l h1 h2 a2 cap2 l2 h3 h4 h5 h6 => ans_13 w fn hm hf0 hf1 a cap l x h1 h2 a2 cap2 l2 y h3 h4 h5 h6 k hk i hi⟩
  · exact ⟨_, _, _, _, h0, h0, fun w a cap l h1 h2 a2 cap2 l2 h3 h4 h5 h6 => ans_14 w fn hm hf0 hf1 a cap l x h1 h2 a2 cap2 l2 y h3 h4 h5 h6 k hk i hi⟩

/-- A SLICE OF LIMBS OF n PLACES THAT MAY BE WRITTEN, in blocks from B on; what it holds is not said. -/
def Wr (B : Nat) (w : World) (a : Option Addr) (n : Nat) : Prop :=
  n = 0 ∨ ∃ g l, a = some ⟨g, 0, none⟩ ∧ B ≤ g ∧ Row w g l ∧ n ≤ l.length ∧ Lt l

theorem Res.wr {B : Nat} {w : World} {a : Option Addr} {cap n : Nat} (h : Res B w a cap n) : Wr B w a (lim n).length := by
  have hs := h.sl
  rcases h with ⟨rfl, _, _⟩ | ⟨h0, g, l, e, hB, hr, hl, hc, hv⟩
  · exact .inl rfl
  · exact .inr ⟨g, l, e, hB, hr, by rw [hc]; exact hs.le, hl⟩
theorem Wr.later {B : Nat} {w w' : World} {a : Option Addr} {n : Nat} (h : Wr B w a n) (hb : Below w.heap.size w w') : Wr B w' a n := by
  rcases h with h | ⟨g, l, e, hB, hr, hl⟩
  · exact .inl h
  · exact .inr ⟨g, l, e, hB, hr.later hb, hl⟩
theorem Wr.put {B : Nat} {w : World} {a : Option Addr} {n : Nat} (h : Wr B w a n) (g i x : Nat) (hx : x < 4294967296) (v : Int) (hv : v = (x : Nat)) : Wr B (w.setCell ⟨g, i, none⟩ (.int .u32 v)) a n := by
  rcases h with h | ⟨g', l, e, hB, hr, hl, hlt⟩
  · exact .inl h
  · by_cases hg : g = g'
    · subst hg
      exact .inr ⟨g, l.set i x, e, hB, hr.put i x v hv, by simpa using hl, Lt_set hlt _ _ hx⟩
    · exact .inr ⟨g', l, e, hB, hr.other (p := ⟨g, i, none⟩) (fun e => hg e.symm) _, hl, hlt⟩

end Go.Proofs.Ygcoaa.NatW
