/-
  PLAIN: the loops of Succ, Add and Sub. Nothing of Go here.
-/
import Derived.Test.YgcoaaGreatDivPlain2
set_option linter.unusedVariables false
set_option linter.unusedSimpArgs false
namespace Go.Proofs.YgcoaaGreat.Limbs

/-! Add -/
theorem add_round (cl L M : List Nat) (k c t : Nat) (hk : k < cl.length) (hz : cl.getD k 0 = 0) (ht : t = c + L.getD k 0 + M.getD k 0)
    (h : val cl + 4294967296 ^ k * c = val (L.take k) + val (M.take k)) :
    val (cl.set k (t % 4294967296)) + 4294967296 ^ (k + 1) * (t / 4294967296) = val (L.take (k + 1)) + val (M.take (k + 1)) := by
  have h1 := carry_step cl k t (c + (L.getD k 0 + M.getD k 0)) hk (by omega)
  rw [h1, take_more L k, take_more M k, Nat.mul_add, Nat.mul_add]
  omega

theorem add_last (cl : List Nat) (n c A : Nat) (hn : n < cl.length) (hz : cl.getD n 0 = 0) (h : val cl + 4294967296 ^ n * c = A) : val (cl.set n c) = A := by
  have h1 := val_set cl n c hn
  rw [hz, Nat.mul_zero, Nat.add_zero] at h1
  omega

/-! Sub -/
theorem sub_round (cl L M : List Nat) (k bo u' b' : Nat) (hk : k < cl.length) (hz : cl.getD k 0 = 0) (hu : u' + M.getD k 0 + bo = L.getD k 0 + 4294967296 * b')
    (h : val cl + val (M.take k) = val (L.take k) + 4294967296 ^ k * bo) :
    val (cl.set k u') + val (M.take (k + 1)) = val (L.take (k + 1)) + 4294967296 ^ (k + 1) * b' := by
  have h1 := val_set cl k u' hk
  rw [hz, Nat.mul_zero, Nat.add_zero] at h1
  rw [take_more L k, take_more M k, Nat.pow_succ, Nat.mul_assoc]
  have h2 : 4294967296 ^ k * u' + 4294967296 ^ k * M.getD k 0 + 4294967296 ^ k * bo = 4294967296 ^ k * L.getD k 0 + 4294967296 ^ k * (4294967296 * b') := by
    rw [← Nat.mul_add, ← Nat.mul_add, ← Nat.mul_add, hu]
  omega

theorem sub_end (cl : List Nat) (x y n bo : Nat) (hl : Lt cl) (hn : cl.length = n) (h : val cl + y = x + 4294967296 ^ n * bo) (hb : bo ≤ 1) (hle : y ≤ x) : val cl = x - y := by
  have h1 := val_lt cl hl
  rw [hn] at h1
  match bo, hb, h with
  | 0, _, h => rw [Nat.mul_zero] at h; omega
  | 1, _, h => rw [Nat.mul_one] at h; omega

/-! Succ -/
theorem succ_done (cl : List Nat) (i X A : Nat) (hi : i < cl.length) (hX : X = cl.getD i 0) (h : val cl + 4294967296 ^ i = A) : val (cl.set i (X + 1)) = A := by
  have h1 := val_set cl i (X + 1) hi
  rw [← hX, Nat.mul_add] at h1
  omega
theorem succ_go (cl : List Nat) (i X A : Nat) (hi : i < cl.length) (hX : X = cl.getD i 0) (hb : X + 1 = 4294967296) (h : val cl + 4294967296 ^ i = A) : val (cl.set i 0) + 4294967296 ^ (i + 1) = A := by
  have h1 := val_set cl i 0 hi
  rw [← hX, Nat.mul_zero, Nat.add_zero] at h1
  have h2 : 4294967296 ^ (i + 1) = 4294967296 ^ i * X + 4294967296 ^ i := by
    rw [Nat.pow_succ, ← hb, Nat.mul_add, Nat.mul_one]
  omega
theorem succ_not (cl : List Nat) (x n : Nat) (hx : x < 4294967296 ^ n) (h : val cl + 4294967296 ^ (n + 1) = x + 1) : False := by
  rw [Nat.pow_succ] at h
  have := pow_pos n
  omega

end Go.Proofs.YgcoaaGreat.Limbs
