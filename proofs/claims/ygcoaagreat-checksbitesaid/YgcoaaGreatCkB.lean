/-
  Package bound: Check.
-/
import Derived.Test.YgcoaaGreatExE
import Derived.Test.YgcoaaGreatLaxQ
set_option linter.unusedVariables false
set_option linter.unusedSimpArgs false
namespace Go.Proofs.YgcoaaGreat.NatW
attribute [local go_sem] Go.Instr.field Go.asAgg
open Go.RowKit
open Go.Proofs.YgcoaaGreat.Limbs

theorem ck_len (x y : Nat) {n : Nat} (hx : (lim x).length ≤ n) (hy : (lim y).length ≤ n) : (lim (x + y)).length ≤ n + 1 := by
  apply lim_length_le
  have h1 := lt_of_lim_length x
  have h2 := lt_of_lim_length y
  have h3 : 4294967296 ^ (lim x).length ≤ 4294967296 ^ n := Nat.pow_le_pow_right (by omega) hx
  have h4 : 4294967296 ^ (lim y).length ≤ 4294967296 ^ n := Nat.pow_le_pow_right (by omega) hy
  rw [Nat.pow_succ]
  omega

abbrev wk (a1 a2 a3 : Option Addr) (c1 c2 c3 : Nat) (l1 l2 l3 : List Nat) (P R N : Int) : Array Value := #[.slice a1 l1.length c1, .slice a2 l2.length c2, .slice a3 l3.length c3, .int .u64 P, .int .u64 R, .int .u64 N]

/-- What is kept while Check runs. -/
structure CkH (w w' : World) (a1 a2 a3 : Option Addr) (c1 c2 c3 : Nat) (l1 l2 l3 : List Nat) : Prop where
  s1 : Sl w' a1 c1 l1
  s2 : Sl w' a2 c2 l2
  s3 : Sl w' a3 c3 l3
  n1 : l1.length ≤ 1000000
  n2 : l2.length ≤ 1000000
  n3 : l3.length ≤ 1000000
  b : Below w.heap.size w w'
theorem CkH.later {w w' w'' : World} {a1 a2 a3 : Option Addr} {c1 c2 c3 : Nat} {l1 l2 l3 : List Nat} (h : CkH w w' a1 a2 a3 c1 c2 c3 l1 l2 l3) (hb : Below w'.heap.size w' w'') : CkH w w'' a1 a2 a3 c1 c2 c3 l1 l2 l3 :=
  ⟨h.s1.later hb, h.s2.later hb, h.s3.later hb, h.n1, h.n2, h.n3, h.b.trans (hb.mono h.b.size)⟩
theorem ck_n1 {w w' : World} {a1 a2 a3 : Option Addr} {c1 c2 c3 : Nat} {l1 l2 l3 : List Nat} {v : Bool} (h : Hid (CkH w w' a1 a2 a3 c1 c2 c3 l1 l2 l3)) (k : nrm a1 l1 = v) : Calls Oaag.prog 32 #[.slice a1 l1.length c1] w' fun e w'' => w' = w'' ∧ e = .returned (.bool v) := by
  subst k
  exact normal_any w' a1 c1 l1 h.s1 (by have := h.n1; omega)
theorem ck_n2 {w w' : World} {a1 a2 a3 : Option Addr} {c1 c2 c3 : Nat} {l1 l2 l3 : List Nat} {v : Bool} (h : Hid (CkH w w' a1 a2 a3 c1 c2 c3 l1 l2 l3)) (k : nrm a2 l2 = v) : Calls Oaag.prog 32 #[.slice a2 l2.length c2] w' fun e w'' => w' = w'' ∧ e = .returned (.bool v) := by
  subst k
  exact normal_any w' a2 c2 l2 h.s2 (by have := h.n2; omega)
theorem ck_n3 {w w' : World} {a1 a2 a3 : Option Addr} {c1 c2 c3 : Nat} {l1 l2 l3 : List Nat} {v : Bool} (h : Hid (CkH w w' a1 a2 a3 c1 c2 c3 l1 l2 l3)) (k : nrm a3 l3 = v) : Calls Oaag.prog 32 #[.slice a3 l3.length c3] w' fun e w'' => w' = w'' ∧ e = .returned (.bool v) := by
  subst k
  exact normal_any w' a3 c3 l3 h.s3 (by have := h.n3; omega)
theorem ck_add {w w' : World} {a1 a2 a3 : Option Addr} {c1 c2 c3 : Nat} {l1 l2 l3 : List Nat} (h : Hid (CkH w w' a1 a2 a3 c1 c2 c3 l1 l2 l3)) : Calls Oaag.prog 80 #[.slice a1 l1.length c1, .slice a2 l2.length c2] w' fun e w'' => ∃ a' c', e = .returned (.slice a' (lim (val l1 + val l2)).length c') ∧ Hid (Sl w'' a' c' (lim (val l1 + val l2))) ∧ Hid (Below w'.heap.size w' w'') := by
  refine (add_any w' a1 c1 l1 _ rfl h.s1 a2 c2 l2 _ rfl h.s2 (by have := h.n1; omega) (by have := h.n2; omega)).mono ?_
  rintro e w'' ⟨a', c', rfl, h1, h2⟩
  exact ⟨a', c', rfl, h1.sl, h2⟩
theorem ck_cmp {w w' : World} {a1 a2 a3 : Option Addr} {c1 c2 c3 : Nat} {l1 l2 l3 : List Nat} {a' : Option Addr} {c' : Nat} {v : Int} (h : Hid (CkH w w' a1 a2 a3 c1 c2 c3 l1 l2 l3)) (hs : Hid (Sl w' a' c' (lim (val l1 + val l2)))) (hv : cmpI (val l1 + val l2) (val l3) = v) : Calls Oaag.prog 66 #[.slice a' (lim (val l1 + val l2)).length c', .slice a3 l3.length c3] w' fun e w'' => e = .returned (.int .i8 v) ∧ Hid (Below w'.heap.size w' w'') := by
  subst hv
  have hl : (lim (val l1 + val l2)).length ≤ 1000001 := ck_len _ _ (Nat.le_trans (lim_length_le' l1 h.s1.lt) h.n1) (Nat.le_trans (lim_length_le' l2 h.s2.lt) h.n2)
  refine (cmp_any w' a' c' _ _ (val_lim _) hs (by omega) a3 c3 l3 _ rfl h.s3 (by have := h.n3; omega)).mono ?_
  rintro e w'' ⟨h1, rfl⟩
  exact ⟨rfl, h1⟩

end Go.Proofs.YgcoaaGreat.NatW
