/-
  PLAIN: numbers as lists of limbs, the least first. Nothing of Go here.
-/
namespace Go.Proofs.YgcoaaGreat.Limbs

/-- The number that the limbs spell. -/
def val : List Nat → Nat
  | [] => 0
  | x :: xs => x + 4294967296 * val xs

/-- Every limb is one. -/
def Lt (l : List Nat) : Prop := ∀ x ∈ l, x < 4294967296

/-- n's limbs, by fuel. -/
def limF : Nat → Nat → List Nat
  | 0, _ => []
  | f + 1, n => if n = 0 then [] else n % 4294967296 :: limF f (n / 4294967296)

/-- n's limbs, none of them a zero at the top. -/
def lim (n : Nat) : List Nat := limF n n

theorem limF_more : ∀ (f g n : Nat), n ≤ f → n ≤ g → limF f n = limF g n := by
  intro f
  induction f with
  | zero => intro g n h1 h2; obtain rfl : n = 0 := by omega
            cases g <;> simp [limF]
  | succ f ih =>
    intro g n h1 h2
    cases g with
    | zero => obtain rfl : n = 0 := by omega
              simp [limF]
    | succ g =>
      simp only [limF]
      split
      · rfl
      · rw [ih g (n / 4294967296) (by omega) (by omega)]

theorem lim_zero : lim 0 = [] := rfl
theorem lim_step (n : Nat) (h : n ≠ 0) : lim n = n % 4294967296 :: lim (n / 4294967296) := by
  unfold lim
  cases n with
  | zero => exact absurd rfl h
  | succ n =>
    rw [limF, if_neg h, limF_more n ((n + 1) / 4294967296) _ (by omega) (by omega)]

theorem val_nil : val [] = 0 := rfl
theorem val_cons (x : Nat) (xs : List Nat) : val (x :: xs) = x + 4294967296 * val xs := rfl

theorem val_limF : ∀ (f n : Nat), n ≤ f → val (limF f n) = n := by
  intro f
  induction f with
  | zero => intro n h; obtain rfl : n = 0 := by omega
            rfl
  | succ f ih =>
    intro n h
    simp only [limF]
    split
    · simp [val]; omega
    · rw [val_cons, ih _ (by omega)]; omega

theorem val_lim (n : Nat) : val (lim n) = n := val_limF n n (Nat.le_refl _)

theorem Lt_nil : Lt [] := by intro x h; cases h
theorem Lt_cons {x : Nat} {xs : List Nat} (h : x < 4294967296) (hs : Lt xs) : Lt (x :: xs) := by
  intro y hy; rcases List.mem_cons.1 hy with rfl | hy
  · exact h
  · exact hs y hy
theorem Lt.head {x : Nat} {xs : List Nat} (h : Lt (x :: xs)) : x < 4294967296 := h x (by simp)
theorem Lt.tail {x : Nat} {xs : List Nat} (h : Lt (x :: xs)) : Lt xs := fun y hy => h y (by simp [hy])
theorem Lt_limF : ∀ (f n : Nat), Lt (limF f n) := by
  intro f
  induction f with
  | zero => intro n; exact Lt_nil
  | succ f ih =>
    intro n; simp only [limF]; split
    · exact Lt_nil
    · exact Lt_cons (by omega) (ih _)
theorem Lt_lim (n : Nat) : Lt (lim n) := Lt_limF n n

theorem val_append (a b : List Nat) : val (a ++ b) = val a + 4294967296 ^ a.length * val b := by
  induction a with
  | nil => simp [val]
  | cons x xs ih =>
    simp only [List.cons_append, val_cons, ih, List.length_cons, Nat.pow_succ, Nat.mul_add]
    rw [Nat.mul_comm (4294967296 ^ xs.length) 4294967296, Nat.mul_assoc]; omega

theorem val_lt (l : List Nat) (h : Lt l) : val l < 4294967296 ^ l.length := by
  induction l with
  | nil => simp [val]
  | cons x xs ih =>
    have h1 := h.head
    have h2 := ih h.tail
    simp only [val_cons, List.length_cons, Nat.pow_succ]
    omega

/-- A list whose top limb is not zero (or that is empty) is the limbs of its number. -/
theorem eq_lim (l : List Nat) (h : Lt l) (ht : ∀ (hn : l ≠ []), l.getLast hn ≠ 0) : l = lim (val l) := by
  induction l with
  | nil => rfl
  | cons x xs ih =>
    have hx := h.head
    have hv : val (x :: xs) ≠ 0 := by
      rw [val_cons]
      by_cases hxs : xs = []
      · subst hxs; have := ht (by simp); simp at this; simp [val]; omega
      · have h1 : val xs ≠ 0 := by
          intro h0
          have e := ih h.tail (fun hn => by have := ht (by simp); rwa [List.getLast_cons hn] at this)
          rw [h0, lim_zero] at e; exact hxs e
        omega
    rw [lim_step _ hv]
    have e1 : val (x :: xs) % 4294967296 = x := by rw [val_cons]; omega
    have e2 : val (x :: xs) / 4294967296 = val xs := by rw [val_cons]; omega
    rw [e1, e2]
    by_cases hxs : xs = []
    · subst hxs; rfl
    · rw [← ih h.tail (fun hn => by have := ht (by simp); rwa [List.getLast_cons hn] at this)]

theorem lim_last (n : Nat) : ∀ (hn : lim n ≠ []), (lim n).getLast hn ≠ 0 := by
  have key : ∀ f n, n ≤ f → ∀ (hn : lim n ≠ []), (lim n).getLast hn ≠ 0 := by
    intro f
    induction f with
    | zero => intro n h hn; obtain rfl : n = 0 := by omega
              exact absurd rfl hn
    | succ f ih =>
      intro n h hn
      by_cases h0 : n = 0
      · subst h0; exact absurd rfl hn
      · have e := lim_step n h0
        by_cases h1 : lim (n / 4294967296) = []
        · rw [h1] at e
          have hv := val_lim n
          rw [e] at hv
          simp [val] at hv
          simp only [e, List.getLast_singleton]; omega
        · have := ih (n / 4294967296) (by omega) h1
          simp only [e]; rwa [List.getLast_cons h1]
  exact key n n (Nat.le_refl _)

theorem lim_eq_nil (n : Nat) : lim n = [] ↔ n = 0 := by
  constructor
  · intro h; have := val_lim n; rw [h] at this; exact this.symm
  · rintro rfl; rfl

theorem lim_length_pos (n : Nat) : 0 < (lim n).length ↔ n ≠ 0 := by
  rw [← Decidable.not_iff_not]
  simp only [Nat.not_lt, Nat.le_zero, List.length_eq_zero_iff, lim_eq_nil]; omega

theorem val_ge_last (l : List Nat) (hn : l ≠ []) (ht : l.getLast hn ≠ 0) : 4294967296 ^ (l.length - 1) ≤ val l := by
  induction l with
  | nil => exact absurd rfl hn
  | cons x xs ih =>
    by_cases hxs : xs = []
    · subst hxs; simp at ht; simp [val]; omega
    · rw [List.getLast_cons hxs] at ht
      have := ih hxs ht
      have hl : 0 < xs.length := List.length_pos_iff.2 hxs
      rw [val_cons, List.length_cons, Nat.add_sub_cancel]
      obtain ⟨k, hk⟩ : ∃ k, xs.length = k + 1 := ⟨xs.length - 1, by omega⟩
      rw [hk] at this ⊢
      rw [Nat.pow_succ]; simp at this; omega

theorem lim_length_le (n k : Nat) (h : n < 4294967296 ^ k) : (lim n).length ≤ k := by
  by_cases h0 : n = 0
  · subst h0; simp [lim_zero]
  · have hn : lim n ≠ [] := fun e => h0 ((lim_eq_nil n).1 e)
    have h1 := val_ge_last (lim n) hn (lim_last n hn)
    rw [val_lim] at h1
    have h2 : 4294967296 ^ ((lim n).length - 1) < 4294967296 ^ k := Nat.lt_of_le_of_lt h1 h
    have h3 := (Nat.pow_lt_pow_iff_right (by omega : 1 < 4294967296)).1 h2
    omega

theorem lt_of_lim_length (n : Nat) : n < 4294967296 ^ (lim n).length := by
  have := val_lt (lim n) (Lt_lim n); rwa [val_lim] at this

theorem lim_length_mono (a b : Nat) (h : a ≤ b) : (lim a).length ≤ (lim b).length :=
  lim_length_le a _ (Nat.lt_of_le_of_lt h (lt_of_lim_length b))

theorem ge_of_lim_length (n : Nat) (h : n ≠ 0) : 4294967296 ^ ((lim n).length - 1) ≤ n := by
  have hn : lim n ≠ [] := fun e => h ((lim_eq_nil n).1 e)
  have h1 := val_ge_last (lim n) hn (lim_last n hn)
  rwa [val_lim] at h1

/-- The limb at place i. -/
theorem getD_lt (l : List Nat) (h : Lt l) (i : Nat) : l.getD i 0 < 4294967296 := by
  rw [List.getD_eq_getElem?_getD]
  cases e : l[i]? with
  | none => simp
  | some x => simp; exact h x (List.mem_of_getElem? e)

theorem Lt_take {l : List Nat} (h : Lt l) (k : Nat) : Lt (l.take k) := fun x hx => h x (List.mem_of_mem_take hx)
theorem Lt_drop {l : List Nat} (h : Lt l) (k : Nat) : Lt (l.drop k) := fun x hx => h x (List.mem_of_mem_drop hx)
theorem Lt_append {a b : List Nat} (h : Lt a) (k : Lt b) : Lt (a ++ b) := fun x hx => by
  rcases List.mem_append.1 hx with hx | hx
  · exact h x hx
  · exact k x hx

theorem take_succ_getD (l : List Nat) (k : Nat) (h : k < l.length) : l.take (k + 1) = l.take k ++ [l.getD k 0] := by
  rw [List.take_succ_eq_append_getElem h, List.getD_eq_getElem?_getD, List.getElem?_eq_getElem h]; rfl

theorem val_take_succ (l : List Nat) (k : Nat) (h : k < l.length) : val (l.take (k + 1)) = val (l.take k) + 4294967296 ^ k * l.getD k 0 := by
  rw [take_succ_getD l k h, val_append, List.length_take, Nat.min_eq_left (by omega)]
  simp [val]

theorem val_replicate (n : Nat) : val (List.replicate n 0) = 0 := by
  induction n with
  | zero => rfl
  | succ n ih => rw [List.replicate_succ, val_cons, ih]

/-- TRIM's LOOP: the top limbs from k on are zeros; then place k - 1 holds another, or k is 0. -/
theorem trim_zero (l : List Nat) (k : Nat) (hk : k < l.length) (h0 : l.getD k 0 = 0) : val (l.take (k + 1)) = val (l.take k) := by
  rw [val_take_succ l k hk, h0]; simp

theorem trim_end (l : List Nat) (k : Nat) (hl : Lt l) (hk : k + 1 ≤ l.length) (h0 : l.getD k 0 ≠ 0) : l.take (k + 1) = lim (val (l.take (k + 1))) := by
  refine eq_lim _ (Lt_take hl _) fun hn => ?_
  have e := take_succ_getD l k (by omega)
  simp only [e]; rw [List.getLast_append_of_ne_nil (by simp) (by simp)]; exact h0

/-- The limbs of a list's number are a beginning of it: the zeros at its top are gone. -/
theorem lim_prefix (l : List Nat) (h : Lt l) : lim (val l) = l.take (lim (val l)).length := by
  have key : ∀ k, k ≤ l.length → ∃ j, j ≤ k ∧ l.take j = lim (val (l.take k)) := by
    intro k
    induction k with
    | zero => intro _; exact ⟨0, Nat.le_refl _, by simp [val, lim_zero]⟩
    | succ k ih =>
      intro hk
      by_cases h0 : l.getD k 0 = 0
      · obtain ⟨j, hj, e⟩ := ih (by omega)
        exact ⟨j, by omega, by rw [e, trim_zero l k (by omega) h0]⟩
      · exact ⟨k + 1, Nat.le_refl _, trim_end l k h hk h0⟩
  obtain ⟨j, hj, e⟩ := key l.length (Nat.le_refl _)
  rw [List.take_length] at e
  rw [← e, List.length_take, Nat.min_eq_left hj]

theorem lim_length_le' (l : List Nat) (h : Lt l) : (lim (val l)).length ≤ l.length := lim_length_le _ _ (val_lt l h)

theorem val_set (l : List Nat) (k v : Nat) (h : k < l.length) : val (l.set k v) + 4294967296 ^ k * l.getD k 0 = val l + 4294967296 ^ k * v := by
  induction l generalizing k with
  | nil => simp at h
  | cons x xs ih =>
    cases k with
    | zero => simp [val]; omega
    | succ k =>
      have := ih k (by simpa using h)
      simp only [List.set_cons_succ, val_cons, List.getD_cons_succ, Nat.pow_succ]
      rw [Nat.mul_comm (4294967296 ^ k) 4294967296, Nat.mul_assoc, Nat.mul_assoc]; omega

theorem Lt_set {l : List Nat} (h : Lt l) (k v : Nat) (hv : v < 4294967296) : Lt (l.set k v) := by
  intro x hx
  rcases List.mem_or_eq_of_mem_set hx with hx | rfl
  · exact h x hx
  · exact hv
theorem Lt_replicate (n : Nat) : Lt (List.replicate n 0) := by
  intro x hx; rw [List.eq_of_mem_replicate hx]; omega

end Go.Proofs.YgcoaaGreat.Limbs
