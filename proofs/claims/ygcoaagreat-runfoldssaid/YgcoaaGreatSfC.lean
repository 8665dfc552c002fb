/-
  One run of one text: numbers.
-/
import Derived.Test.YgcoaaGreatSfB
set_option linter.unusedVariables false
set_option linter.unusedSimpArgs false
namespace Go.Sf

theorem wrap_in {k : IntKind} {n : Int} (h1 : k.min ≤ n) (h2 : n ≤ k.max) : k.wrap n = n := by
  cases k <;> simp [IntKind.min, IntKind.max, IntKind.signed, IntKind.bits] at h1 h2 <;> simp [IntKind.wrap, IntKind.signed, IntKind.bits] <;> omega

theorem wrap_rng (k : IntKind) (n : Int) : k.min ≤ k.wrap n ∧ k.wrap n ≤ k.max := by
  cases k <;> simp [IntKind.min, IntKind.max, IntKind.wrap, IntKind.signed, IntKind.bits] <;> omega

def full (k : IntKind) : D := .int k k.min k.max
/-- A number between two, as its kind holds it. -/
def rng (k : IntKind) (lo hi : Int) : D := if k.min ≤ lo ∧ hi ≤ k.max then .int k lo hi else full k

section
variable {Γ : Gam}
theorem rng_wrap {k : IntKind} {lo hi n : Int} (h1 : lo ≤ n) (h2 : n ≤ hi) : cel Γ (rng k lo hi) (.int k (k.wrap n)) := by
  unfold rng
  split
  · rename_i h
    rw [wrap_in (Int.le_trans h.1 h1) (Int.le_trans h2 h.2)]
    exact ⟨n, rfl, h1, h2⟩
  · exact ⟨_, rfl, (wrap_rng k n).1, (wrap_rng k n).2⟩

def absI (x : Int) : Int := if x < 0 then -x else x
/-- The greatest size between two. -/
def top (lo hi : Int) : Int := max (absI lo) (absI hi)

theorem top_le {lo hi x : Int} (h1 : lo ≤ x) (h2 : x ≤ hi) : -(top lo hi) ≤ x ∧ x ≤ top lo hi := by
  unfold top absI
  split <;> split <;> omega

theorem mul_top {x y A B : Int} (h1 : -A ≤ x) (h2 : x ≤ A) (h3 : -B ≤ y) (h4 : y ≤ B) : -(A * B) ≤ x * y ∧ x * y ≤ A * B := by
  have hA : 0 ≤ A := by omega
  have hB : 0 ≤ B := by omega
  have e1 : (x.natAbs : Int) ≤ A := by omega
  have e2 : (y.natAbs : Int) ≤ B := by omega
  have e3 : ((x * y).natAbs : Int) ≤ A * B := by
    rw [Int.natAbs_mul, Int.natCast_mul]
    exact Int.mul_le_mul e1 e2 (Int.natCast_nonneg _) hA
  omega

/-- The result of an operation on numbers. -/
def aInt (op : BinOp) (k : IntKind) (a b c d : Int) : Option D :=
  match op with
  | .add => some (rng k (a + c) (b + d))
  | .sub => some (rng k (a - d) (b - c))
  | .mul => if 0 ≤ a ∧ 0 ≤ c then some (rng k 0 (b * d)) else some (rng k (-(top a b * top c d)) (top a b * top c d))
  | .quo => if 0 < c then (if 0 ≤ a then some (rng k 0 (b / c)) else some (rng k (-(top a b)) (top a b))) else none
  | .rem => if 0 < c then (if 0 ≤ a then some (.int k 0 (min b (d - 1))) else some (.int k (-(d - 1)) (d - 1))) else none
  | .and => if 0 ≤ a ∧ 0 ≤ c ∧ b ≤ k.max ∧ d ≤ k.max then some (.int k 0 (min b d)) else some (full k)
  | .or | .xor | .andNot => some (full k)
  | .eql | .neq | .lss | .leq | .gtr | .geq => some (.bool none)
  | _ => none

theorem bits_lt (k : IntKind) {x : Int} (h0 : 0 ≤ x) (h1 : x ≤ k.max) : x < 2 ^ k.bits := by
  cases k <;> simp [IntKind.max, IntKind.signed, IntKind.bits] at h1 ⊢ <;> omega

theorem US.intBits {P : Program} {op : BinOp} {k : IntKind} {x y a b c d : Int} {r : D} (hop : op = .and ∨ op = .or ∨ op = .xor ∨ op = .andNot) (hx : a ≤ x ∧ x ≤ b) (hy : c ≤ y ∧ y ≤ d) (h : aInt op k a b c d = some r) :
    US P (fun Γ v => one Γ r v) Γ (Op.intBits op k x y) := by
  have fin : ∀ z : Nat, one Γ (full k) (.int k (k.wrap z)) := fun z => ⟨_, rfl, (wrap_rng k _).1, (wrap_rng k _).2⟩
  rcases hop with rfl | rfl | rfl | rfl
  · simp only [aInt] at h
    split at h
    · rename_i hc
      cases h
      have hx0 : 0 ≤ x := by omega
      have hy0 : 0 ≤ y := by omega
      have ex : (BitVec.ofInt k.bits x).toNat = x.toNat := by
        rw [BitVec.toNat_ofInt]
        rw [Int.emod_eq_of_lt hx0]
        have := bits_lt k hx0 (by omega)
        exact_mod_cast this
      have ey : (BitVec.ofInt k.bits y).toNat = y.toNat := by
        rw [BitVec.toNat_ofInt]
        rw [Int.emod_eq_of_lt hy0]
        have := bits_lt k hy0 (by omega)
        exact_mod_cast this
      refine ⟨_, rfl, ?_⟩
      have e : ((BitVec.ofInt k.bits x &&& BitVec.ofInt k.bits y).toNat : Int) ≤ min b d := by
        rw [BitVec.toNat_and, ex, ey]
        have h1 : x.toNat &&& y.toNat ≤ x.toNat := Nat.and_le_left
        have h2 : x.toNat &&& y.toNat ≤ y.toNat := Nat.and_le_right
        omega
      have hk : k.min ≤ 0 := by cases k <;> simp [IntKind.min, IntKind.signed, IntKind.bits]
      rw [wrap_in (by omega) (by omega)]
      omega
    · cases h
      exact fin _
  · simp only [aInt] at h; cases h; exact fin _
  · simp only [aInt] at h; cases h; exact fin _
  · simp only [aInt] at h; cases h; exact fin _

theorem US.intArith {P : Program} {op : BinOp} {k : IntKind} {x y a b c d : Int} {r : D} (hop : op = .add ∨ op = .sub ∨ op = .mul) (hx : a ≤ x ∧ x ≤ b) (hy : c ≤ y ∧ y ≤ d) (h : aInt op k a b c d = some r) :
    US P (fun Γ v => one Γ r v) Γ (Op.intArith op k x y) := by
  rcases hop with rfl | rfl | rfl <;> simp only [aInt] at h
  · cases h; exact one_of_cel (rng_wrap (by omega) (by omega))
  · cases h; exact one_of_cel (rng_wrap (by omega) (by omega))
  · split at h
    · rename_i hc
      cases h
      refine one_of_cel (rng_wrap ?_ ?_)
      · exact Int.mul_nonneg (by omega) (by omega)
      · exact Int.mul_le_mul hx.2 hy.2 (by omega) (by omega)
    · cases h
      have g1 := top_le hx.1 hx.2
      have g2 := top_le hy.1 hy.2
      have := mul_top g1.1 g1.2 g2.1 g2.2
      exact one_of_cel (rng_wrap this.1 this.2)

theorem ediv_anti {b c y : Int} (hb : 0 ≤ b) (hc : 0 < c) (h : c ≤ y) : b / y ≤ b / c := by
  have hy : 0 < y := by omega
  have h0 : 0 ≤ b / y := Int.ediv_nonneg hb (Int.le_of_lt hy)
  rw [Int.le_ediv_iff_mul_le hc]
  have h1 : b / y * c ≤ b / y * y := Int.mul_le_mul_of_nonneg_left h h0
  have h2 : b / y * y ≤ b := Int.ediv_mul_le b (by omega)
  omega

theorem ediv_neg_mono {a c y : Int} (ha : a < 0) (hc : 0 < c) (h : c ≤ y) : a / c ≤ a / y := by
  have hy : 0 < y := by omega
  rw [Int.le_ediv_iff_mul_le hy]
  have h0 : a / c < 0 := Int.ediv_neg_of_neg_of_pos ha hc
  have h1 : a / c * c ≤ a := Int.ediv_mul_le a (by omega)
  have h2 : -(a / c) * c ≤ -(a / c) * y := Int.mul_le_mul_of_nonneg_left h (by omega)
  rw [Int.neg_mul, Int.neg_mul] at h2
  omega

theorem tdiv_top {x y A : Int} (h1 : -A ≤ x) (h2 : x ≤ A) (hy : 0 < y) : -A ≤ x.tdiv y ∧ x.tdiv y ≤ A := by
  have e : (x.tdiv y).natAbs ≤ x.natAbs := by
    rw [Int.natAbs_tdiv]
    exact Nat.div_le_self _ _
  omega

theorem US.intDiv {P : Program} {op : BinOp} {k : IntKind} {x y a b c d : Int} {r : D} (hop : op = .quo ∨ op = .rem) (hx : a ≤ x ∧ x ≤ b) (hy : c ≤ y ∧ y ≤ d) (h : aInt op k a b c d = some r) :
    US P (fun Γ v => one Γ r v) Γ (Op.intDiv op k x y) := by
  unfold Op.intDiv
  rcases hop with rfl | rfl <;> simp only [aInt] at h
  · split at h
    · rename_i hc
      rw [if_neg (by omega)]
      split at h
      · rename_i ha
        cases h
        refine one_of_cel (rng_wrap ?_ ?_)
        · exact Int.tdiv_nonneg (by omega) (by omega)
        · rw [Int.tdiv_eq_ediv_of_nonneg (by omega)]
          refine Int.le_trans (Int.ediv_le_ediv (by omega) hx.2) ?_
          exact ediv_anti (by omega) hc hy.1
      · cases h
        have g := top_le hx.1 hx.2
        have := tdiv_top g.1 g.2 (y := y) (by omega)
        exact one_of_cel (rng_wrap this.1 this.2)
    · cases h
  · split at h
    · rename_i hc
      rw [if_neg (by omega)]
      split at h
      · rename_i ha
        cases h
        refine ⟨_, rfl, Int.tmod_nonneg _ (by omega), ?_⟩
        have h1 : x.tmod y < y := Int.tmod_lt_of_pos _ (by omega)
        have h2 : x.tmod y ≤ x := by
          rw [Int.tmod_eq_emod_of_nonneg (by omega)]
          have := Int.mul_ediv_add_emod x y
          have := Int.mul_nonneg (a := y) (b := x / y) (by omega) (Int.ediv_nonneg (by omega) (by omega))
          omega
        omega
      · cases h
        refine ⟨_, rfl, ?_, ?_⟩
        · have h1 : -y < x.tmod y := by
            have e : (x.tmod y).natAbs < y.natAbs := by
              rw [Int.natAbs_tmod]
              exact Nat.mod_lt _ (by omega)
            omega
          omega
        · have h1 : x.tmod y < y := Int.tmod_lt_of_pos _ (by omega)
          omega
    · cases h

theorem US.intCmp {P : Program} {op : BinOp} {x y : Int} {k : IntKind} {a b c d : Int} {r : D} (hop : op = .eql ∨ op = .neq ∨ op = .lss ∨ op = .leq ∨ op = .gtr ∨ op = .geq) (h : aInt op k a b c d = some r) :
    US P (fun Γ v => one Γ r v) Γ (Op.intCmp op x y) := by
  rcases hop with rfl | rfl | rfl | rfl | rfl | rfl <;> (simp only [aInt] at h; cases h; exact ⟨_, rfl, fun c hc => by cases hc⟩)

/-- Shifts. -/
def aShift (op : BinOp) (k : IntKind) (a b c d : Int) : Option D :=
  if 0 ≤ c then
    match op with
    | .shl => if 0 ≤ a then some (rng k 0 (b * 2 ^ (min d.toNat k.bits))) else some (full k)
    | .shr => if 0 ≤ a then some (.int k 0 (b / 2 ^ (min c.toNat k.bits))) else some (.int k (a / 2 ^ (min c.toNat k.bits)) (max (b / 2 ^ (min c.toNat k.bits)) 0))
    | _ => none
  else none

theorem US.shift {P : Program} {op : BinOp} {k k' : IntKind} {x y a b c d : Int} {r : D} (hx : a ≤ x ∧ x ≤ b) (hy : c ≤ y ∧ y ≤ d) (h : aShift op k a b c d = some r) :
    US P (fun Γ v => one Γ r v) Γ (Op.shift op k x k' y) := by
  unfold aShift at h
  unfold Op.shift
  split at h
  · rename_i hc
    rw [if_neg (by omega)]
    split at h
    · split at h
      · rename_i ha
        cases h
        refine one_of_cel (rng_wrap ?_ ?_)
        · exact Int.mul_nonneg (by omega) (Int.pow_nonneg (by omega))
        · refine Int.mul_le_mul hx.2 ?_ (Int.pow_nonneg (by omega)) (by omega)
          have : min y.toNat k.bits ≤ min d.toNat k.bits := by omega
          exact_mod_cast Nat.pow_le_pow_right (by omega) this
      · cases h
        exact ⟨_, rfl, (wrap_rng k _).1, (wrap_rng k _).2⟩
    · have hp : ∀ n : Nat, (0 : Int) < 2 ^ n := fun n => Int.pow_pos (by omega)
      split at h
      · rename_i ha
        cases h
        refine ⟨_, rfl, ?_, ?_⟩
        · exact Int.fdiv_nonneg (by omega) (Int.le_of_lt (hp _))
        · rw [Int.fdiv_eq_ediv_of_nonneg _ (Int.le_of_lt (hp _))]
          refine Int.le_trans (Int.ediv_le_ediv (hp _) hx.2) ?_
          refine ediv_anti (by omega) (hp _) ?_
          have : min c.toNat k.bits ≤ min y.toNat k.bits := by omega
          exact_mod_cast Nat.pow_le_pow_right (by omega) this
      · rename_i ha
        cases h
        have hcy : (2 : Int) ^ min c.toNat k.bits ≤ 2 ^ min y.toNat k.bits := by
          have : min c.toNat k.bits ≤ min y.toNat k.bits := by omega
          exact_mod_cast Nat.pow_le_pow_right (by omega) this
        have haneg : a / 2 ^ min c.toNat k.bits < 0 := Int.ediv_neg_of_neg_of_pos (by omega) (hp _)
        refine ⟨_, rfl, ?_, ?_⟩
        · rw [Int.fdiv_eq_ediv_of_nonneg _ (Int.le_of_lt (hp _))]
          have h1 : a / 2 ^ min y.toNat k.bits ≤ x / 2 ^ min y.toNat k.bits := Int.ediv_le_ediv (hp _) hx.1
          have h2 : a / 2 ^ min c.toNat k.bits ≤ a / 2 ^ min y.toNat k.bits := ediv_neg_mono (by omega) (hp _) hcy
          omega
        · rw [Int.fdiv_eq_ediv_of_nonneg _ (Int.le_of_lt (hp _))]
          rcases Int.lt_or_le x 0 with hneg | hpos
          · have : x / 2 ^ min y.toNat k.bits < 0 := Int.ediv_neg_of_neg_of_pos hneg (hp _)
            omega
          · have h1 : x / 2 ^ min y.toNat k.bits ≤ b / 2 ^ min y.toNat k.bits := Int.ediv_le_ediv (hp _) hx.2
            have h2 : b / 2 ^ min y.toNat k.bits ≤ b / 2 ^ min c.toNat k.bits := ediv_anti (by omega) (hp _) hcy
            omega
    · cases h
  · cases h
end
end Go.Sf
