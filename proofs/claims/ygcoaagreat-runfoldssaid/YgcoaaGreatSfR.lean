/-
  One run of one text: what the contracts tell, for this program.
-/
import Derived.Test.YgcoaaGreatSfQ
import Derived.Test.YgcoaaGreatSfO
set_option linter.unusedVariables false
set_option linter.unusedSimpArgs false
set_option maxRecDepth 20000
namespace Go.Sf
theorem Con.le {P : Program} {g : FuncId} {ps qs r : D} (h : Con P g qs r) (hl : leL le2 ps qs = true) : Con P g ps r :=
  fun Γ w xs hw ha => h Γ w xs hw (ha.le hl)

theorem US.forIn_any {P : Program} {α β : Type} {body : α → β → Sem (ForInStep β)} : ∀ {l : List α} {Γ : Gam} {s : β}, (∀ (Γ' : Gam) f, f ∈ l → Le Γ Γ' → ∀ s, US P (fun _ _ => True) Γ' (body f s)) → US P (fun _ _ => True) Γ (forIn l s body)
  | [], Γ, s, h => by rw [List.forIn_nil]; exact trivial
  | f :: l, Γ, s, h => by
    rw [List.forIn_cons]
    refine US.bind' (h Γ f (by simp) (Le.refl _) s) fun Γ' r hle _ => ?_
    cases r with
    | done x => exact trivial
    | yield x => exact US.forIn_any fun Γ'' f' hf' hle' s' => h Γ'' f' (by simp [hf']) (hle.trans hle') s'

/-- A struct of numbers, no part of it an address. -/
def eqFields (P : Program) (q : D) (fs : List Field) : Bool := fs.all fun f => match P.underlying f.type, aPart P f.type q f.offset with
  | some (.int _), some (.mk (.inl (.inl (_, _, _)))) => true
  | some .bool, some (.mk (.inl (.inr (.inr (.inl _))))) => true
  | some .string, some (.mk (.inl (.inr (.inr (.inr (.inl _)))))) => true
  | _, _ => false

theorem US.equalBool {P : Program} {Γ : Gam} {d : Nat} {t : TypeId} {n m : Bool} (h : P.underlying t = some .bool) : US P (fun _ _ => True) Γ (Op.equalIn (d + 1) t (.bool n) (.bool m)) := by
  unfold Op.equalIn
  exact US.under h trivial

theorem US.equalStr {P : Program} {Γ : Gam} {d : Nat} {t : TypeId} {n m : ByteArray} (h : P.underlying t = some .string) : US P (fun _ _ => True) Γ (Op.equalIn (d + 1) t (.string n) (.string m)) := by
  unfold Op.equalIn
  exact US.under h trivial

theorem US.equalInt {P : Program} {Γ : Gam} {d : Nat} {t : TypeId} {k k' : IntKind} {n m : Int} (h : P.underlying t = some (.int k')) : US P (fun _ _ => True) Γ (Op.equalIn (d + 1) t (.int k n) (.int k m)) := by
  unfold Op.equalIn
  refine US.under h ?_
  show US P _ Γ (if k = k then pure (n == m) else stuck _)
  rw [if_pos rfl]
  exact trivial

theorem US.equalStruct {P : Program} {Γ : Gam} {t : TypeId} {fs : Array Field} {q : D} {xs ys : Array Value} (hu : P.underlying t = some (.struct fs)) (hs : P.stoodInHeld t = false) (hf : eqFields P q fs.toList = true) (hx : cells Γ q xs) (hy : cells Γ q ys) :
    US P (fun _ _ => True) Γ (Op.equal t (.agg xs) (.agg ys)) := by
  unfold Op.equal Op.maxDepth
  unfold Op.equalIn
  refine US.under hu ?_
  dsimp only
  show US P _ Γ (if P.stoodInHeld t = true then _ else _)
  rw [hs]
  simp only [Bool.false_eq_true, if_false]
  rw [← Array.forIn_toList]
  refine US.bind' (US.forIn_any (fun Γ' f hmem hle s => ?_)) fun Γ' r hle _ => ?_
  · have := (List.all_eq_true.1 hf) f hmem
    split at this
    · rename_i k k' lo hi h1 h2
      split
      · refine US.bind' (US.part (hx.mono hle) h2) fun Γ1 a hle1 ha => ?_
        refine US.bind' (US.part ((hy.mono hle).mono hle1) h2) fun Γ2 b hle2 hb => ?_
        obtain ⟨n, rfl, _⟩ := ha
        obtain ⟨m, rfl, _⟩ := hb
        refine US.bind' (US.equalInt h1) fun Γ3 r _ _ => ?_
        cases r <;> exact trivial
      · exact trivial
    · rename_i k' h1 h2
      split
      · refine US.bind' (US.part (hx.mono hle) h2) fun Γ1 a hle1 ha => ?_
        refine US.bind' (US.part ((hy.mono hle).mono hle1) h2) fun Γ2 b hle2 hb => ?_
        obtain ⟨n, rfl, _⟩ := ha
        obtain ⟨m, rfl, _⟩ := hb
        refine US.bind' (US.equalBool h1) fun Γ3 r _ _ => ?_
        cases r <;> exact trivial
      · exact trivial
    · rename_i k' h1 h2
      split
      · refine US.bind' (US.part (hx.mono hle) h2) fun Γ1 a hle1 ha => ?_
        refine US.bind' (US.part ((hy.mono hle).mono hle1) h2) fun Γ2 b hle2 hb => ?_
        obtain ⟨n, rfl, _⟩ := ha
        obtain ⟨m, rfl, _⟩ := hb
        refine US.bind' (US.equalStr h1) fun Γ3 r _ _ => ?_
        cases r <;> exact trivial
      · exact trivial
    · cases this
  · obtain ⟨o, u⟩ := r
    cases o <;> exact trivial

def eqOk (P : Program) (t : TypeId) (q : D) : Bool := (match P.underlying t with
  | some (.struct fs) => eqFields P q fs.toList
  | _ => false) && !P.stoodInHeld t && !P.eqGuardType P.depth t

theorem eqOk_ok {P : Program} {t : TypeId} {q : D} (h : eqOk P t q = true) : P.eqGuardType P.depth t = false ∧
    ∀ (Γ : Gam) (xs ys : Array Value), cells Γ q xs → cells Γ q ys → US P (fun _ _ => True) Γ (Op.equal t (.agg xs) (.agg ys)) := by
  simp only [eqOk, Bool.and_eq_true, Bool.not_eq_true'] at h
  obtain ⟨⟨h1, h2⟩, h3⟩ := h
  refine ⟨h3, fun Γ xs ys hx hy => ?_⟩
  split at h1
  · rename_i fs hu
    exact US.equalStruct hu h2 h1 hx hy
  · cases h1
end Go.Sf

namespace Go.Proofs.YgcoaaGreat.SfW
open Go Go.Sf

def natA : D → Option Nat
  | (.mk (.inr (.inl (.inr (.inl (sz, n)), c)))) => bif (Nat.beq sz 1 && D.eqb c u32D) then some n else none
  | (.mk (.inl (.inr (.inr (.inr (.inr (.inr (.inr (.inl ()))))))))) => some 0
  | _ => none

theorem natA_le {d : D} {n : Nat} (h : natA d = some n) : le2 d (nat n) = true := by
  unfold natA at h
  split at h
  · rename_i sz m c
    cases hb : (Nat.beq sz 1 && D.eqb c u32D) with
    | false => rw [hb] at h; cases h
    | true =>
      rw [hb] at h
      simp only [cond_true, Option.some.injEq] at h
      subst h
      simp only [Bool.and_eq_true, beq_iff_eq] at hb
      have h1 : sz = 1 := Nat.eq_of_beq_eq_true hb.1
      simp [le2, le1, nat, h1, hb.2]
  · cases h; rfl
  · cases h

def big : Nat := 1099511627776
def nat1 (f : Nat → D) : D → Option D
  | (.mk (.inr (.inr (a, (.mk (.inl (.inr (.inl ())))))))) => match natA a with | some n => bif Nat.ble n big then some (f n) else none | none => none
  | _ => none
def nat2 (f : Nat → Nat → D) : D → Option D
  | (.mk (.inr (.inr (a, (.mk (.inr (.inr (b, (.mk (.inl (.inr (.inl ())))))))))))) => match natA a, natA b with | some n, some m => bif Nat.ble (n + m) big then some (f n m) else none | _, _ => none
  | _ => none
def natx (f : Nat → D) (e : D) : D → Option D
  | (.mk (.inr (.inr (a, (.mk (.inr (.inr (b, (.mk (.inl (.inr (.inl ())))))))))))) => match natA a with | some n => bif (Nat.ble n big && le1 b e) then some (f n) else none | none => none
  | _ => none
def int1 (e r : D) : D → Option D
  | (.mk (.inr (.inr (b, (.mk (.inl (.inr (.inl ())))))))) => bif le1 b e then some r else none
  | _ => none

theorem nat1_ok {g : FuncId} {f : Nat → D} (h : ∀ n, n ≤ big → Con Oaag.prog g (.cons (nat n) .nil) (f n)) {ps r : D} (e : nat1 f ps = some r) : Con Oaag.prog g ps r := by
  unfold nat1 at e
  split at e
  · split at e
    · rename_i n hn
      cases hb : Nat.ble n big with
      | false => rw [hb] at e; cases e
      | true =>
        rw [hb] at e
        cases e
        refine (h n (Nat.le_of_ble_eq_true hb)).le ?_
        simp [leL, natA_le hn]
    · cases e
  · cases e

theorem nat2_ok {g : FuncId} {f : Nat → Nat → D} (h : ∀ n m, n + m ≤ big → Con Oaag.prog g (.cons (nat n) (.cons (nat m) .nil)) (f n m)) {ps r : D} (e : nat2 f ps = some r) : Con Oaag.prog g ps r := by
  unfold nat2 at e
  split at e
  · split at e
    · rename_i n m hn hm
      cases hb : Nat.ble (n + m) big with
      | false => rw [hb] at e; cases e
      | true =>
        rw [hb] at e
        cases e
        refine (h n m (Nat.le_of_ble_eq_true hb)).le ?_
        simp [leL, natA_le hn, natA_le hm]
    · cases e
  · cases e

theorem le1_le2 {b e : D} (h : le1 b e = true) : le2 b e = true := by
  cases b using D.cs <;> first | exact h | (exfalso; cases e using D.cs <;> simp [le1] at h; done)

theorem natx_ok {g : FuncId} {f : Nat → D} {e0 : D} (h : ∀ n, n ≤ big → Con Oaag.prog g (.cons (nat n) (.cons e0 .nil)) (f n)) {ps r : D} (e : natx f e0 ps = some r) : Con Oaag.prog g ps r := by
  unfold natx at e
  split at e
  · rename_i a b
    split at e
    · rename_i n hn
      cases hb : (Nat.ble n big && le1 b e0) with
      | false => rw [hb] at e; cases e
      | true =>
        rw [hb] at e
        cases e
        simp only [Bool.and_eq_true] at hb
        refine (h n (Nat.le_of_ble_eq_true hb.1)).le ?_
        simp [leL, natA_le hn, le1_le2 hb.2]
    · cases e
  · cases e

theorem int1_ok {g : FuncId} {e0 r0 : D} (h : Con Oaag.prog g (.cons e0 .nil) r0) {ps r : D} (e : int1 e0 r0 ps = some r) : Con Oaag.prog g ps r := by
  unfold int1 at e
  split at e
  · rename_i b
    cases hb : le1 b e0 with
    | false => rw [hb] at e; cases e
    | true =>
      rw [hb] at e
      cases e
      refine h.le ?_
      simp [leL, le1_le2 hb]
  · cases e

def tup2 (a b : D) : D := .tup (.cons a (.cons b .nil))
def u16D : D := .int .u16 0 65535
def i64D : D := .int .i64 (-9223372036854775808) 9223372036854775807
def u64D : D := .int .u64 0 18446744073709551615

/-- What the contracts of naturals tell. -/
def baseN (g : FuncId) : D → Option D :=
  bif Nat.beq g 27 then nat2 (fun n m => nat (n + m)) else
  bif Nat.beq g 80 then nat2 (fun n m => nat (max n m + 1)) else
  bif Nat.beq g 31 then nat2 (fun n m => tup2 (nat n) (.bool none)) else
  bif Nat.beq g 414 then nat1 (fun n => nat (n + 1)) else
  bif Nat.beq g 42 then nat1 (fun n => nat n) else
  bif Nat.beq g 61 then nat1 (fun n => .int .i64 0 ((32 * n : Nat) : Int)) else
  bif Nat.beq g 407 then natx (fun n => .bool none) i64D else
  bif Nat.beq g 66 then nat2 (fun n m => .int .i8 (-1) 1) else
  bif Nat.beq g 63 then natx (fun n => nat (n + 2048)) u16D else
  bif Nat.beq g 416 then nat1 (fun n => tup2 (nat (n + 2)) (.bool none)) else
  bif Nat.beq g 62 then nat2 (fun n m => .tup (.cons (nat n) (.cons (nat m) (.cons (.bool none) .nil)))) else
  bif Nat.beq g 25 then int1 u64D (nat 2) else
  bif Nat.beq g 30 then int1 u16D (nat 6144) else
  fun _ => none

theorem bif_true {α : Type} {a b : Nat} {x y : α} (h : a = b) : (bif Nat.beq a b then x else y) = x := by subst h; rw [Nat.beq_refl]; rfl
theorem bif_false {α : Type} {a b : Nat} {x y : α} (h : a ≠ b) : (bif Nat.beq a b then x else y) = y := by
  cases hb : Nat.beq a b with
  | true => exact absurd (Nat.eq_of_beq_eq_true hb) h
  | false => rfl

theorem baseN_ok {g : FuncId} {ps r : D} (h : baseN g ps = some r) : Con Oaag.prog g ps r := by
  unfold baseN at h
  have hbig : big = 1099511627776 := rfl
  by_cases e : g = 27
  · rw [bif_true e] at h; subst e; exact nat2_ok (fun n m hn => con_mul n m (by omega)) h
  rw [bif_false e] at h; clear e
  by_cases e : g = 80
  · rw [bif_true e] at h; subst e; exact nat2_ok (fun n m hn => con_add n m (by omega)) h
  rw [bif_false e] at h; clear e
  by_cases e : g = 31
  · rw [bif_true e] at h; subst e; exact nat2_ok (fun n m hn => con_sub n m (by omega)) h
  rw [bif_false e] at h; clear e
  by_cases e : g = 414
  · rw [bif_true e] at h; subst e; exact nat1_ok (fun n hn => con_succ n (by omega)) h
  rw [bif_false e] at h; clear e
  by_cases e : g = 42
  · rw [bif_true e] at h; subst e; exact nat1_ok (fun n hn => con_take n (by omega)) h
  rw [bif_false e] at h; clear e
  by_cases e : g = 61
  · rw [bif_true e] at h; subst e; exact nat1_ok (fun n hn => con_bitLen n (by omega)) h
  rw [bif_false e] at h; clear e
  by_cases e : g = 407
  · rw [bif_true e] at h; subst e; exact natx_ok (fun n hn => con_bit n (by omega)) h
  rw [bif_false e] at h; clear e
  by_cases e : g = 66
  · rw [bif_true e] at h; subst e; exact nat2_ok (fun n m hn => con_cmp n m (by omega)) h
  rw [bif_false e] at h; clear e
  by_cases e : g = 63
  · rw [bif_true e] at h; subst e; exact natx_ok (fun n hn => con_shl n (by omega)) h
  rw [bif_false e] at h; clear e
  by_cases e : g = 416
  · rw [bif_true e] at h; subst e; exact nat1_ok (fun n hn => con_sqrt n (by omega)) h
  rw [bif_false e] at h; clear e
  by_cases e : g = 62
  · rw [bif_true e] at h; subst e; exact nat2_ok (fun n m hn => con_divMod n m (by omega)) h
  rw [bif_false e] at h; clear e
  by_cases e : g = 25
  · rw [bif_true e] at h; subst e; exact int1_ok con_fromU64 h
  rw [bif_false e] at h; clear e
  by_cases e : g = 30
  · rw [bif_true e] at h; subst e; exact int1_ok con_pow5 h
  rw [bif_false e] at h; clear e
  cases h

/-- Structs that are compared. -/
def eqU (t : TypeId) : Option D :=
  bif Nat.beq t 23 then some (.cons (.int .u8 0 255) (.cons (.int .u8 0 255) .nil)) else
  bif Nat.beq t 47 then some (.cons u64D (.cons u64D .nil)) else
  bif Nat.beq t 198 then some (.cons (.bool none) (.cons (.str 1048576) (.cons (.int .i16 (-32768) 32767) .nil))) else none

theorem eqU_ok : EqAll Oaag.prog eqU := by
  intro t q h
  unfold eqU at h
  by_cases e : t = 23
  · rw [bif_true e] at h
    subst e
    cases h
    exact eqOk_ok (by kernel_rfl)
  rw [bif_false e] at h; clear e
  by_cases e : t = 47
  · rw [bif_true e] at h
    subst e
    cases h
    exact eqOk_ok (by kernel_rfl)
  rw [bif_false e] at h; clear e
  by_cases e : t = 198
  · rw [bif_true e] at h
    subst e
    cases h
    exact eqOk_ok (by kernel_rfl)
  rw [bif_false e] at h; clear e
  cases h
def xgU (_ : FuncId) (_ : D) : Option D := none
def base : FuncId → D → Option D := baseN
end Go.Proofs.YgcoaaGreat.SfW
