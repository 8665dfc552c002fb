/-
  One run of one text: conversions, places, what is built.
-/
import Derived.Test.YgcoaaGreatSfD
set_option linter.unusedVariables false
set_option linter.unusedSimpArgs false
namespace Go.Sf

section
variable {P : Program} {Γ : Gam}

def aUn : UnOp → D → Option D
  | .neg, (.mk (.inl (.inl (k, a, b)))) => some (rng k (-b) (-a))
  | .xor, (.mk (.inl (.inl (k, _, _)))) => some (full k)
  | .neg, (.mk (.inl (.inr (.inr (.inr (.inr (.inl k))))))) => some (.flt k)
  | .not, (.mk (.inl (.inr (.inr (.inl o))))) => some (.bool (o.map (!·)))
  | _, _ => none

theorem negFloat_lt {k : FloatKind} {x : Nat} (h : x < 2 ^ fw k) : Op.negFloat k x < 2 ^ fw k := by
  unfold Op.negFloat
  refine Nat.xor_lt_two_pow h ?_
  cases k <;> simp [fw, FloatKind.format, Ieee.single, Ieee.double]

theorem US.unary {op : UnOp} {x : Value} {d r : D} (hx : one Γ d x) (h : aUn op d = some r) : US P (fun Γ v => one Γ r v) Γ (Op.unary op x) := by
  unfold aUn at h
  split at h
  · obtain ⟨n, rfl, h1, h2⟩ := hx
    cases h
    show one Γ _ (.int _ (IntKind.wrap _ (0 - n)))
    exact one_of_cel (rng_wrap (by omega) (by omega))
  · obtain ⟨n, rfl, h1, h2⟩ := hx
    cases h
    exact ⟨_, rfl, (wrap_rng _ _).1, (wrap_rng _ _).2⟩
  · obtain ⟨n, rfl, h1⟩ := hx
    cases h
    exact ⟨_, rfl, negFloat_lt h1⟩
  · obtain ⟨b, rfl, h1⟩ := hx
    cases h
    refine ⟨_, rfl, fun c hc => ?_⟩
    rename_i o
    cases o with
    | none => cases hc
    | some c' => simp at hc; rw [h1 c' rfl, hc]; simp
  · cases h

/-- Conversions of numbers. -/
def aConv (P : Program) (src dst : TypeId) (x : D) : Option D :=
  match P.underlying src, P.underlying dst, x with
  | some _, some (.int k), (.mk (.inl (.inl (_, a, b)))) => some (rng k a b)
  | some _, some (.float k), (.mk (.inl (.inl (_, _, _)))) => some (.flt k)
  | some _, some (.int k), (.mk (.inl (.inr (.inr (.inr (.inr (.inl _))))))) => some (full k)
  | some _, some (.float k), (.mk (.inl (.inr (.inr (.inr (.inr (.inl _))))))) => some (.flt k)
  | some _, some .string, (.mk (.inl (.inr (.inr (.inr (.inl n)))))) => some (.str n)
  | _, _, _ => none

theorem enc_lt {k : FloatKind} {d : Ieee.Datum} : k.encode d < 2 ^ fw k := by
  rw [fw_eq]
  exact Ieee.Format.write_lt _ _

theorem US.convert {src dst : TypeId} {x : Value} {d r : D} (hx : one Γ d x) (h : aConv P src dst d = some r) : US P (fun Γ v => one Γ r v) Γ (Go.convert src dst x) := by
  unfold aConv at h
  split at h
  · rename_i h1 h2
    obtain ⟨n, rfl, g1, g2⟩ := hx
    cases h
    refine US.under h1 (US.under h2 ?_)
    exact one_of_cel (rng_wrap g1 g2)
  · rename_i h1 h2
    obtain ⟨n, rfl, g1, g2⟩ := hx
    cases h
    refine US.under h1 (US.under h2 ?_)
    exact ⟨_, rfl, enc_lt⟩
  · rename_i k s h1 h2
    obtain ⟨n, rfl, g1⟩ := hx
    cases h
    refine US.under h1 (US.under h2 ?_)
    have any : US P (fun Γ v => one Γ (full k) v) Γ (do pure (.int k (k.wrap (← choose (.floatToInt s n k)))) : Sem Value) := ⟨_, rfl, (wrap_rng _ _).1, (wrap_rng _ _).2⟩
    show US P _ Γ (Conv.floatToInt s n k)
    unfold Conv.floatToInt
    dsimp only
    split
    · split
      · rename_i hh
        exact ⟨_, rfl, hh⟩
      · exact any
    · exact any
  · rename_i k s h1 h2
    obtain ⟨n, rfl, g1⟩ := hx
    cases h
    refine US.under h1 (US.under h2 ?_)
    show US P _ Γ (Conv.floatToFloat s n k)
    unfold Conv.floatToFloat
    split
    · rename_i e
      subst e
      exact ⟨_, rfl, g1⟩
    · split
      · refine ⟨_, rfl, ?_⟩
        cases k <;> simp [Question.forced, Question.cut, fw]
      · exact ⟨_, rfl, enc_lt⟩
      · dsimp only
        split
        · refine ⟨_, rfl, ?_⟩
          cases k <;> simp [Question.forced, Question.cut, fw]
        · exact ⟨_, rfl, enc_lt⟩
  · rename_i h1 h2
    obtain ⟨n, rfl, g1⟩ := hx
    cases h
    refine US.under h1 (US.under h2 ?_)
    exact ⟨_, rfl, g1⟩
  · cases h

/-- New memory, zero. -/
def aAlloc (P : Program) (t : TypeId) (l : D) : Bool :=
  match Tw.zero? P t with
  | some z => good (cst z) && leL le1 (cst z).asCells l
  | none => false

theorem US.alloc {t : TypeId} {l : D} (h : aAlloc P t l = true) : US P (fun Γ x => one Γ (.ptr l) x) Γ (Instr.alloc t true (.tuple #[])) := by
  unfold aAlloc at h
  split at h
  · rename_i z hz
    simp only [Bool.and_eq_true] at h
    refine US.zero hz ?_
    exact US.bind' (US.newVar (cst_ok h.1) h.2) fun Γ' a hle ha => ⟨a, rfl, ha.1, ha.2⟩
  · cases h

/-- A field's place. -/
def aFieldAddr (P : Program) (s : TypeId) (i : Nat) (l : D) : Option D :=
  match P.underlying s with
  | some (.struct fs) => match fs[i]? with
    | some f => match P.info? f.type with
      | some d => if d.size = 0 then none else some (.ptr (l.drop f.offset))
      | none => none
    | none => none
  | _ => none

theorem ptr_drop {a : Addr} {l : D} (hs : a.spot = none) (hp : ∀ j d, l.at j = some d → Γ a.block (a.off + j) = some d) (n : Nat) : one Γ (.ptr (l.drop n)) (.pointer (some (a.add n))) := by
  obtain ⟨s1, s2, s3⟩ := add_spot hs n
  refine ⟨_, rfl, s1, fun j d hd => ?_⟩
  rw [s2, s3, Nat.add_assoc]
  exact hp _ _ (D.at_drop hd)

theorem US.fieldAt {s : TypeId} {v : Value} {i : Nat} {l r : D} (hv : one Γ (.ptr l) v) (h : aFieldAddr P s i l = some r) : US P (fun Γ v => one Γ r v) Γ (Instr.fieldAt s v i) := by
  obtain ⟨a, rfl, hs, hp⟩ := hv
  unfold aFieldAddr at h
  split at h
  · rename_i fs hu
    split at h
    · rename_i f hf
      split at h
      · rename_i d hd
        split at h
        · cases h
        · rename_i hz
          cases h
          refine US.under hu ?_
          dsimp only
          rw [hf]
          show US P _ Γ (fieldPlace a f >>= fun b => pure (Value.pointer (some b)))
          refine US.bind' (S := fun Γ b => one Γ (.ptr (l.drop f.offset)) (.pointer (some b))) ?_ fun Γ' b hle hb => hb
          refine US.size hd ?_
          rw [if_neg hz]
          exact ptr_drop hs hp _
      · cases h
    · cases h
  · cases h

/-- Part of a struct or an array. -/
def aPart (P : Program) (t : TypeId) (l : D) (off : Nat) : Option D :=
  match aggB P t with
  | some true => match P.info? t with
    | some i => if off + i.size ≤ l.len then some (.agg ((l.drop off).take i.size)) else none
    | none => none
  | some false => l.at off
  | none => none

theorem D.at_drop' : ∀ {n : Nat} {l : D} {j : Nat}, (D.drop n l).at j = l.at (n + j)
  | 0, l, j => by rw [Nat.zero_add]; simp [D.drop]
  | n + 1, (.mk (.inr (.inr (a, t)))), j => by
    rw [show n + 1 + j = (n + j) + 1 by omega]
    exact D.at_drop' (n := n) (l := t)
  | n + 1, (.mk (.inl (.inl (_, _, _)))), _ | n + 1, (.mk (.inl (.inr (.inr (.inl _))))), _ | n + 1, (.mk (.inl (.inr (.inr (.inr (.inl _)))))), _ | n + 1, (.mk (.inl (.inr (.inr (.inr (.inr (.inl _))))))), _ | n + 1, (.mk (.inr (.inl (.inl (), _)))), _ | n + 1, (.mk (.inl (.inr (.inr (.inr (.inr (.inr (.inl ())))))))), _ | n + 1, (.mk (.inr (.inl (.inr (.inl (_, _)), _)))), _ | n + 1, (.mk (.inl (.inr (.inr (.inr (.inr (.inr (.inr (.inl ()))))))))), _ | n + 1, (.mk (.inr (.inl (.inr (.inr (.inl ())), _)))), _ | n + 1, (.mk (.inr (.inl (.inr (.inr (.inr ())), _)))), _ | n + 1, (.mk (.inl (.inr (.inr (.inr (.inr (.inr (.inr (.inr (.inl ())))))))))), _ | n + 1, (.mk (.inl (.inr (.inr (.inr (.inr (.inr (.inr (.inr (.inr (()))))))))))), _ | n + 1, (.mk (.inl (.inr (.inl ())))), _ => by
    simp [D.drop, D.at, show ∀ j, n + 1 + j = (n + j) + 1 by omega]

theorem D.len_drop : ∀ {n : Nat} {l : D}, (D.drop n l).len = l.len - n
  | 0, l => by simp [D.drop]
  | n + 1, (.mk (.inr (.inr (a, t)))) => by simp only [D.drop, D.len]; rw [D.len_drop]; omega
  | n + 1, (.mk (.inl (.inl (_, _, _)))) | n + 1, (.mk (.inl (.inr (.inr (.inl _))))) | n + 1, (.mk (.inl (.inr (.inr (.inr (.inl _)))))) | n + 1, (.mk (.inl (.inr (.inr (.inr (.inr (.inl _))))))) | n + 1, (.mk (.inr (.inl (.inl (), _)))) | n + 1, (.mk (.inl (.inr (.inr (.inr (.inr (.inr (.inl ())))))))) | n + 1, (.mk (.inr (.inl (.inr (.inl (_, _)), _)))) | n + 1, (.mk (.inl (.inr (.inr (.inr (.inr (.inr (.inr (.inl ()))))))))) | n + 1, (.mk (.inr (.inl (.inr (.inr (.inl ())), _)))) | n + 1, (.mk (.inr (.inl (.inr (.inr (.inr ())), _)))) | n + 1, (.mk (.inl (.inr (.inr (.inr (.inr (.inr (.inr (.inr (.inl ())))))))))) | n + 1, (.mk (.inl (.inr (.inr (.inr (.inr (.inr (.inr (.inr (.inr (()))))))))))) | n + 1, (.mk (.inl (.inr (.inl ())))) => by simp [D.drop, D.len]

theorem US.part {t : TypeId} {xs : Array Value} {off : Nat} {l r : D} (hx : cells Γ l xs) (h : aPart P t l off = some r) : US P (fun Γ v => one Γ r v) Γ (Go.part t xs off) := by
  unfold aPart at h
  split at h
  · rename_i ha
    split at h
    · rename_i i hi
      split at h
      · rename_i hlen
        cases h
        refine US.agg ha ?_
        refine US.size hi ?_
        refine ⟨_, rfl, ?_, fun j d hd => ?_⟩
        · rw [D.len_take (by rw [D.len_drop]; omega)]
          simp [hx.1]
          omega
        · obtain ⟨h1, h2⟩ := D.at_take hd
          obtain ⟨x, q1, q2⟩ := hx.2 _ _ (D.at_drop h2)
          refine ⟨x, ?_, q2⟩
          have := (Array.getElem?_eq_some_iff.1 q1).1
          rw [Array.getElem?_extract, if_pos (by omega)]
          exact q1
      · cases h
    · cases h
  · rename_i ha
    refine US.agg ha ?_
    obtain ⟨x, q1, q2⟩ := hx.2 _ _ h
    show US P _ Γ (match xs[off]? with | some v => pure v | none => stuck _)
    rw [q1]
    exact one_of_cel q2
  · cases h

def aField (P : Program) (t : TypeId) (i : Nat) (l : D) : Option D :=
  match P.underlying t with
  | some (.struct fs) => match fs[i]? with
    | some f => aPart P f.type l f.offset
    | none => none
  | _ => none

theorem US.field {t : TypeId} {v : Value} {i : Nat} {l r : D} (hv : one Γ (.agg l) v) (h : aField P t i l = some r) : US P (fun Γ v => one Γ r v) Γ (Instr.field t v i) := by
  obtain ⟨xs, rfl, hx⟩ := hv
  unfold aField at h
  split at h
  · rename_i fs hu
    split at h
    · rename_i f hf
      refine US.under hu ?_
      dsimp only
      rw [hf]
      exact US.part hx h
    · cases h
  · cases h

/-- The head of a list, if the first n are all alike. -/
def unif (d : D) : Nat → D → Bool
  | 0, _ => true
  | n + 1, (.mk (.inr (.inr (h, t)))) => D.eqb h d && unif d n t
  | _, _ => false

theorem unif_at {d : D} : ∀ {n : Nat} {l : D}, unif d n l = true → ∀ j, j < n → l.at j = some d
  | n + 1, (.mk (.inr (.inr (h, t)))), hu, 0, _ => by simp only [unif, Bool.and_eq_true, D.eqb_iff] at hu; simp [D.at, hu.1]
  | n + 1, (.mk (.inr (.inr (h, t)))), hu, j + 1, hj => by
    simp only [unif, Bool.and_eq_true, beq_iff_eq] at hu
    exact unif_at hu.2 j (by omega)

def D.rep (d : D) : Nat → D
  | 0 => .nil
  | n + 1 => .cons d (D.rep d n)

theorem D.at_rep {d : D} : ∀ {n j : Nat} {e : D}, (D.rep d n).at j = some e → j < n ∧ e = d
  | n + 1, 0, e, h => by simp only [D.rep, D.at, Option.some.injEq] at h; exact ⟨by omega, h.symm⟩
  | n + 1, j + 1, e, h => let ⟨h1, h2⟩ := D.at_rep (n := n) h; ⟨by omega, h2⟩
  | 0, j, e, h => by simp [D.rep, D.at] at h

theorem D.len_rep {d : D} : ∀ {n : Nat}, (D.rep d n).len = n
  | 0 => rfl
  | n + 1 => by simp only [D.rep, D.len, D.len_rep]

/-- An element's place in an array. -/
def aIndexAddr (P : Program) (t : TypeId) (x i : D) : Option D :=
  match P.underlying t, x, i with
  | some (.array n e), (.mk (.inr (.inl (.inl (), l)))), (.mk (.inl (.inl (_, a, b)))) => match P.info? e with
    | some d => match l.at 0 with
      | some c => if 0 ≤ a ∧ b < n ∧ unif c (n * d.size) l = true then some (.ptr (D.rep c d.size)) else none
      | none => none
    | none => none
  | _, _, _ => none

theorem US.indexAt {t : TypeId} {x i : Value} {dx di r : D} (hx : one Γ dx x) (hi : one Γ di i) (h : aIndexAddr P t dx di = some r) : US P (fun Γ v => one Γ r v) Γ (Instr.indexAt t x i) := by
  unfold aIndexAddr at h
  split at h
  · rename_i n e l k a b hu
    split at h
    · rename_i d hd
      split at h
      · rename_i c hc
        split at h
        · rename_i hh
          cases h
          obtain ⟨ad, rfl, hs, hp⟩ := hx
          obtain ⟨m, rfl, g1, g2⟩ := hi
          refine US.under hu ?_
          refine US.under hu ?_
          dsimp only
          rw [if_pos (by omega)]
          refine US.size hd ?_
          obtain ⟨s1, s2, s3⟩ := add_spot hs (m.toNat * d.size)
          refine ⟨_, rfl, s1, fun j q hq => ?_⟩
          obtain ⟨h1, rfl⟩ := D.at_rep hq
          rw [s2, s3, Nat.add_assoc]
          refine hp _ _ (unif_at hh.2.2 _ ?_)
          have hm : m.toNat + 1 ≤ n := by omega
          calc m.toNat * d.size + j < m.toNat * d.size + d.size := by omega
            _ = (m.toNat + 1) * d.size := by rw [Nat.add_mul, Nat.one_mul]
            _ ≤ n * d.size := Nat.mul_le_mul_right _ hm
        · cases h
      · cases h
    · cases h
  · cases h

/-- An element of an array. -/
def aIndex (P : Program) (t : TypeId) (x i : D) : Option D :=
  match P.underlying t, x, i with
  | some (.array n e), (.mk (.inr (.inl (.inr (.inr (.inl ())), l)))), (.mk (.inl (.inl (_, a, b)))) => match aggB P e, P.info? e with
    | some false, some d => match l.at 0 with
      | some c => if 0 ≤ a ∧ b < n ∧ d.size = 1 ∧ unif c n l = true then some c else none
      | none => none
    | _, _ => none
  | _, _, _ => none

theorem US.index {t : TypeId} {x i : Value} {dx di r : D} (hx : one Γ dx x) (hi : one Γ di i) (h : aIndex P t dx di = some r) : US P (fun Γ v => one Γ r v) Γ (Instr.index t x i) := by
  unfold aIndex at h
  split at h
  · rename_i n e l k a b hu
    split at h
    · rename_i d ha hd
      split at h
      · rename_i c hc
        split at h
        · rename_i hh
          cases h
          obtain ⟨xs, rfl, hx⟩ := hx
          obtain ⟨m, rfl, g1, g2⟩ := hi
          refine US.under hu ?_
          dsimp only
          rw [if_pos (by omega)]
          refine US.size hd ?_
          refine US.part hx ?_
          simp only [aPart, ha]
          refine unif_at hh.2.2.2 _ ?_
          rw [hh.2.2.1]
          omega
        · cases h
      · cases h
    · cases h
  · cases h

theorem US.extract {v : Value} {i : Nat} {l r : D} (hv : val Γ (.tup l) v) (h : l.at i = some r) : US P (fun Γ v => one Γ r v) Γ (Instr.extract v i) := by
  obtain ⟨xs, rfl, hl, hx⟩ := hv
  obtain ⟨x, q1, q2⟩ := hx i r h
  simp only [Instr.extract, q1]
  exact q2
end
end Go.Sf
