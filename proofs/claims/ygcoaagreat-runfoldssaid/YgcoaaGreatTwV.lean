/-
  Two runs of one text: a region's shape, reckoned.
-/
import Derived.Test.YgcoaaGreatTwU
set_option linter.unusedVariables false
set_option linter.unusedSimpArgs false
namespace Go.Tw
open Go.Mix Go.Lax

/-- The shape of a region that draws its order. -/
def drB (V : Env) (n0 f : Nat) (ops : Array Oper) : Bool :=
  decide (n0 ≤ ops.size) &&
  (List.range ops.size).all (fun i => match ops[i]? with
    | none => false
    | some o => o.after.all (fun e => !Region.binds .any e || decide (e.on < i)) &&
      (if i < n0 then headOk V o &&
          (o.looksAt ops).all (fun t => (List.range n0).all fun j => dst ops j != some t || depOn o j || (match ops[j]? with | some oj => depOn oj i | none => false)) &&
          (List.range n0).all (fun j => i == j || dst ops i == none || dst ops j != dst ops i)
        else (List.range n0).all (fun j => reachB ops f i j))) &&
  (List.range (ops.size + 1)).all (fun k => decide (k < n0) || Region.ready .any ops (upto ops.size k) == (if k < ops.size then [k] else []))

theorem drB_ok {V : Env} {n0 f : Nat} {ops : Array Oper} (h : drB V n0 f ops = true) : DrOk V ops n0 := by
  simp only [drB, Bool.and_eq_true, decide_eq_true_eq, List.all_eq_true, List.mem_range] at h
  obtain ⟨⟨hle, hops⟩, hseq⟩ := h
  have at_ : ∀ i o, ops[i]? = some o → _ := fun i o ho => by
    have := hops i (Array.getElem?_eq_some_iff.1 ho).1
    rw [ho] at this
    exact this
  have hdst : ∀ (i : Nat) o, ops[i]? = some o → dst ops i = o.dst := fun i o ho => by simp [dst, ho]
  refine ⟨⟨hle, ?_, ?_, ?_⟩, ⟨?_, ?_⟩, ?_⟩
  · intro i o ho e he hb
    have := (at_ i o ho)
    simp only [Bool.and_eq_true, Array.all_eq_true_iff_forall_mem] at this
    have := this.1 e he
    simpa [hb] using this
  · intro k h1 h2
    have := hseq k (by omega)
    simp only [Bool.or_eq_true, decide_eq_true_eq, beq_iff_eq] at this
    exact this.resolve_left (by omega)
  · intro i hi listed hsz hdown hready j hj
    obtain ⟨_, o, ho, hdeps⟩ := mem_ready.1 hready
    have := (at_ i o ho)
    simp only [if_neg (Nat.not_lt.2 hi), Bool.and_eq_true, List.all_eq_true, List.mem_range] at this
    exact reachB_spec hdown f i j o ho hdeps (this.2 j hj)
  · intro i j oi oj t hi hj ho hoj hdi hdj
    have := (at_ i oi ho)
    simp only [if_pos hi, Bool.and_eq_true, List.all_eq_true, List.mem_range] at this
    have := this.2.2 j hj
    rw [hdst i oi ho, hdst j oj hoj, hdi, hdj] at this
    simpa using this
  · intro i o t j oj hi ho ht hj hoj hdj
    have := (at_ i o ho)
    simp only [if_pos hi, Bool.and_eq_true, List.all_eq_true, List.mem_range] at this
    have := this.2.1.2 t ht j hj
    rw [hdst j oj hoj, hdj] at this
    simp only [bne_self_eq_false, Bool.false_or, hoj, Bool.or_eq_true] at this
    rcases this with this | this
    · exact .inl (depOn_spec.1 this)
    · exact .inr (depOn_spec.1 this)
  · intro i o hi ho
    have := (at_ i o ho)
    simp only [if_pos hi, Bool.and_eq_true] at this
    exact this.2.1.1

/-- The shape of a region of which one store may come early. -/
def drL (V : Env) (f : FuncId) (n0 d : Nat) (ops : Array Oper) : Bool :=
  decide (n0 + 1 ≤ ops.size) &&
  (List.range ops.size).all (fun i => match ops[i]? with
    | none => false
    | some o => o.after.all (fun e => !Region.binds .any e || decide (e.on < i)) &&
      (if i < n0 then headOk V o &&
          (o.looksAt ops).all (fun t => (List.range n0).all fun j => dst ops j != some t || depOn o j || (match ops[j]? with | some oj => depOn oj i | none => false)) &&
          (List.range n0).all (fun j => i == j || dst ops i == none || dst ops j != dst ops i)
        else decide (i = n0) || (List.range (n0 + 1)).all (fun j => reachB ops d i j))) &&
  (List.range (ops.size + 1)).all (fun k => decide (k < n0 + 1) || Region.ready .any ops (upto ops.size k) == (if k < ops.size then [k] else [])) &&
  (Region.schedule true ops 0 == List.range ops.size) &&
  (match ops[n0]? with
    | none => false
    | some os => os.guard.isNone && os.dst.isNone && (os.looksAt ops).all (fun t => (List.range n0).all fun j => dst ops j != some t || depOn os j) &&
      (match os.op with
        | .store _ (.tmp qx) _ => (List.range n0).all (fun i => reachB ops d n0 i || (match ops[i]? with
          | none => false
          | some o => blindOp V.P (V.BX f) (V.BX f qx) o && notCall o && (os.looksAt ops).all (fun t => o.dst != some t) &&
            (match o.op with
              | .load _ (.tmp x) => (List.range n0).all (fun j => dst ops j != some x || depOn o j)
              | _ => true)))
        | _ => false))

theorem drL_ok {V : Env} {f : FuncId} {n0 d : Nat} {ops : Array Oper} (h : drL V f n0 d ops = true) : DrLate V f ops n0 := by
  simp only [drL, Bool.and_eq_true, decide_eq_true_eq, List.all_eq_true, List.mem_range] at h
  obtain ⟨⟨⟨⟨hle, hops⟩, hseq⟩, hord⟩, hst⟩ := h
  have at_ : ∀ i o, ops[i]? = some o → _ := fun i o ho => by
    have := hops i (Array.getElem?_eq_some_iff.1 ho).1
    rw [ho] at this
    exact this
  have hdst : ∀ (i : Nat) o, ops[i]? = some o → dst ops i = o.dst := fun i o ho => by simp [dst, ho]
  refine ⟨⟨hle, ?_, ?_, ?_⟩, ⟨?_, ?_⟩, ?_, by simpa using hord, ?_⟩
  · intro i o ho e he hb
    have := (at_ i o ho)
    simp only [Bool.and_eq_true, Array.all_eq_true_iff_forall_mem] at this
    have := this.1 e he
    simpa [hb] using this
  · intro k h1 h2
    have := hseq k (by omega)
    simp only [Bool.or_eq_true, decide_eq_true_eq, beq_iff_eq] at this
    exact this.resolve_left (by omega)
  · intro i hi listed hsz hdown hready j hj
    obtain ⟨_, o, ho, hdeps⟩ := mem_ready.1 hready
    have := (at_ i o ho)
    simp only [if_neg (show ¬ i < n0 by omega), Bool.and_eq_true, Bool.or_eq_true, decide_eq_true_eq, List.all_eq_true, List.mem_range] at this
    exact reachB_spec hdown d i j o ho hdeps (this.2.resolve_left (by omega) j hj)
  · intro i j oi oj t hi hj ho hoj hdi hdj
    have := (at_ i oi ho)
    simp only [if_pos hi, Bool.and_eq_true, List.all_eq_true, List.mem_range] at this
    have := this.2.2 j hj
    rw [hdst i oi ho, hdst j oj hoj, hdi, hdj] at this
    simpa using this
  · intro i o t j oj hi ho ht hj hoj hdj
    have := (at_ i o ho)
    simp only [if_pos hi, Bool.and_eq_true, List.all_eq_true, List.mem_range] at this
    have := this.2.1.2 t ht j hj
    rw [hdst j oj hoj, hdj] at this
    simp only [bne_self_eq_false, Bool.false_or, hoj, Bool.or_eq_true] at this
    rcases this with this | this
    · exact .inl (depOn_spec.1 this)
    · exact .inr (depOn_spec.1 this)
  · intro i o hi ho
    have := (at_ i o ho)
    simp only [if_pos hi, Bool.and_eq_true] at this
    exact this.2.1.1
  · cases hos : ops[n0]? with
    | none => rw [hos] at hst; exact absurd hst (by simp)
    | some os =>
      rw [hos] at hst
      dsimp only at hst
      cases hop : os.op <;> rw [hop] at hst <;> first | (exfalso; simp at hst; done) | skip
      rename_i t x y
      cases x <;> first | (exfalso; simp at hst; done) | skip
      rename_i qx
      simp only [Bool.and_eq_true, List.all_eq_true, List.mem_range, Option.isNone_iff_eq_none] at hst
      obtain ⟨⟨⟨h1, h2⟩, h3⟩, h4⟩ := hst
      refine ⟨os, t, qx, y, rfl, hop, h1, h2, fun t ht j oj hj hoj hd => ?_, fun i o hi ho => ?_⟩
      · have := h3 t ht j hj
        rw [hdst j oj hoj, hd] at this
        simp only [bne_self_eq_false, Bool.false_or] at this
        exact depOn_spec.1 this
      · have := h4 i hi
        simp only [ho, Bool.or_eq_true, Bool.and_eq_true, List.all_eq_true, bne_iff_ne, ne_eq] at this
        rcases this with hr | ⟨⟨⟨g1, g2⟩, g3⟩, g4⟩
        · left
          intro listed hsz hdown hn
          exact reachB_spec hdown d n0 i os hos (fun e he hb => hdown n0 os hos hn e he hb) hr
        · right
          refine ⟨g1, g2, g3, fun t x hox j oj hj hoj hd => ?_⟩
          rw [hox] at g4
          simp only [List.all_eq_true, List.mem_range, Bool.or_eq_true, bne_iff_ne, ne_eq] at g4
          rcases g4 j hj with g | g
          · rw [hdst j oj hoj] at g
            exact absurd hd g
          · exact depOn_spec.1 g

/-- Where the rest begins: at the first assignment or store, or one before the end. -/
def restAt (ops : Array Oper) : Nat := (ops.findIdx? fun o => match o.op with | .assign _ | .store .. => true | _ => false).getD ops.size

def drAll (V : Env) (f : FuncId) (ops : Array Oper) : Bool := drB V (restAt ops) 4 ops || drB V (ops.size - 1) 4 ops || drL V f (restAt ops) 6 ops

theorem drAll_ok {V : Env} (f : FuncId) (ops : Array Oper) (h : drAll V f ops = true) : (∃ n0, DrOk V ops n0) ∨ ∃ n0, DrLate V f ops n0 := by
  simp only [drAll, Bool.or_eq_true] at h
  rcases h with (h | h) | h
  · exact .inl ⟨_, drB_ok h⟩
  · exact .inl ⟨_, drB_ok h⟩
  · exact .inr ⟨_, drL_ok h⟩
end Go.Tw
