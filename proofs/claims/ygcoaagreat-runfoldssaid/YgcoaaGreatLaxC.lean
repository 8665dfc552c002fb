/-
  How the walks of package soft are laid: contracts 'returns SOME value with a fact', worlds as later ones of a base.
-/
import Derived.Test.YgcoaaGreatLaxB
import Derived.Test.YgcoaaGreatUnpackB
set_option linter.unusedVariables false
namespace Go.Lax
open Go.RowKit
/-- Behind a move of a constant. -/
theorem mv_on {P : Program} {ops : Array Oper} {F : Act → Prop} {a : Act} {d : Option Tmp} {v : Value} (h : wpQuiet P ops (fun _ => True) F [{ dst := d, op := .move (.const v), type := 0, pos := "", after := #[], guard := none }] a) : F (a.put d v) := by
  simp only [wpQuiet, Region.wanted, if_true] at h
  obtain ⟨u, h1, h2⟩ := h
  have h3 := h1 default trivial
  unfold Oper.quietAt at h3
  rw [BigFrame.run_move (.const v) rfl] at h3
  obtain ⟨_, h4⟩ := h3
  rw [← h4] at h2
  exact h2
end Go.Lax

namespace Go.Proofs.YgcoaaGreat.NatW
attribute [local go_sem] Go.Instr.field Go.asAgg
open Go.RowKit


/-- Function n at these arguments returns a value with this fact, old memory left alone. -/
def Ret (n : Nat) (args : Array Value) (Ψ : Value → Prop) : Prop := ∀ (w : World) (K : Ending → World → Prop), (∀ v w', Ψ v → Below w.heap.size w w' → K (.returned v) w') → Calls Oaag.prog n args w K

theorem Ret.run {n : Nat} {args : Array Value} {Ψ : Value → Prop} (h : Ret n args Ψ) {wb : World} (x : Later wb) {K : Ending → World → Prop} (hK : ∀ v (y : Later wb), Ψ v → K (.returned v) y.at_) : Calls Oaag.prog n args x.at_ K :=
  h x.at_ K fun v w' hv hb => hK v ⟨w', x.ok.trans (hb.mono x.ok.size)⟩ hv

theorem Ret.of {n : Nat} {args : Array Value} {v : Value} (h : ∀ w, Calls Oaag.prog n args w fun e w' => e = .returned v ∧ Below w.heap.size w w') : Ret n args (fun u => u = v) :=
  fun w K hK => (h w).mono fun e w' ⟨he, hb⟩ => by subst he; exact hK _ _ rfl hb

theorem Ret.mono {n : Nat} {args : Array Value} {Ψ Ψ' : Value → Prop} (h : Ret n args Ψ) (hi : ∀ v, Ψ v → Ψ' v) : Ret n args Ψ' :=
  fun w K hK => h w K fun v w' hv hb => hK v w' (hi v hv) hb

theorem Ret.to {n : Nat} {args : Array Value} {Ψ : Value → Prop} (h : Ret n args Ψ) (w : World) : Calls Oaag.prog n args w fun e w' => ∃ v, e = .returned v ∧ Ψ v ∧ Below w.heap.size w w' :=
  h w _ fun v w' hv hb => ⟨v, rfl, hv, hb⟩

theorem Later.now (wb : World) : ∃ x : Later wb, wb = x.at_ := ⟨⟨wb, Below.refl _ _⟩, rfl⟩
theorem Later.cell {wb : World} {b : Nat} {vs : Array Value} {t : TypeId} {f : Nat × Nat} (h : wb.heap[b]? = some (.cells vs t f)) (i : Nat) (v : Value) (hv : vs[i]? = some v) (x : Later wb) : x.at_.cell? ⟨b, i, none⟩ = some v := by
  have hlt : b < wb.heap.size := (Array.getElem?_eq_some_iff.1 h).1
  rw [x.ok.cell hlt, cell_of_row _ _ _ _ _ _ h]
  simpa using hv
theorem Later.frz {wb : World} {b : Nat} {vs : Array Value} {t : TypeId} (h : wb.heap[b]? = some (.cells vs t (0, 0))) (i : Nat) (x : Later wb) : x.at_.frozen? ⟨b, i, none⟩ = false := by
  have hlt : b < wb.heap.size := (Array.getElem?_eq_some_iff.1 h).1
  have h' : x.at_.heap[b]? = some (.cells vs t (0, 0)) := by rw [x.ok.block b hlt]; exact h
  exact frozen_of_row _ _ _ _ _ h'
theorem Later.row {wb : World} {b : Nat} {o : Obj} (h : wb.heap[b]? = some o) (x : Later wb) : x.at_.heap[b]? = some o := by
  have hlt : b < wb.heap.size := (Array.getElem?_eq_some_iff.1 h).1
  rw [x.ok.block b hlt]; exact h

theorem bodyPost_box {P : Program} {fn : Func} {R : Ending → World → Prop} {a : Act} {w : World} (hd : a.defers = []) (h : ∀ r, (results fn a.tmps).run P w = r → ∃ v, r = .ok v w ∧ R (.returned v) w) : bodyPost P fn R .ret a w := by
  obtain ⟨v, hv, hR⟩ := h _ rfl
  exact bodyPost_ret hv hd hR

end Go.Proofs.YgcoaaGreat.NatW

namespace Go.Lax
open Go.RowKit Go.Mix
open Go.Proofs.YgcoaaGreat.NatW (Later Ret)

/-- The facts of the calls, by a list. -/
def isAt (l : List (Nat × (Value → Prop))) (k : Nat) : Bool := (l.lookup k).isSome
def psi (l : List (Nat × (Value → Prop))) (k : Nat) (v : Value) : Prop := match l.lookup k with | some φ => φ v | none => True
def tht (_ : Nat) (_ : Value) (_ : World) : Prop := True
def non (_ : Nat) : Bool := false

section
variable {P : Program} {Q : Exit → Act → World → Prop} {a0 : Act} {wb : World}

theorem region_calls {id : Nat} {l : List Oper} (x : Later wb) (n0 f : Nat) (S : List (Nat × (Value → Prop))) (hm : P.follows .mixedOrders = true) (hB : shapeB l.toArray n0 f = true)
    (hin : ((List.range n0).all fun i => match dst l.toArray i with | some t => decide (t < a0.tmps.size) | none => true) = true)
    (hex : ∀ p ∈ S, ∃ v, p.2 v)
    (h : Walk P l.toArray Q (isAt S) (psi S) tht non wb n0 l 0 a0 [] []) : (Code.region id l.toArray true).wp P Q a0 x.at_ := by
  refine wp_region_lax_at n0 f (isAt S) (psi S) tht non hm hB hin x.ok (fun _ _ _ _ _ _ _ _ => trivial) ?_ (fun _ h => by cases h) h
  intro k hk hK
  unfold isAt at hK
  unfold psi
  cases hl : S.lookup k with
  | none => rw [hl] at hK; cases hK
  | some φ =>
    have hmem : (k, φ) ∈ S := by
      clear hK h hB hin
      induction S with
      | nil => simp at hl
      | cons p S ih =>
        obtain ⟨j, ψ⟩ := p
        rw [List.lookup_cons] at hl
        split at hl
        · rename_i hkj
          have : k = j := by simpa using hkj
          simp at hl
          subst this; subst hl; simp
        · exact List.mem_cons_of_mem _ (ih (fun p hp => hex p (List.mem_cons_of_mem _ hp)) hl)
    exact hex _ hmem

theorem region_reads {id : Nat} {l : List Oper} {a : Act} (x : Later wb) (hm : P.follows .mixedOrders = true) (hB : Region.lexB .any l.toArray = true)
    (h : wpQuiet P l.toArray (fun w' => ∃ x : Later wb, w' = x.at_) (fun a' => ∀ y : Later wb, Q .normal a' y.at_) l a) : (Code.region id l.toArray true).wp P Q a x.at_ :=
  wp_region_quiet (C := fun w' => ∃ x : Later wb, w' = x.at_) hm hB ⟨⟨_, x.ok.drew⟩, rfl⟩ (by
    have e : (fun a' => ∀ w', (∃ x : Later wb, w' = x.at_) → Q .normal a' w') = (fun a' => ∀ y : Later wb, Q .normal a' y.at_) := by
      funext a'
      apply propext
      exact ⟨fun h y => h _ ⟨y, rfl⟩, fun h w' ⟨y, hy⟩ => by rw [hy]; exact h y⟩
    rw [← e] at h
    simpa using h)

theorem call_at {ops : Array Oper} {S : List (Nat × (Value → Prop))} {m k : Nat} {o : Oper} {rest : List Oper} {a : Act} {D : List Value} {Γ : List (Nat × (World → Prop))} (hk : isAt S k = true)
    (h2 : ∀ v, psi S k v → wpQuiet P ops (fun _ => True) (fun a__ => Walk P ops Q (isAt S) (psi S) tht non wb m rest (k + 1) a__ ((k, tht k v) :: Γ) D) [{ dst := o.dst, op := .move (.const v), type := 0, pos := "", after := #[], guard := none }] a)
    (h1 : ∀ (y : Later wb) (K : Act → World → Prop), (∀ v w', psi S k v → Below y.at_.heap.size y.at_ w' → K (a.put o.dst v) w') → wpList P ops (fun e a' w' => e = .normal ∧ K a' w') [o] a y.at_) : Walk P ops Q (isAt S) (psi S) tht non wb (m + 1) (o :: rest) k a Γ D := by
  refine walk_call hk (fun w hb _ => ?_) (fun v hv => Go.Lax.mv_on (h2 v hv))
  exact h1 ⟨w, hb⟩ (fun a' w' => ∃ v, a' = a.put o.dst v ∧ fact (psi S) tht non k w v w' ∧ Below w.heap.size w w') fun v w' hv hb' => ⟨v, rfl, ⟨hv, trivial, fun h => by cases h⟩, hb'⟩

theorem end_at {ops : Array Oper} {K : Nat → Bool} {Ψ : Nat → Value → Prop} {Θ : Nat → Value → World → Prop} {mk : Nat → Bool} {k : Nat} {rest : List Oper} {a : Act} {Γ : List (Nat × (World → Prop))} {D : List Value}
    (h : ∀ y : Later wb, wpList P ops Q rest a y.at_) : Walk P ops Q K Ψ Θ mk wb 0 rest k a Γ D := fun w hb _ _ => h ⟨w, hb⟩
end













end Go.Lax

namespace Go.Proofs.YgcoaaGreat.NatW
attribute [local go_sem] Go.Instr.field Go.asAgg
open Go.RowKit
/-- A number that is to become a variable. -/
def frzI (x : Int) : Int := x
/-- A Bool that is to become a variable. -/
def frzB (x : Bool) : Bool := x
theorem frz_ite (p : Prop) [Decidable p] (a b : Int) : ite p a b = frzI (ite p a b) := rfl
theorem frz_dec (p : Prop) [Decidable p] : Value.bool (decide p) = Value.bool (frzB (decide p)) := rfl
theorem frz_beq {α : Type} [BEq α] (a b : α) : Value.bool (a == b) = Value.bool (frzB (a == b)) := rfl
theorem frz_not (a : Bool) : Value.bool (!a) = Value.bool (frzB (!a)) := rfl
theorem frz_and (a b : Bool) : Value.bool (a && b) = Value.bool (frzB (a && b)) := rfl
theorem frz_or (a b : Bool) : Value.bool (a || b) = Value.bool (frzB (a || b)) := rfl
theorem at_later (n : Nat) {args : Array Value} {wb : World} {x : Later wb} {K : Ending → World → Prop} (h : Calls Oaag.prog n args x.at_ K) : Calls Oaag.prog n args x.at_ K := h
theorem at_latera (n : Nat) {args : Array Value} {wb : World} {x : Later wb} {o : Obj} {K : Ending → World → Prop} (h : Calls Oaag.prog n args (x.at_.alloc o) K) : Calls Oaag.prog n args (x.at_.alloc o) K := h
section
variable {P : Program} {Q : Exit → Act → World → Prop} {a : Act} {w : World} {c : Code}
theorem at_reg (n : Nat) {ops : Array Oper} {b : Bool} (h : (Code.region n ops b).wp P Q a w) : (Code.region n ops b).wp P Q a w := h
theorem at_setw {p : Addr} {v : Value} (h : c.wp P Q a (w.setCell p v)) : c.wp P Q a (w.setCell p v) := h
theorem at_setc {n : Nat} {args : Array Value} {K : Ending → World → Prop} {p : Addr} {v : Value} (h : Calls P n args (w.setCell p v) K) : Calls P n args (w.setCell p v) K := h
theorem at_alw {wb : World} {x : Later wb} {o : Obj} (h : c.wp P Q a (x.at_.alloc o)) : c.wp P Q a (x.at_.alloc o) := h
theorem at_alc {n : Nat} {args : Array Value} {K : Ending → World → Prop} {wb : World} {x : Later wb} {o : Obj} (h : Calls P n args (x.at_.alloc o) K) : Calls P n args (x.at_.alloc o) K := h
theorem at_setb {B : Nat} {w1 : World} {p : Addr} {v : Value} (h : Below B w1 (w.setCell p v)) : Below B w1 (w.setCell p v) := h
theorem at_load (t : TypeId) {ops : Array Oper} {rest : List Oper} {d : Option Tmp} {x : Operand} {ty : TypeId} {po : String} {af : Array Edge} {g : Option (Nat × Bool)} (h : wpList P ops Q ({ dst := d, op := .load t x, type := ty, pos := po, after := af, guard := g } :: rest) a w) : wpList P ops Q ({ dst := d, op := .load t x, type := ty, pos := po, after := af, guard := g } :: rest) a w := h
theorem at_store (t : TypeId) {ops : Array Oper} {rest : List Oper} {d : Option Tmp} {x y : Operand} {ty : TypeId} {po : String} {af : Array Edge} {g : Option (Nat × Bool)} (h : wpList P ops Q ({ dst := d, op := .store t x y, type := ty, pos := po, after := af, guard := g } :: rest) a w) : wpList P ops Q ({ dst := d, op := .store t x y, type := ty, pos := po, after := af, guard := g } :: rest) a w := h
theorem gen_calls {n : Nat} {args : Array Value} {K : Ending → World → Prop} (h : ∀ W, w = W → Calls P n args W K) : Calls P n args w K := h w rfl
theorem gen_wp (h : ∀ W, w = W → c.wp P Q a W) : c.wp P Q a w := h w rfl
theorem gen_list {ops : Array Oper} {l : List Oper} (h : ∀ W, w = W → wpList P ops Q l a W) : wpList P ops Q l a w := h w rfl
theorem gen_body {fn : Func} {K : Ending → World → Prop} {e : Exit} (h : ∀ W, w = W → bodyPost P fn K e a W) : bodyPost P fn K e a w := h w rfl
end
end Go.Proofs.YgcoaaGreat.NatW
