/-
  Two runs of one text: which value of the one is which of the other.
-/
import Derived.Orders
import Derived.Laws.Sem
set_option linter.unusedVariables false
namespace Go.Tw

/-- Which block of the one memory is which of the other. -/
abbrev Rel := Nat → Nat → Prop

def adr (β : Rel) (a b : Addr) : Prop := β a.block b.block ∧ a.off = b.off ∧ a.spot = b.spot ∧ 0 < a.block ∧ 0 < b.block

def oadr (β : Rel) : Option Addr → Option Addr → Prop
  | none, none => True
  | some a, some b => adr β a b
  | _, _ => False

/-- A value that one cell holds. -/
def cel (β : Rel) : Value → Value → Prop
  | .bool x, .bool y => x = y
  | .int k x, .int l y => k = l ∧ x = y
  | .string s, .string t => s = t
  | .pointer a, .pointer b => oadr β a b
  | .slice a n c, .slice b m d => oadr β a b ∧ n = m ∧ c = d
  | .func f a b, .func g c d => f = g ∧ a = #[] ∧ b = #[] ∧ c = #[] ∧ d = #[]
  | .tuple a, .tuple b => a = #[] ∧ b = #[]
  | _, _ => False

def arr (R : Value → Value → Prop) (xs ys : Array Value) : Prop := xs.size = ys.size ∧ ∀ (i : Nat) x y, xs[i]? = some x → ys[i]? = some y → R x y

def one (β : Rel) : Value → Value → Prop
  | .agg xs, .agg ys => arr (cel β) xs ys
  | a, b => cel β a b

def val (β : Rel) : Value → Value → Prop
  | .tuple xs, .tuple ys => arr (one β) xs ys
  | a, b => one β a b

def obj (β : Rel) : Obj → Obj → Prop
  | .cells xs e f, .cells ys e' f' => arr (cel β) xs ys ∧ e = e' ∧ f = f'
  | .stringIter s p, .stringIter t q => s = t ∧ p = q
  | .number a l, .number b m => adr β a b ∧ l = m
  | _, _ => False

structure W (β : Rel) (w w' : World) : Prop where
  blk : ∀ b c, β b c → ∃ x y, w.heap[b]? = some x ∧ w'.heap[c]? = some y ∧ obj β x y
  fn : ∀ b c c', β b c → β b c' → c = c'
  inj : ∀ b b' c, β b c → β b' c → b = b'
  pos : 0 < w.heap.size ∧ 0 < w'.heap.size

/-- What no operation of ours turns. -/
def Same (w w' w1 w1' : World) : Prop := w1.tape = w.tape ∧ w1'.tape = w'.tape ∧ w1'.os = w'.os ∧ w1'.output = w'.output

structure Ext (β β' : Rel) (w w' w1 w1' : World) : Prop where
  le : ∀ b c, β b c → β' b c
  new : ∀ b c, β' b c → β b c ∨ (w.heap.size ≤ b ∧ w'.heap.size ≤ c)
  szA : w.heap.size ≤ w1.heap.size
  szB : w'.heap.size ≤ w1'.heap.size
  frA : ∀ b, b < w.heap.size → (∀ c, ¬ β b c) → w1.heap[b]? = w.heap[b]?
  frB : ∀ c, c < w'.heap.size → (∀ b, ¬ β b c) → w1'.heap[c]? = w'.heap[c]?
  sys : Same w w' w1 w1'

/-- The ways to stop that an operation of ours has. -/
def okHalt : Halt → Bool
  | .unsupported (.initOrder _) => false
  | .panic _ | .unsupported _ | .stuck _ => true
  | _ => false

/-- Two trees, alike; 'st': whether they may store. -/
def SR (st : Bool) (P : Program) {α : Type} (R : Rel → α → α → Prop) : Rel → Sem α → Sem α → Prop
  | β, .pure a, .pure b => R β a b
  | β, .load m a k, .load m' a' k' => m = m' ∧ adr β a a' ∧ ∀ v v', cel β v v' → SR st P R β (k v) (k' v')
  | _, .store _ _ (.agg _) _, _ => True
  | _, .store _ _ (.tuple _) _, _ => True
  | β, .store _ a v k, .store _ a' v' k' => st = true ∧ adr β a a' ∧ cel β v v' ∧ SR st P R β k k'
  | β, .new o k, .new o' k' => obj β o o' ∧ ∀ (β' : Rel) r r', (∀ b c, β b c → β' b c) → β' r r' → 0 < r ∧ 0 < r' → SR st P R β' (k r) (k' r')
  | β, .shape r k, .shape r' k' => β r r' ∧ ∀ s, SR st P R β (k s) (k' s)
  | β, .freeze a n k, .freeze a' n' k' => st = true ∧ adr β a a' ∧ n = n' ∧ SR st P R β k k'
  | β, .frozen a k, .frozen a' k' => adr β a a' ∧ ∀ b, SR st P R β (k b) (k' b)
  | β, .getObj r k, .getObj r' k' => β r r' ∧ ∀ o o', obj β o o' → SR st P R β (k o) (k' o')
  | β, .setObj r o k, .setObj r' o' k' => st = true ∧ β r r' ∧ obj β o o' ∧ SR st P R β k k'
  | β, .choose q k, .choose q' k' => q.forced = q'.forced ∧ ∀ n n', SR st P R β (k n) (k' n')
  | β, .program k, .program k' => SR st P R β (k P) (k' P)
  | β, .mark _ k, .mark _ k' => SR st P R β k k'
  | _, .halt h, _ => okHalt h = true
  | _, _, _ => False

end Go.Tw
