/-
  Package dec: Scan, exactly: what it computes, and the memory it works in.
-/
import Derived.Test.YgcoaaGreatAppY
import Derived.Test.YgcoaaGreatDmB
import Derived.Test.YgcoaaGreatDecC
import Derived.Laws.RangeAny
set_option linter.unusedVariables false
set_option linter.unusedSimpArgs false
set_option maxRecDepth 20000
namespace Go

theorem run_next_k {P : Program} (w : World) (s : ByteArray) (pos k : Nat) (ty : TypeId) (hk : w.heap[k]? = some (.stringIter s pos)) (h : pos < s.size) :
    (Instr.next (.pointer (some ⟨k, 0, none⟩)) true ty).run P w = .ok (.tuple #[.bool true, .int .i64 pos, .int .i32 (Utf8.decode s pos).1]) { w with heap := w.heap.setIfInBounds k (.stringIter s (pos + (Utf8.decode s pos).2)) } := by
  simp only [Instr.next, getObj, setObj, Sem.run_bind, Sem.run, hk, Result.andThen, h, if_true]
  simp [goInt]
theorem run_next_k_end {P : Program} (w : World) (s : ByteArray) (pos k : Nat) (ty : TypeId) (hk : w.heap[k]? = some (.stringIter s pos)) (h : ¬ pos < s.size) :
    (Instr.next (.pointer (some ⟨k, 0, none⟩)) true ty).run P w = .ok (.tuple #[.bool false]) w := by
  simp [Instr.next, getObj, Sem.run, hk, h]
theorem decode_pos (s : ByteArray) (pos : Nat) (h : pos < s.size) : 1 ≤ (Utf8.decode s pos).2 := by
  by_cases ha : (s[pos]'h).toNat < 128
  · rw [decode_ascii s pos h ha]; exact Nat.le_refl _
  · exact (decode_high s pos h (by omega)).2
end Go
namespace Go.Proofs.YgcoaaGreat.NatW
open Go.RowKit
open Go.Proofs.YgcoaaGreat.Det

/-- What Scan has gathered. -/
structure DS where
  neg : Bool
  eneg : Bool
  dig : List Int
  frac : Nat
  exp : Nat
  st : Nat
  wk : Nat
  at_ : Nat
def wdOf : Nat → ByteArray
  | 0 => ⟨#[]⟩
  | 1 => ⟨#[105, 110, 102, 105, 110, 105, 116, 121]⟩
  | _ => ⟨#[110, 97, 110]⟩
theorem wdOf_size (k : Nat) : (wdOf k).size ≤ 8 := by
  match k with
  | 0 => decide
  | 1 => decide
  | k + 2 => exact (by decide : (ByteArray.mk #[110, 97, 110]).size ≤ 8)

/-- One rune more; q is r|0x20. -/
def dnxtQ (s : DS) (r q : Int) : Option DS :=
  if 48 ≤ r ∧ r ≤ 57 then
    match s.st with
    | 6 => some { s with exp := (min (10 * (s.exp : Int) + (r - 48)) 1000000).toNat, st := 8 }
    | 7 => some { s with exp := (min (10 * (s.exp : Int) + (r - 48)) 1000000).toNat, st := 8 }
    | 8 => some { s with exp := (min (10 * (s.exp : Int) + (r - 48)) 1000000).toNat, st := 8 }
    | 3 => some { s with frac := s.frac + 1, st := 5, dig := s.dig ++ [r] }
    | 4 => some { s with frac := s.frac + 1, st := 5, dig := s.dig ++ [r] }
    | 5 => some { s with frac := s.frac + 1, st := 5, dig := s.dig ++ [r] }
    | 0 => some { s with st := 2, dig := s.dig ++ [r] }
    | 1 => some { s with st := 2, dig := s.dig ++ [r] }
    | 2 => some { s with st := 2, dig := s.dig ++ [r] }
    | _ => none
  else
    match s.st with
    | 0 => bif r == 43 then some { s with neg := false, st := 1 } else bif r == 45 then some { s with neg := true, st := 1 } else bif r == 46 then some { s with st := 4 } else bif q == 105 then some { s with st := 9, wk := 1, at_ := 1 } else bif q == 110 then some { s with st := 9, wk := 2, at_ := 1 } else none
    | 1 => bif r == 46 then some { s with st := 4 } else bif q == 105 then some { s with st := 9, wk := 1, at_ := 1 } else bif q == 110 then some { s with st := 9, wk := 2, at_ := 1 } else none
    | 2 => bif r == 46 then some { s with st := 3 } else bif q == 101 then some { s with st := 6 } else none
    | 3 => bif q == 101 then some { s with st := 6 } else none
    | 5 => bif q == 101 then some { s with st := 6 } else none
    | 6 => bif r == 43 then some { s with eneg := false, st := 7 } else bif r == 45 then some { s with eneg := true, st := 7 } else none
    | 9 => bif decide (s.at_ < (wdOf s.wk).size) && q == (byt (wdOf s.wk) s.at_ : Int) then some { s with at_ := s.at_ + 1 } else none
    | _ => none
def dnxt (s : DS) (r : Int) : Option DS := dnxtQ s r (bits .or .i32 r 32)

/-- What Make answers. -/
structure MK where
  neg : Bool
  dig : ByteArray
  exp : Int
  ok : Bool
def MK.val (m : MK) : Value := .tuple #[.agg #[.bool m.neg, .string m.dig, .int .i16 m.exp], .bool m.ok]
def MK.scan (m : MK) : Value := if m.ok then scanV 0 m.neg m.dig m.exp 0 0 else scanV 4 false ⟨#[]⟩ 0 0 0
theorem make_x (n : Bool) (d : ByteArray) (e : Int) (h1 : -1000000000 ≤ e) (h2 : e ≤ 1000000000) (hd : d.size ≤ 1000000) : ∃ m : MK, Canon m.dig m.exp ∧ DF 35 #[.bool n, .string d, .int .i64 e] m.val := by
  obtain ⟨_, ⟨n', d', e', ok, rfl, hc⟩, hD⟩ := detQ [.v (.bool n), .v (.string d), .v (.int .i64 e)] 3 (by decide) rfl (by kernel_rfl) (by kernel_rfl) (by simp [Arg.ok, selfV, selfC]) (make_ret n d e h1 h2 hd) (by rintro _ ⟨_, _, _, _, rfl, _⟩; rfl)
  exact ⟨⟨n', d', e', ok⟩, hc, fun w tb K ho hK => hD w tb K ho hK⟩
/-- Make as a plain function. -/
def Mk (mk : Bool → ByteArray → Int → MK) : Prop := ∀ n d e, -1000000000 ≤ e → e ≤ 1000000000 → d.size ≤ 1000000 → Canon (mk n d e).dig (mk n d e).exp ∧ DF 35 #[.bool n, .string d, .int .i64 e] (mk n d e).val
theorem mk_ex : ∃ mk, Mk mk := by
  have h : ∀ x : Bool × ByteArray × Int, ∃ m : MK, -1000000000 ≤ x.2.2 → x.2.2 ≤ 1000000000 → x.2.1.size ≤ 1000000 → Canon m.dig m.exp ∧ DF 35 #[.bool x.1, .string x.2.1, .int .i64 x.2.2] m.val := by
    rintro ⟨n, d, e⟩
    by_cases hb : -1000000000 ≤ e ∧ e ≤ 1000000000 ∧ d.size ≤ 1000000
    · obtain ⟨m, hm⟩ := make_x n d e hb.1 hb.2.1 hb.2.2
      exact ⟨m, fun _ _ _ => hm⟩
    · exact ⟨⟨false, ⟨#[]⟩, 0, false⟩, fun a b c => absurd ⟨a, b, c⟩ hb⟩
  obtain ⟨f, hf⟩ := Classical.skolem.1 h
  exact ⟨fun n d e => f (n, d, e), fun n d e => hf (n, d, e)⟩

/-- What finish answers at the end of a text of n bytes. -/
def finV (mk : Bool → ByteArray → Int → MK) (s : DS) (n : Nat) : Value :=
  match s.st with
  | 2 => (mk s.neg (strOfNums s.dig) ((if s.eneg then -(s.exp : Int) else s.exp) - s.frac)).scan
  | 3 => (mk s.neg (strOfNums s.dig) ((if s.eneg then -(s.exp : Int) else s.exp) - s.frac)).scan
  | 5 => (mk s.neg (strOfNums s.dig) ((if s.eneg then -(s.exp : Int) else s.exp) - s.frac)).scan
  | 8 => (mk s.neg (strOfNums s.dig) ((if s.eneg then -(s.exp : Int) else s.exp) - s.frac)).scan
  | 9 => match s.wk with
    | 0 => scanV 3 false ⟨#[]⟩ 0 n (-1)
    | 1 => bif s.at_ == 3 || s.at_ == 8 then scanV 1 s.neg ⟨#[]⟩ 0 0 0 else scanV 3 false ⟨#[]⟩ 0 n (-1)
    | _ => bif s.at_ == 3 then scanV 2 false ⟨#[]⟩ 0 0 0 else scanV 3 false ⟨#[]⟩ 0 n (-1)
  | _ => scanV 3 false ⟨#[]⟩ 0 n (-1)

/-- What Scan answers from here on. -/
def scanF (mk : Bool → ByteArray → Int → MK) (text : ByteArray) : Nat → Nat → DS → Value
  | 0, _, s => finV mk s text.size
  | n + 1, pos, s => if pos < text.size then (match dnxt s (Utf8.decode text pos).1 with
      | some s' => scanF mk text n (pos + (Utf8.decode text pos).2) s'
      | none => scanV 3 false ⟨#[]⟩ 0 pos (Utf8.decode text pos).1) else finV mk s text.size

/-- The memory. -/
structure SW (tb : Nat) (w : World) (B G I : Nat) (text : ByteArray) (pos : Nat) (s : DS) (v : Value) (W : World) : Prop where
  on : On tb W
  below : Below w.heap.size w W
  lt : w.heap.size ≤ B ∧ B < G ∧ G < I ∧ I < W.heap.size
  bx : W.heap[B]? = some (.cells #[.int .u8 0, .bool false, .string ⟨#[]⟩, .int .i16 0, .int .i64 0, .int .i32 0] 244 (0, 0))
  ga : W.heap[G]? = some (.cells #[.bool s.neg, .bool s.eneg, v, .int .i64 s.frac, .int .i64 s.exp] 343 (0, 0))
  it : W.heap[I]? = some (.stringIter text pos)
  row : W.rowX (B + 1) (fun k => k = G ∨ k = I) v (s.dig.map (.int .u8))

theorem SW.next {tb : Nat} {w : World} {B G I : Nat} {text : ByteArray} {pos : Nat} {s : DS} {v : Value} {W : World} (h : SW tb w B G I text pos s v W) (ht : tb < w.heap.size) (p : Nat) :
    SW tb w B G I text p s v { W with heap := W.heap.setIfInBounds I (.stringIter text p) } := by
  obtain ⟨h1, h2, h3, h4⟩ := h.lt
  have hne : ∀ k, k ≠ I → (W.heap.setIfInBounds I (.stringIter text p))[k]? = W.heap[k]? := fun k hk => by rw [Array.getElem?_setIfInBounds_ne (by omega)]
  refine ⟨⟨h.on.pos, ?_⟩, ⟨h.below.os, h.below.tape, h.below.output, ?_, ?_⟩, ⟨h1, h2, h3, ?_⟩, ?_, ?_, ?_, ?_⟩
  · rw [hne _ (by omega)]; exact h.on.row
  · simp only [Array.size_setIfInBounds]; exact h.below.size
  · intro k hk; rw [hne _ (by omega)]; exact h.below.block k hk
  · simp only [Array.size_setIfInBounds]; exact h4
  · rw [hne _ (by omega)]; exact h.bx
  · rw [hne _ (by omega)]; exact h.ga
  · simp only [Array.getElem?_setIfInBounds_self]; simp [h4]
  · rcases h.row with hn | ⟨g, cap, cur, tt, e1, e2, e3, e4⟩
    · exact .inl hn
    · exact .inr ⟨g, cap, cur, tt, e1, e2, by rw [hne _ (fun e => e2.2 (.inr e))]; exact e3, e4⟩
theorem SW.set {tb : Nat} {w : World} {B G I : Nat} {text : ByteArray} {pos : Nat} {s : DS} {v : Value} {W : World} (h : SW tb w B G I text pos s v W) (ht : tb < w.heap.size) (i : Nat) (x : Value) (s' : DS) (hd : s'.dig = s.dig)
    (hc : (#[.bool s.neg, .bool s.eneg, v, .int .i64 s.frac, .int .i64 s.exp] : Array Value).setIfInBounds i x = #[.bool s'.neg, .bool s'.eneg, v, .int .i64 s'.frac, .int .i64 s'.exp]) : SW tb w B G I text pos s' v (W.setCell ⟨G, i, none⟩ x) := by
  obtain ⟨h1, h2, h3, h4⟩ := h.lt
  have hne : ∀ k, k ≠ G → (W.setCell ⟨G, i, none⟩ x).heap[k]? = W.heap[k]? := fun k hk => heap_setCell_other W _ k x hk
  refine ⟨⟨h.on.pos, ?_⟩, below_store h.below (by omega) _, ⟨h1, h2, h3, by simpa using h4⟩, ?_, ?_, ?_, ?_⟩
  · rw [hne _ (by omega)]; exact h.on.row
  · rw [hne _ (by omega)]; exact h.bx
  · rw [heap_setCell_same W G i _ _ x h.ga, hc]
  · rw [hne _ (by omega)]; exact h.it
  · rw [hd]; exact rowX_other h.row x (.inr (.inl rfl))
theorem SW.app {tb : Nat} {w : World} {B G I : Nat} {text : ByteArray} {pos : Nat} {s : DS} {v v' : Value} {W W' : World} (h : SW tb w B G I text pos s v W) (ht : tb < w.heap.size) (r : Int) (hr : W'.rowX (B + 1) (fun k => k = G ∨ k = I) v' (s.dig.map (.int .u8) ++ [.int .u8 r])) (ha : Apart (B + 1) (fun k => k = G ∨ k = I) W W') (s' : DS) (hd : s'.dig = s.dig ++ [r])
    (hc : s'.neg = s.neg ∧ s'.eneg = s.eneg ∧ s'.frac = s.frac ∧ s'.exp = s.exp) : SW tb w B G I text pos s' v' (W'.setCell ⟨G, 2, none⟩ v') := by
  obtain ⟨h1, h2, h3, h4⟩ := h.lt
  obtain ⟨q1, q2, q3, q4⟩ := hc
  have hlt := h.on.lt
  have hga : W'.heap[G]? = some (.cells #[.bool s.neg, .bool s.eneg, v, .int .i64 s.frac, .int .i64 s.exp] 343 (0, 0)) := by rw [ha.keep G (.inl rfl) (by omega)]; exact h.ga
  have hne : ∀ k, k ≠ G → (W'.setCell ⟨G, 2, none⟩ v').heap[k]? = W'.heap[k]? := fun k hk => heap_setCell_other W' _ k v' hk
  have hbw : Below w.heap.size w W' := h.below.trans (ha.below.mono (by omega))
  refine ⟨⟨h.on.pos, ?_⟩, below_store hbw (by omega) _, ⟨h1, h2, h3, ?_⟩, ?_, ?_, ?_, ?_⟩
  · rw [hne _ (by omega), ha.below.block tb (by omega)]; exact h.on.row
  · have := ha.below.size
    simp only [World.size_setCell]
    omega
  · rw [hne _ (by omega), ha.below.block B (by omega)]; exact h.bx
  · rw [heap_setCell_same W' G 2 _ _ v' hga, q1, q2, q3, q4]; rfl
  · rw [hne _ (by omega), ha.keep I (.inr rfl) (by omega)]; exact h.it
  · rw [hd, List.map_append]
    exact rowX_other hr v' (.inr (.inl rfl))
end Go.Proofs.YgcoaaGreat.NatW
