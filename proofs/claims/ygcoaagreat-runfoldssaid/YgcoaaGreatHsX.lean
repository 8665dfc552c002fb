/-
  Package hexa: Scan, exactly: what it computes, and the memory.
-/
import Derived.Test.YgcoaaGreatScZ
import Derived.Test.YgcoaaGreatHxA
set_option linter.unusedVariables false
set_option linter.unusedSimpArgs false
set_option maxRecDepth 20000
namespace Go.Proofs.YgcoaaGreat.NatW
open Go.RowKit
open Go.Proofs.YgcoaaGreat.Det
attribute [local go_sem] Go.Instr.field Go.asAgg

structure HS where
  neg : Bool
  eneg : Bool
  dig : List Int
  frac : Nat
  exp : Nat
  st : Nat

def hexp (s : HS) (r : Int) : Option HS := some { s with exp := (min (10 * (s.exp : Int) + (r - 48)) 1000000).toNat, st := 10 }
/-- One rune more; q is r|0x20, h whether r is a hexadecimal digit. -/
def hnxtQ (s : HS) (r q h : Int) : Option HS :=
  bif r == 43 then (match s.st with
    | 0 => some { s with neg := false, st := 1 }
    | 8 => some { s with eneg := false, st := 9 }
    | _ => none)
  else bif r == 45 then (match s.st with
    | 0 => some { s with neg := true, st := 1 }
    | 8 => some { s with eneg := true, st := 9 }
    | _ => none)
  else match s.st with
    | 0 => bif r == 48 then some { s with st := 2 } else none
    | 1 => bif r == 48 then some { s with st := 2 } else none
    | 2 => bif q == 120 then some { s with st := 3 } else none
    | 3 => if 0 ≤ h then some { s with dig := s.dig ++ [r], st := 4 } else bif r == 46 then some { s with st := 6 } else none
    | 4 => if 0 ≤ h then some { s with dig := s.dig ++ [r], st := 4 } else bif r == 46 then some { s with st := 5 } else bif q == 112 then some { s with st := 8 } else none
    | 5 => if 0 ≤ h then some { s with dig := s.dig ++ [r], st := 7, frac := s.frac + 1 } else bif q == 112 then some { s with st := 8 } else none
    | 6 => if 0 ≤ h then some { s with dig := s.dig ++ [r], st := 7, frac := s.frac + 1 } else none
    | 7 => if 0 ≤ h then some { s with dig := s.dig ++ [r], st := 7, frac := s.frac + 1 } else bif q == 112 then some { s with st := 8 } else none
    | 8 => if 48 ≤ r ∧ r ≤ 57 then hexp s r else none
    | 9 => if 48 ≤ r ∧ r ≤ 57 then hexp s r else none
    | 10 => if 48 ≤ r ∧ r ≤ 57 then hexp s r else none
    | _ => none
def hnxt (s : HS) (r : Int) : Option HS := hnxtQ s r (bits .or .i32 r 32) (hexD r)
theorem hexD_le (r : Int) (h : 0 ≤ hexD r) : 48 ≤ r ∧ r ≤ 102 := by
  unfold hexD at h
  split at h
  · omega
  split at h
  · omega
  split at h <;> omega

theorem hmake_x (n : Bool) (d : ByteArray) (e : Int) (h1 : -1000000000 ≤ e) (h2 : e ≤ 1000000000) (hd : d.size ≤ 1000000) : ∃ m : MK, (m.dig.size ≤ 800 ∧ -16000 ≤ m.exp ∧ m.exp ≤ 16000) ∧ DF 371 #[.bool n, .string d, .int .i64 e] m.val := by
  obtain ⟨_, ⟨n', d', e', ok, rfl, hc⟩, hD⟩ := detQ [.v (.bool n), .v (.string d), .v (.int .i64 e)] 3 (by decide) rfl (by kernel_rfl) (by kernel_rfl) (by simp [Arg.ok, selfV, selfC]) (hmake_ret n d e h1 h2 hd) (by rintro _ ⟨_, _, _, _, rfl, _⟩; rfl)
  exact ⟨⟨n', d', e', ok⟩, hc, fun w tb K ho hK => hD w tb K ho hK⟩
/-- Make as a plain function. -/
structure Hk (mk : Bool → ByteArray → Int → MK) : Prop where
  run : ∀ n d e, -1000000000 ≤ e → e ≤ 1000000000 → d.size ≤ 1000000 → DF 371 #[.bool n, .string d, .int .i64 e] (mk n d e).val
  rng : ∀ n d e, (mk n d e).dig.size ≤ 800 ∧ -16000 ≤ (mk n d e).exp ∧ (mk n d e).exp ≤ 16000
theorem hk_ex : ∃ mk, Hk mk := by
  have h : ∀ x : Bool × ByteArray × Int, ∃ m : MK, (m.dig.size ≤ 800 ∧ -16000 ≤ m.exp ∧ m.exp ≤ 16000) ∧ (-1000000000 ≤ x.2.2 → x.2.2 ≤ 1000000000 → x.2.1.size ≤ 1000000 → DF 371 #[.bool x.1, .string x.2.1, .int .i64 x.2.2] m.val) := by
    rintro ⟨n, d, e⟩
    by_cases hb : -1000000000 ≤ e ∧ e ≤ 1000000000 ∧ d.size ≤ 1000000
    · obtain ⟨m, h1, hm⟩ := hmake_x n d e hb.1 hb.2.1 hb.2.2
      exact ⟨m, h1, fun _ _ _ => hm⟩
    · exact ⟨⟨false, ⟨#[]⟩, 0, false⟩, ⟨by decide, by decide, by decide⟩, fun a b c => absurd ⟨a, b, c⟩ hb⟩
  obtain ⟨f, hf⟩ := Classical.skolem.1 h
  exact ⟨fun n d e => f (n, d, e), fun n d e => (hf (n, d, e)).2, fun n d e => (hf (n, d, e)).1⟩

def hfinV (mk : Bool → ByteArray → Int → MK) (s : HS) (n : Nat) : Value :=
  match s.st with
  | 10 => (mk s.neg (strOfNums s.dig) ((if s.eneg then -(s.exp : Int) else s.exp) - 4 * s.frac)).scan
  | _ => scanV 3 false ⟨#[]⟩ 0 n (-1)
def hscanF (mk : Bool → ByteArray → Int → MK) (text : ByteArray) : Nat → Nat → HS → Value
  | 0, _, s => hfinV mk s text.size
  | n + 1, pos, s => if pos < text.size then (match hnxt s (Utf8.decode text pos).1 with
      | some s' => hscanF mk text n (pos + (Utf8.decode text pos).2) s'
      | none => scanV 3 false ⟨#[]⟩ 0 pos (Utf8.decode text pos).1) else hfinV mk s text.size

structure HW (tb : Nat) (w : World) (B I : Nat) (text : ByteArray) (pos : Nat) (s : HS) (v : Value) (W : World) : Prop where
  on : On tb W
  below : Below w.heap.size w W
  lt : w.heap.size ≤ B ∧ B < I ∧ I < W.heap.size
  bx : W.heap[B]? = some (.cells #[.int .u8 0, .bool false, .string ⟨#[]⟩, .int .i16 0, .int .i64 0, .int .i32 0] 253 (0, 0))
  it : W.heap[I]? = some (.stringIter text pos)
  row : W.rowX (I + 1) (fun _ => False) v (s.dig.map (.int .u8))
theorem HW.next {tb : Nat} {w : World} {B I : Nat} {text : ByteArray} {pos : Nat} {s : HS} {v : Value} {W : World} (h : HW tb w B I text pos s v W) (ht : tb < w.heap.size) (p : Nat) :
    HW tb w B I text p s v { W with heap := W.heap.setIfInBounds I (.stringIter text p) } := by
  obtain ⟨h1, h2, h3⟩ := h.lt
  have hne : ∀ k, k ≠ I → (W.heap.setIfInBounds I (.stringIter text p))[k]? = W.heap[k]? := fun k hk => by rw [Array.getElem?_setIfInBounds_ne (by omega)]
  refine ⟨⟨h.on.pos, ?_⟩, ⟨h.below.os, h.below.tape, h.below.output, ?_, ?_⟩, ⟨h1, h2, ?_⟩, ?_, ?_, ?_⟩
  · rw [hne _ (by omega)]; exact h.on.row
  · simp only [Array.size_setIfInBounds]; exact h.below.size
  · intro k hk; rw [hne _ (by omega)]; exact h.below.block k hk
  · simp only [Array.size_setIfInBounds]; exact h3
  · rw [hne _ (by omega)]; exact h.bx
  · simp only [Array.getElem?_setIfInBounds_self]; simp [h3]
  · rcases h.row with hn | ⟨g, cap, cur, tt, e1, e2, e3, e4⟩
    · exact .inl hn
    · exact .inr ⟨g, cap, cur, tt, e1, e2, by rw [hne _ (by omega)]; exact e3, e4⟩
theorem HW.app {tb : Nat} {w : World} {B I : Nat} {text : ByteArray} {pos : Nat} {s : HS} {v v' : Value} {W W' : World} (h : HW tb w B I text pos s v W) (ht : tb < w.heap.size) (r : Int) (hr : W'.rowX (I + 1) (fun _ => False) v' (s.dig.map (.int .u8) ++ [.int .u8 r])) (ha : Apart (I + 1) (fun _ => False) W W') (s' : HS) (hd : s'.dig = s.dig ++ [r]) : HW tb w B I text pos s' v' W' := by
  obtain ⟨h1, h2, h3⟩ := h.lt
  have hlt := h.on.lt
  have hbl := h.below.size
  have hsz := ha.below.size
  refine ⟨⟨h.on.pos, ?_⟩, h.below.trans (ha.below.mono (by omega)), ⟨h1, h2, by omega⟩, ?_, ?_, ?_⟩
  · rw [ha.below.block tb (by omega)]; exact h.on.row
  · rw [ha.below.block B (by omega)]; exact h.bx
  · rw [ha.below.block I (by omega)]; exact h.it
  · rw [hd, List.map_append]; exact hr

def Hokk (s : HS) (pos : Nat) (text : ByteArray) : Prop := s.st ≤ 10 ∧ s.exp ≤ 1000000 ∧ s.frac + (text.size - pos) ≤ text.size ∧ s.dig.length + (text.size - pos) ≤ text.size
/-- The loop's relation. -/
def HsR (tb : Nat) (w : World) (B I : Nat) (text : ByteArray) (mk : Bool → ByteArray → Int → MK) (V t3 t4 t5 t6 t7 t8 : Value) (wr : World) : Prop :=
  ∃ pos s, t4 = .bool s.neg ∧ t5 = .bool s.eneg ∧ t6 = .int .i64 s.frac ∧ t7 = .int .i64 s.exp ∧ t8 = .int .i64 s.st ∧ Hokk s pos text ∧ hscanF mk text (text.size - pos) pos s = V ∧ HW tb w B I text pos s t3 wr
theorem HW.pos {tb : Nat} {w : World} {B I : Nat} {text : ByteArray} {pos : Nat} {s : HS} {v : Value} {W : World} (h : HW tb w B I text pos s v W) : W.iterPos I = pos := by
  simp [World.iterPos, h.it]
theorem hscanF_more (mk : Bool → ByteArray → Int → MK) (text : ByteArray) (pos : Nat) (s : HS) (hp : pos < text.size) : hscanF mk text (text.size - pos) pos s = (match hnxt s (Utf8.decode text pos).1 with
      | some s' => hscanF mk text (text.size - (pos + 1)) (pos + (Utf8.decode text pos).2) s'
      | none => scanV 3 false ⟨#[]⟩ 0 pos (Utf8.decode text pos).1) := by
  have e : text.size - pos = (text.size - (pos + 1)) + 1 := by omega
  rw [e]
  simp only [hscanF, hp, if_true]
theorem hscanF_end (mk : Bool → ByteArray → Int → MK) (text : ByteArray) (k pos : Nat) (s : HS) (hp : ¬ pos < text.size) : hscanF mk text k pos s = hfinV mk s text.size := by
  cases k with
  | zero => rfl
  | succ k => simp only [hscanF, hp, if_false]
theorem hscanF_fuel (mk : Bool → ByteArray → Int → MK) (text : ByteArray) : ∀ (k k' pos : Nat) (s : HS), text.size - pos ≤ k → text.size - pos ≤ k' → hscanF mk text k pos s = hscanF mk text k' pos s := by
  intro k
  induction k with
  | zero =>
    intro k' pos s h1 h2
    rw [hscanF_end mk text 0 pos s (by omega), hscanF_end mk text k' pos s (by omega)]
  | succ k ih =>
    intro k' pos s h1 h2
    by_cases hp : pos < text.size
    · have hl := decode_pos text pos hp
      cases k' with
      | zero => omega
      | succ k' =>
        simp only [hscanF, hp, if_true]
        split
        · exact ih k' _ _ (by omega) (by omega)
        · rfl
    · rw [hscanF_end mk text _ pos s hp, hscanF_end mk text _ pos s hp]
/-- Round a round. -/
theorem HsR.on {tb : Nat} {w : World} {B I : Nat} {text : ByteArray} {mk : Bool → ByteArray → Int → MK} {V : Value} {pos p : Nat} {s s' : HS} {v t3 t4 t5 t6 t7 t8 : Value} {W W' : World} {k : Nat} (hs : HW tb w B I text pos s v W) (hp : pos < text.size) (hlt : pos < p) (hk : text.size - p ≤ k)
    (hs' : HW tb w B I text p s' t3 W') (h4 : t4 = .bool s'.neg) (h5 : t5 = .bool s'.eneg) (h6 : t6 = .int .i64 s'.frac) (h7 : t7 = .int .i64 s'.exp) (h8 : t8 = .int .i64 s'.st) (ho : Hokk s' p text) (hV : hscanF mk text k p s' = V) : HsR tb w B I text mk V t3 t4 t5 t6 t7 t8 W' ∧ text.size - W'.iterPos I < text.size - W.iterPos I :=
  ⟨⟨p, s', h4, h5, h6, h7, h8, ho, by rw [hscanF_fuel mk text (text.size - p) k p s' (Nat.le_refl _) hk]; exact hV, hs'⟩, by rw [hs'.pos, hs.pos]; omega⟩

/-- Facts. -/
theorem mkscan_h (m : MK) (h : m.dig.size ≤ 800 ∧ -16000 ≤ m.exp ∧ m.exp ≤ 16000) : NumR m.scan := by
  unfold MK.scan
  split
  · exact ⟨0, m.neg, m.dig, m.exp, 0, 0, rfl, by decide, by decide, h.1, by omega, by omega⟩
  · exact numR_big
theorem hfinV_num (mk : Bool → ByteArray → Int → MK) (hc : Hk mk) (s : HS) (n : Nat) : NumR (hfinV mk s n) := by
  unfold hfinV
  split
  · exact mkscan_h _ (hc.rng _ _ _)
  · exact numR_wrong _ _
theorem hscanF_num (mk : Bool → ByteArray → Int → MK) (hc : Hk mk) (text : ByteArray) : ∀ (k pos : Nat) (s : HS), NumR (hscanF mk text k pos s) := by
  intro k
  induction k with
  | zero => intro pos s; exact hfinV_num mk hc s _
  | succ k ih =>
    intro pos s
    unfold hscanF
    split
    · split
      · exact ih _ _
      · exact numR_wrong _ _
    · exact hfinV_num mk hc s _
end Go.Proofs.YgcoaaGreat.NatW
