/-
  Package dec: Scan, exactly: the loop.
-/
import Derived.Test.YgcoaaGreatScX
import Derived.Test.YgcoaaGreatScA
set_option linter.unusedVariables false
set_option linter.unusedSimpArgs false
set_option maxRecDepth 20000
namespace Go.Proofs.YgcoaaGreat.NatW
open Go.RowKit
open Go.Proofs.YgcoaaGreat.Det
attribute [local go_sem] Go.Instr.field Go.asAgg

def Okk (s : DS) (pos : Nat) (text : ByteArray) : Prop := s.st ≤ 9 ∧ s.exp ≤ 1000000 ∧ s.frac + (text.size - pos) ≤ text.size ∧ s.dig.length + (text.size - pos) ≤ text.size ∧ s.wk ≤ 2 ∧ s.at_ ≤ 8
/-- The loop's relation. -/
def ScR (tb : Nat) (w : World) (B G I : Nat) (text : ByteArray) (mk : Bool → ByteArray → Int → MK) (V t5 t6 t7 : Value) (wr : World) : Prop :=
  ∃ pos s v, t5 = .int .i64 s.st ∧ t6 = .string (wdOf s.wk) ∧ t7 = .int .i64 s.at_ ∧ Okk s pos text ∧ scanF mk text (text.size - pos) pos s = V ∧ SW tb w B G I text pos s v wr
theorem SW.pos {tb : Nat} {w : World} {B G I : Nat} {text : ByteArray} {pos : Nat} {s : DS} {v : Value} {W : World} (h : SW tb w B G I text pos s v W) : W.iterPos I = pos := by
  simp [World.iterPos, h.it]
theorem scanF_more (mk : Bool → ByteArray → Int → MK) (text : ByteArray) (pos : Nat) (s : DS) (hp : pos < text.size) : scanF mk text (text.size - pos) pos s = (match dnxt s (Utf8.decode text pos).1 with
      | some s' => scanF mk text (text.size - (pos + 1)) (pos + (Utf8.decode text pos).2) s'
      | none => scanV 3 false ⟨#[]⟩ 0 pos (Utf8.decode text pos).1) := by
  have e : text.size - pos = (text.size - (pos + 1)) + 1 := by omega
  rw [e]
  simp only [scanF, hp, if_true]
  rfl
theorem scanF_end (mk : Bool → ByteArray → Int → MK) (text : ByteArray) (k pos : Nat) (s : DS) (hp : ¬ pos < text.size) : scanF mk text k pos s = finV mk s text.size := by
  cases k with
  | zero => rfl
  | succ k => simp only [scanF, hp, if_false]
/-- Less fuel is as good when the text has come to its end no sooner. -/
theorem scanF_fuel (mk : Bool → ByteArray → Int → MK) (text : ByteArray) : ∀ (k k' pos : Nat) (s : DS), text.size - pos ≤ k → text.size - pos ≤ k' → scanF mk text k pos s = scanF mk text k' pos s := by
  intro k
  induction k with
  | zero =>
    intro k' pos s h1 h2
    rw [scanF_end mk text 0 pos s (by omega), scanF_end mk text k' pos s (by omega)]
  | succ k ih =>
    intro k' pos s h1 h2
    by_cases hp : pos < text.size
    · have hl := decode_pos text pos hp
      cases k' with
      | zero => omega
      | succ k' =>
        simp only [scanF, hp, if_true]
        split
        · exact ih k' _ _ (by omega) (by omega)
        · rfl
    · rw [scanF_end mk text _ pos s hp, scanF_end mk text _ pos s hp]
/-- Round a round. -/
theorem ScR.on {tb : Nat} {w : World} {B G I : Nat} {text : ByteArray} {mk : Bool → ByteArray → Int → MK} {V : Value} {pos p : Nat} {s s' : DS} {v v' t5 t6 t7 : Value} {W W' : World} {k : Nat} (hs : SW tb w B G I text pos s v W) (hp : pos < text.size) (hlt : pos < p) (hk : text.size - p ≤ k)
    (hs' : SW tb w B G I text p s' v' W') (h5 : t5 = .int .i64 s'.st) (h6 : t6 = .string (wdOf s'.wk)) (h7 : t7 = .int .i64 s'.at_) (ho : Okk s' p text) (hV : scanF mk text k p s' = V) : ScR tb w B G I text mk V t5 t6 t7 W' ∧ text.size - W'.iterPos I < text.size - W.iterPos I := by
  exact ⟨⟨p, s', v', h5, h6, h7, ho, by rw [scanF_fuel mk text (text.size - p) k p s' (Nat.le_refl _) hk]; exact hV, hs'⟩, by rw [hs'.pos, hs.pos]; omega⟩
end Go.Proofs.YgcoaaGreat.NatW
