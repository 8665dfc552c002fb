/-
  ex.Step: PrintHex.
-/
import Derived.Test.YgcoaaGreatExM
import Derived.Test.YgcoaaGreatHeA
set_option linter.unusedVariables false
set_option linter.unusedSimpArgs false
set_option maxRecDepth 20000
namespace Go.Proofs.YgcoaaGreat.NatW
open Go.RowKit
open Go.Proofs.YgcoaaGreat.Det

theorem ex_25 (E M : Nat) (hf : fok E M = true) (md kD kA kB imm : Int) (hm0 : 0 ≤ md) (hm1 : md ≤ 255) (ok : OpOk kD kA kB imm) (text : ByteArray) (R : Nat → Int) (hR : ∀ i, i < 8 → U64 (R i)) (L : List Value) (hL : L.length ≤ 1000) : GoesM 133 E M md 25 kD kA kB imm text R L := by
  obtain ⟨di, hdi, hdi8⟩ := and7 kD ok.d.1 ok.d.2
  obtain ⟨ai, hai, hai8⟩ := and7 kA ok.a.1 ok.a.2
  obtain ⟨bi, hbi, hbi8⟩ := and7 kB ok.b.1 ok.b.2
  have ua := hR ai hai8
  have ub := hR bi hbi8
  have ui := ok.i
  obtain ⟨_, ⟨t0, rfl, ht0⟩, hD0⟩ := hex_x E M hf (R ai) ua
  obtain ⟨_, hv, hD1⟩ := det229 E M hf (R ai) ua.1 ua.le t0 (by omega)
  obtain ⟨s0, rfl, _⟩ := str_of hv
  exact ⟨R, L ++ [.string s0], hR, .inr ⟨_, rfl⟩, sx_133_25 E M hf md kD kA kB imm text di ai bi hdi hdi8 hai hai8 hbi hbi8 R L hL t0 s0 (fun tb w K ho hK => hD0 w tb K ho hK) (fun tb w K ho hK => hD1 w tb K ho hK)⟩
end Go.Proofs.YgcoaaGreat.NatW
