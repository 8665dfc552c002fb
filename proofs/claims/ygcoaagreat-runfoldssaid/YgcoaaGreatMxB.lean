/-
  ex.more: what it does, exactly.
-/
import Derived.Test.YgcoaaGreatMxA
set_option linter.unusedVariables false
set_option linter.unusedSimpArgs false
set_option maxRecDepth 20000
namespace Go.Proofs.YgcoaaGreat.NatW
open Go.RowKit
open Go.Proofs.YgcoaaGreat.Det
open Go.Proofs.YgcoaaGreat.Limbs Go.Proofs.YgcoaaGreat.Bits
attribute [local go_sem] Go.Instr.field Go.asAgg

/-- One step of ex.more. -/
def SXm (g : FuncId) (E M : Nat) (md kd kD kA kB imm : Int) (text : ByteArray) (R : Nat → Int) (L : List Value) (R' : Nat → Int) (L' : List Value) : Prop :=
  ∀ (tb mb : Nat) (w : World) (K : Ending → World → Prop), tb < mb → On tb w → MX mb R L w → (∀ w', MX mb R' L' w' → Below mb w w' → K (.returned (.tuple #[])) w') →
    Calls Oaag.prog g #[fmt E M, .int .u8 md, .pointer (some ⟨mb, 0, none⟩), .agg #[.int .u8 kd, .int .u8 kD, .int .u8 kA, .int .u8 kB, .int .u64 imm, .string text] ] w K
end Go.Proofs.YgcoaaGreat.NatW
