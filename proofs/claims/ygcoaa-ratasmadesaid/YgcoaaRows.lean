/-
  No cell of these rows narrows 'for every input' (looked for: loops, veiled, ifaces, maps, wideKeys, modest, calm, conditions, laid).
  DERIVED. THE GIVEN ROWS OF THIS SEAT. 5 by the template 'for every input the law returns true; each argument reads behind the call as it read before'; 0 by the template 'total and deterministic' (their statements: YgcoaaTotals.lean).
  GIVEN WITH THE SEED: the statements are not yours to turn. If you find one false, say at which input.
  Laid BY PROGRAM, IN A SANDBOX (cutbox-rows.mjs): the forced cells as the released guide's own fill.sh prints them over the translation baa837f7a6e6b5d3… (all of the seat's roots in one cut). By AI agents, Wed Nov 11 2026. No macro, syntax, notation, axiom, sorry.
-/
import Derived.Test.YgcoaaChecked
import GoSem.Claim
import GoSem.ClaimJoined
import GoSem.ClaimMapViews
import Derived.JoinedTies
import Derived.KernelRfl
namespace Go.Proofs.Ygcoaa
/- THE CELL 'sum', in the pinned program and in every row, IS THE sha256 OF THE DUMP (.gsa) THAT YgcoaaProg.lean LOADS. Nothing in Lean hashes anything: it is a label: what it is worth is what the hold of that sum in a sandbox is worth. -/
noncomputable def Oaag.pinned : Pinned := { name := "ygcoaa", sum := "baa837f7a6e6b5d33a77dd48b8b6a3583edddd3d365308e3550ff8cb455c086e", checked := Oaag.checked }
namespace Rows
def none {H : Type} : Left H := { results := [], args := [] }

/-- 'law.NatAsTaken': WHATEVER THE INPUT: true; the input reads as it did. -/
def natAsTakenSpec : ChangeSpec := { name := "natAsTaken", fn := fun _ => fun
  | [d1, d2, d3, d4, d5] => { results := [.lit (.bool true)], args := [d1, d2, d3, d4, d5] }
  | _ => none }
def natAsTakenRow : OpenClaim := { program := "ygcoaa", sum := "baa837f7a6e6b5d33a77dd48b8b6a3583edddd3d365308e3550ff8cb455c086e", func := "softfloat/law.NatAsTaken", spec := "natAsTaken", apart := false }
def NatAsTakenSaid : Prop := natAsTakenRow.holds Oaag.pinned (OpenSpec.ofChange natAsTakenSpec)

/-- ITS FALSE NEIGHBOUR: 'it returns false'. Refute it at one input. -/
def natAsTakenWrong : ChangeSpec := { name := "natAsTaken", fn := fun _ => fun
  | [d1, d2, d3, d4, d5] => { results := [.lit (.bool false)], args := [d1, d2, d3, d4, d5] }
  | _ => none }
def NatAsTakenWrongFalsely : Prop := natAsTakenRow.holds Oaag.pinned (OpenSpec.ofChange natAsTakenWrong)

/-- 'law.RatAsMade': WHATEVER THE INPUT: true; the input reads as it did. -/
def ratAsMadeSpec : ChangeSpec := { name := "ratAsMade", fn := fun _ => fun
  | [d1, d2, d3, d4, d5] => { results := [.lit (.bool true)], args := [d1, d2, d3, d4, d5] }
  | _ => none }
def ratAsMadeRow : OpenClaim := { program := "ygcoaa", sum := "baa837f7a6e6b5d33a77dd48b8b6a3583edddd3d365308e3550ff8cb455c086e", func := "softfloat/law.RatAsMade", spec := "ratAsMade", apart := false }
def RatAsMadeSaid : Prop := ratAsMadeRow.holds Oaag.pinned (OpenSpec.ofChange ratAsMadeSpec)

/-- ITS FALSE NEIGHBOUR: 'it returns false'. Refute it at one input. -/
def ratAsMadeWrong : ChangeSpec := { name := "ratAsMade", fn := fun _ => fun
  | [d1, d2, d3, d4, d5] => { results := [.lit (.bool false)], args := [d1, d2, d3, d4, d5] }
  | _ => none }
def RatAsMadeWrongFalsely : Prop := ratAsMadeRow.holds Oaag.pinned (OpenSpec.ofChange ratAsMadeWrong)

/-- 'law.RatFar': WHATEVER THE INPUT: true; the input reads as it did. -/
def ratFarSpec : ChangeSpec := { name := "ratFar", fn := fun _ => fun
  | [d1, d2, d3, d4, d5] => { results := [.lit (.bool true)], args := [d1, d2, d3, d4, d5] }
  | _ => none }
def ratFarRow : OpenClaim := { program := "ygcoaa", sum := "baa837f7a6e6b5d33a77dd48b8b6a3583edddd3d365308e3550ff8cb455c086e", func := "softfloat/law.RatFar", spec := "ratFar", apart := false }
def RatFarSaid : Prop := ratFarRow.holds Oaag.pinned (OpenSpec.ofChange ratFarSpec)

/-- ITS FALSE NEIGHBOUR: 'it returns false'. Refute it at one input. -/
def ratFarWrong : ChangeSpec := { name := "ratFar", fn := fun _ => fun
  | [d1, d2, d3, d4, d5] => { results := [.lit (.bool false)], args := [d1, d2, d3, d4, d5] }
  | _ => none }
def RatFarWrongFalsely : Prop := ratFarRow.holds Oaag.pinned (OpenSpec.ofChange ratFarWrong)

/-- 'law.BuildOk': WHATEVER THE INPUT: true; the input reads as it did. -/
def buildOkSpec : ChangeSpec := { name := "buildOk", fn := fun _ => fun
  | [] => { results := [.lit (.bool true)], args := [] }
  | _ => none }
def buildOkRow : OpenClaim := { program := "ygcoaa", sum := "baa837f7a6e6b5d33a77dd48b8b6a3583edddd3d365308e3550ff8cb455c086e", func := "softfloat/law.BuildOk", spec := "buildOk", apart := false }
def BuildOkSaid : Prop := buildOkRow.holds Oaag.pinned (OpenSpec.ofChange buildOkSpec)

/-- ITS FALSE NEIGHBOUR: 'it returns false'. Refute it at one input. -/
def buildOkWrong : ChangeSpec := { name := "buildOk", fn := fun _ => fun
  | [] => { results := [.lit (.bool false)], args := [] }
  | _ => none }
def BuildOkWrongFalsely : Prop := buildOkRow.holds Oaag.pinned (OpenSpec.ofChange buildOkWrong)

/-- 'law.TableAny': WHATEVER THE INPUT: true; the input reads as it did. -/
def tableAnySpec : ChangeSpec := { name := "tableAny", fn := fun _ => fun
  | [d1, d2, d3, d4, d5, d6, d7, d8, d9, d10, d11] => { results := [.lit (.bool true)], args := [d1, d2, d3, d4, d5, d6, d7, d8, d9, d10, d11] }
  | _ => none }
def tableAnyRow : OpenClaim := { program := "ygcoaa", sum := "baa837f7a6e6b5d33a77dd48b8b6a3583edddd3d365308e3550ff8cb455c086e", func := "softfloat/law.TableAny", spec := "tableAny", inPlace := ["math.Float64bits", "math.Float32bits"], apart := false }
def TableAnySaid : Prop := tableAnyRow.holds Oaag.pinned (OpenSpec.ofChange tableAnySpec)

/-- ITS FALSE NEIGHBOUR: 'it returns false'. Refute it at one input. -/
def tableAnyWrong : ChangeSpec := { name := "tableAny", fn := fun _ => fun
  | [d1, d2, d3, d4, d5, d6, d7, d8, d9, d10, d11] => { results := [.lit (.bool false)], args := [d1, d2, d3, d4, d5, d6, d7, d8, d9, d10, d11] }
  | _ => none }
def TableAnyWrongFalsely : Prop := tableAnyRow.holds Oaag.pinned (OpenSpec.ofChange tableAnyWrong)

end Rows
end Go.Proofs.Ygcoaa
