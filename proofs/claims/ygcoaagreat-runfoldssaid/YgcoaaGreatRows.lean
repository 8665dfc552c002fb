/-
  No cell of these rows narrows 'for every input' (looked for: loops, veiled, ifaces, maps, wideKeys, modest, calm, conditions, laid).
  DERIVED. THE GIVEN ROWS OF THIS SEAT. 5 by the template 'for every input the law returns true; each argument reads behind the call as it read before'; 0 by the template 'total and deterministic' (their statements: YgcoaaGreatTotals.lean).
  GIVEN WITH THE SEED: the statements are not yours to turn. If you find one false, say at which input.
  Laid BY PROGRAM, IN A SANDBOX (cutbox-rows.mjs): the forced cells as the released guide's own fill.sh prints them over the translation 2bcf94b83d61e50f… (all of the seat's roots in one cut). By AI agents, Wed Nov 11 2026. No macro, syntax, notation, axiom, sorry.
-/
import Derived.Test.YgcoaaGreatChecked
import GoSem.Claim
import GoSem.ClaimJoined
import GoSem.ClaimMapViews
import Derived.JoinedTies
import Derived.KernelRfl
namespace Go.Proofs.YgcoaaGreat
/- THE CELL 'sum', in the pinned program and in every row, IS THE sha256 OF THE DUMP (.gsa) THAT YgcoaaGreatProg.lean LOADS. Nothing in Lean hashes anything: it is a label: what it is worth is what the hold of that sum in a sandbox is worth. -/
noncomputable def Oaag.pinned : Pinned := { name := "ygcoaagreat", sum := "2bcf94b83d61e50f30850778af47ee4c67b7aa0941996de2e688b9993123c5be", checked := Oaag.checked }
namespace Rows
def none {H : Type} : Left H := { results := [], args := [] }

/-- 'law.DecAsItComes': WHATEVER THE INPUT: true; the input reads as it did. -/
def decAsItComesSpec : ChangeSpec := { name := "decAsItComes", fn := fun _ => fun
  | [d1, d2, d3, d4, d5, d6] => { results := [.lit (.bool true)], args := [d1, d2, d3, d4, d5, d6] }
  | _ => none }
def decAsItComesRow : OpenClaim := { program := "ygcoaagreat", sum := "2bcf94b83d61e50f30850778af47ee4c67b7aa0941996de2e688b9993123c5be", func := "softfloat/law.DecAsItComes", spec := "decAsItComes", inPlace := ["math.Float64bits", "math.Float32bits"], apart := false }
def DecAsItComesSaid : Prop := decAsItComesRow.holds Oaag.pinned (OpenSpec.ofChange decAsItComesSpec)

/-- ITS FALSE NEIGHBOUR: 'it returns false'. Refute it at one input. -/
def decAsItComesWrong : ChangeSpec := { name := "decAsItComes", fn := fun _ => fun
  | [d1, d2, d3, d4, d5, d6] => { results := [.lit (.bool false)], args := [d1, d2, d3, d4, d5, d6] }
  | _ => none }
def DecAsItComesWrongFalsely : Prop := decAsItComesRow.holds Oaag.pinned (OpenSpec.ofChange decAsItComesWrong)

/-- 'law.ChecksBite': WHATEVER THE INPUT: true; the input reads as it did. -/
def checksBiteSpec : ChangeSpec := { name := "checksBite", fn := fun _ => fun
  | [d1, d2] => { results := [.lit (.bool true)], args := [d1, d2] }
  | _ => none }
def checksBiteRow : OpenClaim := { program := "ygcoaagreat", sum := "2bcf94b83d61e50f30850778af47ee4c67b7aa0941996de2e688b9993123c5be", func := "softfloat/law.ChecksBite", spec := "checksBite", inPlace := ["math.Float64bits", "math.Float32bits", "math.Float64frombits", "math.Float32frombits", "math.sqrt", "math.FMA", "math.archTrunc", "math.archCeil", "math.archFloor", "math.RoundToEven"], apart := false }
def ChecksBiteSaid : Prop := checksBiteRow.holds Oaag.pinned (OpenSpec.ofChange checksBiteSpec)

/-- ITS FALSE NEIGHBOUR: 'it returns false'. Refute it at one input. -/
def checksBiteWrong : ChangeSpec := { name := "checksBite", fn := fun _ => fun
  | [d1, d2] => { results := [.lit (.bool false)], args := [d1, d2] }
  | _ => none }
def ChecksBiteWrongFalsely : Prop := checksBiteRow.holds Oaag.pinned (OpenSpec.ofChange checksBiteWrong)

/-- 'law.RunFolds': WHATEVER THE INPUT: true; the input reads as it did. -/
def runFoldsSpec : ChangeSpec := { name := "runFolds", fn := fun _ => fun
  | [d1, d2, d3, d4] => { results := [.lit (.bool true)], args := [d1, d2, d3, d4] }
  | _ => none }
def runFoldsRow : OpenClaim := { program := "ygcoaagreat", sum := "2bcf94b83d61e50f30850778af47ee4c67b7aa0941996de2e688b9993123c5be", func := "softfloat/law.RunFolds", spec := "runFolds", inPlace := ["math.Float64bits", "math.Float32bits", "math.Float64frombits", "math.Float32frombits", "math.sqrt", "math.FMA", "math.archTrunc", "math.archCeil", "math.archFloor", "math.RoundToEven"], apart := false }
def RunFoldsSaid : Prop := runFoldsRow.holds Oaag.pinned (OpenSpec.ofChange runFoldsSpec)

/-- ITS FALSE NEIGHBOUR: 'it returns false'. Refute it at one input. -/
def runFoldsWrong : ChangeSpec := { name := "runFolds", fn := fun _ => fun
  | [d1, d2, d3, d4] => { results := [.lit (.bool false)], args := [d1, d2, d3, d4] }
  | _ => none }
def RunFoldsWrongFalsely : Prop := runFoldsRow.holds Oaag.pinned (OpenSpec.ofChange runFoldsWrong)

/-- 'law.TowerSoft': WHATEVER THE INPUT: true; the input reads as it did. -/
def towerSoftSpec : ChangeSpec := { name := "towerSoft", fn := fun _ => fun
  | [d1, d2, d3] => { results := [.lit (.bool true)], args := [d1, d2, d3] }
  | _ => none }
def towerSoftRow : OpenClaim := { program := "ygcoaagreat", sum := "2bcf94b83d61e50f30850778af47ee4c67b7aa0941996de2e688b9993123c5be", func := "softfloat/law.TowerSoft", spec := "towerSoft", inPlace := ["math.Float64bits", "math.Float32bits", "math.Float64frombits", "math.Float32frombits", "math.sqrt", "math.FMA", "math.archTrunc", "math.archCeil", "math.archFloor", "math.RoundToEven"], apart := false }
def TowerSoftSaid : Prop := towerSoftRow.holds Oaag.pinned (OpenSpec.ofChange towerSoftSpec)

/-- ITS FALSE NEIGHBOUR: 'it returns false'. Refute it at one input. -/
def towerSoftWrong : ChangeSpec := { name := "towerSoft", fn := fun _ => fun
  | [d1, d2, d3] => { results := [.lit (.bool false)], args := [d1, d2, d3] }
  | _ => none }
def TowerSoftWrongFalsely : Prop := towerSoftRow.holds Oaag.pinned (OpenSpec.ofChange towerSoftWrong)

/-- 'law.TowerNative': WHATEVER THE INPUT: true; the input reads as it did. -/
def towerNativeSpec : ChangeSpec := { name := "towerNative", fn := fun _ => fun
  | [d1, d2] => { results := [.lit (.bool true)], args := [d1, d2] }
  | _ => none }
def towerNativeRow : OpenClaim := { program := "ygcoaagreat", sum := "2bcf94b83d61e50f30850778af47ee4c67b7aa0941996de2e688b9993123c5be", func := "softfloat/law.TowerNative", spec := "towerNative", inPlace := ["math.Float64bits", "math.Float32bits", "math.Float64frombits", "math.Float32frombits", "math.sqrt", "math.FMA", "math.archTrunc", "math.archCeil", "math.archFloor", "math.RoundToEven"], apart := false }
def TowerNativeSaid : Prop := towerNativeRow.holds Oaag.pinned (OpenSpec.ofChange towerNativeSpec)

/-- ITS FALSE NEIGHBOUR: 'it returns false'. Refute it at one input. -/
def towerNativeWrong : ChangeSpec := { name := "towerNative", fn := fun _ => fun
  | [d1, d2] => { results := [.lit (.bool false)], args := [d1, d2] }
  | _ => none }
def TowerNativeWrongFalsely : Prop := towerNativeRow.holds Oaag.pinned (OpenSpec.ofChange towerNativeWrong)

end Rows
end Go.Proofs.YgcoaaGreat
