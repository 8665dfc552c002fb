/-
  Package na: toInt.
-/
import Derived.Test.YgcoaaGreatNaB
import Derived.Test.YgcoaaGreatDetX
set_option linter.unusedVariables false
set_option maxRecDepth 20000
namespace Go.Proofs.YgcoaaGreat.Det
open Go Go.RowKit Go.Proofs.YgcoaaGreat.NatW
attribute [local go_sem] Go.Instr.field Go.asAgg

/-- This value, in every memory that holds the table; arguments without the table. -/
def DV (g : FuncId) (args : Array Value) (v : Value) : Prop := ∀ (w : World) (tb : Nat) (K : Ending → World → Prop), On tb w → (∀ w', Below w.heap.size w w' → K (.returned v) w') → Calls Oaag.prog g args w K
theorem DV.run {g : FuncId} {args : Array Value} {v : Value} (h : DV g args v) {w : World} {tb : Nat} {K : Ending → World → Prop} (ho : On tb w) (hK : ∀ w', Below w.heap.size w w' → K (.returned v) w') : Calls Oaag.prog g args w K := h w tb K ho hK
theorem On.same {tb : Nat} {w w' : World} (h : On tb w) (s : Same w w') : On tb w' := h.later s.below
theorem Same.belowS {w w1 w2 : World} (s : Same w w1) (h : Below w1.heap.size w1 w2) : Below w.heap.size w w2 := s.below.trans (h.mono (by rw [s.heap]; exact Nat.le_refl _))

theorem toInt_dv (f : Bool) (a : Int) (ha : U64 a) : ∃ s : ByteArray, s.size ≤ 20 ∧ DV 153 #[.bool f, .int .u64 a] (.string s) := by
  obtain ⟨n1, o1, l1, u1, k1⟩ := toInt32_ex (a % 4294967296)
  have H1 := hide k1
  clear k1
  cases f with
  | false =>
    obtain ⟨v, ⟨s, rfl, hs⟩, hd⟩ := det288 n1 l1 u1 o1
    have hv : DV 288 #[.int .i64 n1, .bool o1] (.string s) := hd
    have HV := hide hv
    refine ⟨s, hs, ?_⟩
    clear hd hv
    intro w tb K ho hK
    have HK := hide hK; clear hK
    have S := Same.refl w
    have HO := hide ho; clear ho
    go_enter Oaag.func153, Oaag.ntmps153
    go_wp2_with (first | (with_reducible refine NRet.run (unhide H1) ?_; intro w1 s1; replace S := Same.trans S s1; clear s1) | (with_reducible refine DV.run (unhide HV) (On.same (unhide HO) S) ?_; intro w2 hb; have HB := Same.belowS S hb; clear hb))
    exact unhide HK _ HB
  | true =>
    obtain ⟨n2, o2, l2, u2, k2⟩ := toInt64_ex a
    have H2 := hide k2
    clear k2
    obtain ⟨v, ⟨s, rfl, hs⟩, hd⟩ := det288 n2 l2 u2 o2
    have hv : DV 288 #[.int .i64 n2, .bool o2] (.string s) := hd
    have HV := hide hv
    refine ⟨s, hs, ?_⟩
    clear hd hv
    intro w tb K ho hK
    have HK := hide hK; clear hK
    have S := Same.refl w
    have HO := hide ho; clear ho
    go_enter Oaag.func153, Oaag.ntmps153
    go_wp2_with (first | (with_reducible refine NRet.run (unhide H1) ?_; intro w1 s1; replace S := Same.trans S s1; clear s1) | (with_reducible refine NRet.run (unhide H2) ?_; intro w1 s1; replace S := Same.trans S s1; clear s1) | (with_reducible refine DV.run (unhide HV) (On.same (unhide HO) S) ?_; intro w2 hb; have HB := Same.belowS S hb; clear hb))
    exact unhide HK _ HB

end Go.Proofs.YgcoaaGreat.Det
