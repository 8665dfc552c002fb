/-
  Package slow: round.
-/
import Derived.Test.YgcoaaGreatSlN
set_option linter.unusedVariables false
set_option linter.unusedSimpArgs false
set_option maxRecDepth 20000
namespace Go.Proofs.YgcoaaGreat.NatW
open Go.RowKit
open Go.Proofs.YgcoaaGreat.Det
open Go.Proofs.YgcoaaGreat.Limbs Go.Proofs.YgcoaaGreat.Bits
attribute [local go_sem] Go.Instr.field Go.asAgg


theorem sb_u64 {E M : Nat} (hf : fok E M = true) : U64 ((2 ^ (E + M) : Nat) : Int) := by
  obtain ⟨g1, g2, g3, g4⟩ := fok_bd hf
  have : 2 ^ (E + M) ≤ 2 ^ 63 := Nat.pow_le_pow_right (by decide) (by omega)
  obtain ⟨x, hx⟩ : ∃ x, 2 ^ (E + M) = x := ⟨_, rfl⟩
  rw [hx] at this ⊢
  exact ⟨by omega, by omega⟩
theorem two_u64 {E M a : Nat} {neg : Bool} (hf : fok E M = true) (ha : a < 2 ^ (E + M)) : U64 ((a + sgn E M neg : Nat) : Int) := by
  obtain ⟨g1, g2, g3, g4⟩ := fok_bd hf
  have : 2 ^ (E + M) ≤ 2 ^ 63 := Nat.pow_le_pow_right (by decide) (by omega)
  have h : sgn E M neg ≤ 2 ^ (E + M) := by
    unfold sgn
    split
    · exact Nat.le_refl _
    · exact Nat.zero_le _
  obtain ⟨x, hx⟩ : ∃ x, 2 ^ (E + M) = x := ⟨_, rfl⟩
  rw [hx] at this h ha
  obtain ⟨y, hy⟩ : ∃ y, sgn E M neg = y := ⟨_, rfl⟩
  rw [hy] at h ⊢
  exact ⟨by omega, by omega⟩
theorem Ret.goo {n : FuncId} {args : Array Value} {Ψ : Value → Prop} {w : World} {K : Ending → World → Prop} (h : Ret n args Ψ) (hK : ∀ v w', Ψ v → Below w.heap.size w w' → K (.returned v) w') : Calls Oaag.prog n args w K := h w K hK
theorem inf_u (E M : Nat) (hf : fok E M = true) (neg : Bool) : ∃ r, U64 r ∧ Ret 85 #[.agg #[.int .u8 E, .int .u8 M], .bool neg] (fun u => u = .int .u64 r) := ⟨_, two_u64 hf (infP_lt E M), inf_ret E M hf neg⟩
theorem max_u (E M : Nat) (hf : fok E M = true) (neg : Bool) : ∃ r, U64 r ∧ Ret 162 #[.agg #[.int .u8 E, .int .u8 M], .bool neg] (fun u => u = .int .u64 r) := ⟨_, two_u64 hf (Nat.lt_of_le_of_lt (Nat.sub_le _ _) (infP_lt E M)), max_ret E M hf neg⟩
structure RoS (w : World) (E M : Nat) (W : World) : Prop where
  tape : W.tape = fun _ _ => 0
  h0 : W.heap[w.heap.size]? = some (.cells #[.int .u8 E, .int .u8 M] 23 (0, 0))
  below : Below w.heap.size w W
theorem RoS.later {w : World} {E M : Nat} {W W' : World} (h : RoS w E M W) (hb : Below W.heap.size W W') : RoS w E M W' :=
  ⟨hb.tape.trans h.tape, (hb.block _ (Array.getElem?_eq_some_iff.1 h.h0).1).trans h.h0, h.below.trans (hb.mono h.below.size)⟩
theorem RoS.new (E M : Nat) {w : World} (ht : w.tape = fun _ _ => 0) : RoS w E M (w.alloc (.cells #[.int .u8 E, .int .u8 M] 23)) :=
  ⟨ht, row_new _ _ _ rfl, (Below.refl _ _).alloc (Nat.le_refl _) _⟩
/-- What is known between two calls of round. -/
def RoK (w : World) (E M : Nat) (W : World) : Prop := RoS w E M W

set_option maxHeartbeats 4000000 in
theorem round_run (w : World) (E M : Nat) (hf : fok E M = true) (m : Int) (neg : Bool) (sg ex : Int) (us : U64 sg) (e1 : -20000 ≤ ex) (e2 : ex ≤ 20000) (ht : w.tape = fun _ _ => 0) :
    Calls Oaag.prog 206 #[fmt E M, .int .u8 m, .bool neg, .int .u64 sg, .int .i64 ex] w fun e w' => ∃ v, e = .returned v ∧ PatR v ∧ Below w.heap.size w w' := by
  obtain ⟨g1, g2, g3, g4⟩ := fok_bd hf
  have S := RoS.new E M ht
  have k0 := cellr S.h0 0 _ rfl
  have k1 := cellr S.h0 1 _ rfl
  have HS := hide S
  have HU := hide us
  clear S ht us
  obtain ⟨A, hA⟩ : ∃ A, A = w.alloc (.cells #[.int .u8 E, .int .u8 M] 23) := ⟨_, rfl⟩
  go_enter Oaag.func206, Oaag.ntmps206
  go_wp2_with (first
    | (with_reducible refine at_fn 104 ?_
       refine (signBit_ret E M hf) _ _ ?_
       rintro _ W rfl hb
       have S := (unhide HS).later hb
       clear k0 k1 hb HS
       have k0 := cellr S.h0 0 _ rfl
       have k1 := cellr S.h0 1 _ rfl
       have HS := hide S
       clear S
       obtain ⟨sb, hsb⟩ : ∃ sb : Int, ((2 ^ (E + M) : Nat) : Int) = sb := ⟨_, rfl⟩
       have usb : U64 sb := by rw [← hsb]; exact sb_u64 hf
       rw [hsb]
       clear hsb)
    | (with_reducible refine at_fn 117 ?_
       obtain ⟨bb, bb1, bb2, hbr⟩ := bias_bd E M hf
       refine hbr _ _ ?_
       rintro _ W1 rfl hb
       have S := (unhide HS).later hb
       clear k0 k1 hb HS
       have k0 := cellr S.h0 0 _ rfl
       have k1 := cellr S.h0 1 _ rfl
       have HS := hide S
       clear S
       clear hbr)
    | (with_reducible refine at_fn 354 ?_
       refine (nearby_run _ m _ sg _ (unhide HU) (by omega) (unhide HS).tape).mono ?_
       rintro _ W2 ⟨_, rfl, ⟨nn, nb, rfl⟩, hb⟩
       have S := (unhide HS).later hb
       clear k0 k1 hb HS
       have k0 := cellr S.h0 0 _ rfl
       have k1 := cellr S.h0 1 _ rfl
       have HS := hide S
       clear S)
    | (with_reducible refine at_fn 85 ?_
       first
         | (obtain ⟨iv, uiv, hiv⟩ := inf_u E M hf false; with_reducible refine Ret.goo hiv ?_)
         | (obtain ⟨iv, uiv, hiv⟩ := inf_u E M hf true; with_reducible refine Ret.goo hiv ?_)
         | (obtain ⟨iv, uiv, hiv⟩ := inf_u E M hf neg; with_reducible refine Ret.goo hiv ?_)
       clear hiv
       rintro _ W3 rfl hb
       have S := (unhide HS).later hb
       clear k0 k1 hb HS
       have k0 := cellr S.h0 0 _ rfl
       have k1 := cellr S.h0 1 _ rfl
       have HS := hide S
       clear S)
    | (with_reducible refine at_fn 162 ?_
       first
         | (obtain ⟨iv, uiv, hiv⟩ := max_u E M hf false; with_reducible refine Ret.goo hiv ?_)
         | (obtain ⟨iv, uiv, hiv⟩ := max_u E M hf true; with_reducible refine Ret.goo hiv ?_)
         | (obtain ⟨iv, uiv, hiv⟩ := max_u E M hf neg; with_reducible refine Ret.goo hiv ?_)
       clear hiv
       rintro _ W3 rfl hb
       have S := (unhide HS).later hb
       clear k0 k1 hb HS
       have HS := hide S
       clear S)
    | fail)
  all_goals first
    | (go_ret2; exact ⟨_, rfl, ⟨_, _, rfl, or64 _ _⟩, (unhide HS).below⟩)
    | (go_ret2; exact ⟨_, rfl, ⟨_, _, rfl, u64_zero⟩, (unhide HS).below⟩)
    | (go_ret2; exact ⟨_, rfl, ⟨_, _, rfl, usb⟩, (unhide HS).below⟩)
    | (go_ret2; exact ⟨_, rfl, ⟨_, _, rfl, uiv⟩, (unhide HS).below⟩)
    | fail
end Go.Proofs.YgcoaaGreat.NatW
