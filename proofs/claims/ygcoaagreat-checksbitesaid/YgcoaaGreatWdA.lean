/-
  Package law: walked.
-/
import Derived.Test.YgcoaaGreatWkD
set_option linter.unusedVariables false
set_option linter.unusedSimpArgs false
namespace Go.Proofs.YgcoaaGreat.NatW
attribute [local go_sem] Go.Instr.field Go.asAgg
open Go.RowKit
open Go.Proofs.YgcoaaGreat.Limbs Go.Proofs.YgcoaaGreat.Bits

theorem or1 (r : Int) (u : U64 r) : ∃ n : Nat, bits .or .u64 r 1 = (n : Int) ∧ 1 ≤ n ∧ n < 18446744073709551616 := by
  obtain ⟨m, rfl⟩ := Int.eq_ofNat_of_zero_le u.1
  have hm : m < 18446744073709551616 := by have := u.2; omega
  have e := u64_or_nat m 1 hm (by decide)
  have h1 : 1 ≤ m ||| 1 := Nat.right_le_or
  have h2 : m ||| 1 < 2 ^ 64 := Nat.or_lt_two_pow (by simpa using hm) (by decide)
  have e64 : (2 : Nat) ^ 64 = 18446744073709551616 := by decide
  exact ⟨m ||| 1, e, h1, by omega⟩
theorem Res.ne_row {B : Nat} {w : World} {a : Option Addr} {c x b : Nat} (h : Res B w a c x) {cs : Array Value} (hr : w.heap[b]? = some (.cells cs 81 (0, 0))) : ∀ g, a = some (⟨g, 0, none⟩ : Addr) → g ≠ b := by
  intro g hg e
  subst e
  rcases h with ⟨_, h1, _⟩ | ⟨_, g', l, h1, _, hr', _⟩
  · rw [h1] at hg; cases hg
  · rw [h1] at hg
    cases hg
    unfold Row at hr'
    rw [hr'] at hr
    simp at hr
theorem Wk.ne_row {B : Nat} {w : World} {a1 a2 a3 : Option Addr} {c1 c2 c3 x1 x2 x3 P R N b : Nat} (h : Wk B w a1 a2 a3 c1 c2 c3 x1 x2 x3 P R N) {cs : Array Value} (hr : w.heap[b]? = some (.cells cs 81 (0, 0))) : ∀ g, (a1 = some ⟨g, 0, none⟩ ∨ a2 = some ⟨g, 0, none⟩ ∨ a3 = some ⟨g, 0, none⟩) → g ≠ b := by
  intro g hg
  rcases hg with hg | hg | hg
  · exact h.r1.ne_row hr g hg
  · exact h.r2.ne_row hr g hg
  · exact h.r3.ne_row hr g hg

/-- While walked turns: the dice, the answer's box, the walk in its box. -/
structure WdI (w0 : World) (db rb wbx : Nat) (a1 a2 a3 : Option Addr) (c1 c2 c3 x1 x2 x3 P R N : Nat) (w : World) : Prop where
  dice : Dice db w
  res : w.heap[rb]? = some (.cells #[.slice none 0 0, .slice none 0 0, .slice none 0 0, .int .u64 0, .int .u64 0, .int .u64 0] 81 (0, 0))
  box : w.heap[wbx]? = some (.cells (wv a1 a2 a3 c1 c2 c3 x1 x2 x3 P R N) 81 (0, 0))
  wk : Wk (db + 1) w a1 a2 a3 c1 c2 c3 x1 x2 x3 P R N
  bel : Below db w0 w
theorem WdI.later {w0 : World} {db rb wbx : Nat} {a1 a2 a3 : Option Addr} {c1 c2 c3 x1 x2 x3 P R N : Nat} {w w' : World} (h : WdI w0 db rb wbx a1 a2 a3 c1 c2 c3 x1 x2 x3 P R N w) (hb : Below w.heap.size w w') : WdI w0 db rb wbx a1 a2 a3 c1 c2 c3 x1 x2 x3 P R N w' :=
  ⟨h.dice.kept hb h.dice.lt, (hb.block _ (Array.getElem?_eq_some_iff.1 h.res).1).trans h.res, (hb.block _ (Array.getElem?_eq_some_iff.1 h.box).1).trans h.box, h.wk.later hb, h.bel.trans (hb.mono (by have := h.dice.lt; omega))⟩
theorem WdI.roll {w0 : World} {db rb wbx : Nat} {a1 a2 a3 : Option Addr} {c1 c2 c3 x1 x2 x3 P R N : Nat} {w w' : World} (h : WdI w0 db rb wbx a1 a2 a3 c1 c2 c3 x1 x2 x3 P R N w) (hr : Rolled db w w') (h1 : db < rb) (h2 : db < wbx) : WdI w0 db rb wbx a1 a2 a3 c1 c2 c3 x1 x2 x3 P R N w' := by
  refine ⟨hr.dice h.dice, ?_, ?_, ⟨hr.res h.wk.r1 (by omega), hr.res h.wk.r2 (by omega), hr.res h.wk.r3 (by omega), h.wk.len, h.wk.p1, h.wk.p2, h.wk.le, h.wk.hP, h.wk.hR, h.wk.hN⟩, h.bel.trans hr.below⟩
  · obtain ⟨x, rfl⟩ := hr
    rw [heap_set, if_neg (by omega)]; exact h.res
  · obtain ⟨x, rfl⟩ := hr
    rw [heap_set, if_neg (by omega)]; exact h.box
def WdR (w : World) (db rb wbx x3 N : Nat) (t11 : Value) (wr : World) : Prop := ∃ k : Nat, t11 = .int .i64 k ∧ k < 13 ∧ ∃ a1 a2 a3 c1 c2 c3 x1 x2 P R, WdI w db rb wbx a1 a2 a3 c1 c2 c3 x1 x2 x3 P R N wr

set_option maxRecDepth 20000 in
set_option maxHeartbeats 8000000 in
theorem walked_any (w : World) (db : Nat) (h : Dice db w) : Calls Oaag.prog 40 #[.pointer (some ⟨db, 0, none⟩)] w fun e w' => ∃ a1 a2 a3 c1 c2 c3 x1 x2 x3 P R N ok, e = .returned (.tuple #[.agg (wv a1 a2 a3 c1 c2 c3 x1 x2 x3 P R N), .bool ok]) ∧ (ok = true → Wk (db + 1) w' a1 a2 a3 c1 c2 c3 x1 x2 x3 P R N) ∧ Dice db w' ∧ Below db w w' := by
  have q24 := eqnil24
  have HD := hide h
  have hlt := h.lt
  clear h
  go_enter Oaag.func40, Oaag.ntmps40
  go_wp2_with fail
  obtain ⟨rb, hrb⟩ : ∃ rb, rb = w.heap.size := ⟨_, rfl⟩
  have hdr : db < rb := by omega
  ((first | with_reducible refine Go.Proofs.YgcoaaGreat.NatW.gen_calls ?_ | with_reducible refine Go.Proofs.YgcoaaGreat.NatW.gen_wp ?_ | with_reducible refine Go.Proofs.YgcoaaGreat.NatW.gen_list ?_ | with_reducible refine Go.Proofs.YgcoaaGreat.NatW.gen_body ?_); intro W hW)
  have rW := heap_alloc_new w (.cells #[.slice none 0 0, .slice none 0 0, .slice none 0 0, .int .u64 0, .int .u64 0, .int .u64 0] 81)
  rw [hW, ← hrb] at rW
  have hbW : Below w.heap.size w W := by rw [← hW]; exact (Below.refl _ _).alloc (Nat.le_refl _) _
  rw [← hrb]
  have D0 := hide ((unhide HD).kept hbW hlt)
  have B0 := hide (hbW.mono (Nat.le_of_lt hlt))
  have Q0 := hide rW
  have hz0 : rb < W.heap.size := (Array.getElem?_eq_some_iff.1 rW).1
  clear hW hbW rW HD hrb
  refine (roll_d W db (unhide D0)).mono ?_
  rintro e v1 ⟨r1, rfl, ur1, dd, RR⟩
  have D1 := hide dd
  have B1 := hide ((unhide B0).trans RR.below)
  have Q1 : Hid (v1.heap[rb]? = some (.cells #[.slice none 0 0, .slice none 0 0, .slice none 0 0, .int .u64 0, .int .u64 0, .int .u64 0] 81 (0, 0))) := by
    obtain ⟨z, hz⟩ := RR
    rw [hz]
    refine hide ?_
    rw [heap_set, if_neg (by omega)]; exact unhide Q0
  have hz1 : rb < v1.heap.size := by have := RR.size; omega
  clear RR dd D0 B0 Q0 hz0
  obtain ⟨n1, hn1, hn1a, hn1b⟩ := or1 r1 ur1
  have HN1b := hide hn1b
  clear ur1 hn1b
  go_wp2_with fail
  refine (fromU64_any v1 n1 (unhide HN1b)).mono ?_
  rintro e v2 ⟨ta, tc, rfl, hr, bb⟩
  have hl2 : db < v1.heap.size := (unhide D1).lt
  have D2 := hide ((unhide D1).kept bb hl2)
  have B2 := hide ((unhide B1).trans (bb.mono (by omega)))
  have Q2 : Hid (v2.heap[rb]? = some (.cells #[.slice none 0 0, .slice none 0 0, .slice none 0 0, .int .u64 0, .int .u64 0, .int .u64 0] 81 (0, 0))) := hide ((bb.block _ hz1).trans (unhide Q1))
  have hz2 : rb < v2.heap.size := by have := bb.size; omega
  have R1 := hide (hr.lower (show db + 1 ≤ v1.heap.size by omega))
  clear hr
  clear bb D1 B1 Q1 hz1 hl2
  go_wp2_with fail
  refine (below_d v2 db 60 (unhide D2) (by omega) (by omega)).mono ?_
  rintro e v3 ⟨k1, rfl, hk1, dd, RR⟩
  have D3 := hide dd
  have B3 := hide ((unhide B2).trans RR.below)
  have Q3 : Hid (v3.heap[rb]? = some (.cells #[.slice none 0 0, .slice none 0 0, .slice none 0 0, .int .u64 0, .int .u64 0, .int .u64 0] 81 (0, 0))) := by
    obtain ⟨z, hz⟩ := RR
    rw [hz]
    refine hide ?_
    rw [heap_set, if_neg (by omega)]; exact unhide Q2
  have hz3 : rb < v3.heap.size := by have := RR.size; omega
  replace R1 := hide (RR.res (unhide R1) (by omega))
  clear RR dd D2 B2 Q2 hz2
  go_wp2_with fail
  refine (pow5_any v3 k1 (by omega)).mono ?_
  rintro e v4 ⟨ua, uc, rfl, hr, bb⟩
  have hl4 : db < v3.heap.size := (unhide D3).lt
  have D4 := hide ((unhide D3).kept bb hl4)
  have B4 := hide ((unhide B3).trans (bb.mono (by omega)))
  have Q4 : Hid (v4.heap[rb]? = some (.cells #[.slice none 0 0, .slice none 0 0, .slice none 0 0, .int .u64 0, .int .u64 0, .int .u64 0] 81 (0, 0))) := hide ((bb.block _ hz3).trans (unhide Q3))
  have hz4 : rb < v4.heap.size := by have := bb.size; omega
  replace R1 := hide ((unhide R1).later bb)
  have R2 := hide (hr.lower (show db + 1 ≤ v3.heap.size by omega))
  clear hr
  clear bb D3 B3 Q3 hz3 hl4
  go_wp2_with fail
  have L1 := len_small n1 (unhide HN1b)
  have L2 := len5 k1
  refine (mul_r v4 (unhide R1) (unhide R2) (by omega) (by omega)).mono ?_
  rintro e v5 ⟨a3, c3, rfl, hr, bb⟩
  have hl5 : db < v4.heap.size := (unhide D4).lt
  have D5 := hide ((unhide D4).kept bb hl5)
  have B5 := hide ((unhide B4).trans (bb.mono (by omega)))
  have Q5 : Hid (v5.heap[rb]? = some (.cells #[.slice none 0 0, .slice none 0 0, .slice none 0 0, .int .u64 0, .int .u64 0, .int .u64 0] 81 (0, 0))) := hide ((bb.block _ hz4).trans (unhide Q4))
  have hz5 : rb < v5.heap.size := by have := bb.size; omega
  replace R1 := hide ((unhide R1).later bb)
  replace R2 := hide ((unhide R2).later bb)
  have R3 := hide (hr.lower (show db + 1 ≤ v4.heap.size by omega))
  clear hr
  clear bb D4 B4 Q4 hz4 hl5
  have L3 := len_mul n1 (5 ^ k1)
  have hp5 : 0 < n1 * 5 ^ k1 := Nat.mul_pos hn1a (Nat.pow_pos (by decide))
  obtain ⟨x3, hx3⟩ : ∃ x, x = n1 * 5 ^ k1 := ⟨_, rfl⟩
  rw [← hx3] at R3 L3 hp5 ⊢
  clear hx3 R1 R2
  go_wp2_with fail
  refine (roll_d v5 db (unhide D5)).mono ?_
  rintro e v6 ⟨r2, rfl, ur2, dd, RR⟩
  have D6 := hide dd
  have B6 := hide ((unhide B5).trans RR.below)
  have Q6 : Hid (v6.heap[rb]? = some (.cells #[.slice none 0 0, .slice none 0 0, .slice none 0 0, .int .u64 0, .int .u64 0, .int .u64 0] 81 (0, 0))) := by
    obtain ⟨z, hz⟩ := RR
    rw [hz]
    refine hide ?_
    rw [heap_set, if_neg (by omega)]; exact unhide Q5
  have hz6 : rb < v6.heap.size := by have := RR.size; omega
  replace R3 := hide (RR.res (unhide R3) (by omega))
  clear RR dd D5 B5 Q5 hz5
  obtain ⟨n2, rfl⟩ := Int.eq_ofNat_of_zero_le ur2.1
  have HN2 : Hid (n2 < 18446744073709551616) := hide (by have := ur2.2; omega)
  clear ur2
  go_wp2_with fail
  refine (fromU64_any v6 n2 (unhide HN2)).mono ?_
  rintro e v7 ⟨ta2, tc2, rfl, hr, bb⟩
  have hl7 : db < v6.heap.size := (unhide D6).lt
  have D7 := hide ((unhide D6).kept bb hl7)
  have B7 := hide ((unhide B6).trans (bb.mono (by omega)))
  have Q7 : Hid (v7.heap[rb]? = some (.cells #[.slice none 0 0, .slice none 0 0, .slice none 0 0, .int .u64 0, .int .u64 0, .int .u64 0] 81 (0, 0))) := hide ((bb.block _ hz6).trans (unhide Q6))
  have hz7 : rb < v7.heap.size := by have := bb.size; omega
  replace R3 := hide ((unhide R3).later bb)
  have R4 := hide (hr.lower (show db + 1 ≤ v6.heap.size by omega))
  clear hr
  clear bb D6 B6 Q6 hz6 hl7
  go_wp2_with fail
  refine (roll_d v7 db (unhide D7)).mono ?_
  rintro e v8 ⟨r3, rfl, ur3, dd, RR⟩
  have D8 := hide dd
  have B8 := hide ((unhide B7).trans RR.below)
  have Q8 : Hid (v8.heap[rb]? = some (.cells #[.slice none 0 0, .slice none 0 0, .slice none 0 0, .int .u64 0, .int .u64 0, .int .u64 0] 81 (0, 0))) := by
    obtain ⟨z, hz⟩ := RR
    rw [hz]
    refine hide ?_
    rw [heap_set, if_neg (by omega)]; exact unhide Q7
  have hz8 : rb < v8.heap.size := by have := RR.size; omega
  replace R3 := hide (RR.res (unhide R3) (by omega))
  replace R4 := hide (RR.res (unhide R4) (by omega))
  clear RR dd D7 B7 Q7 hz7
  obtain ⟨n3, rfl⟩ := Int.eq_ofNat_of_zero_le ur3.1
  have HN3 : Hid (n3 < 18446744073709551616) := hide (by have := ur3.2; omega)
  clear ur3
  go_wp2_with fail
  refine (fromU64_any v8 n3 (unhide HN3)).mono ?_
  rintro e v9 ⟨ta3, tc3, rfl, hr, bb⟩
  have hl9 : db < v8.heap.size := (unhide D8).lt
  have D9 := hide ((unhide D8).kept bb hl9)
  have B9 := hide ((unhide B8).trans (bb.mono (by omega)))
  have Q9 : Hid (v9.heap[rb]? = some (.cells #[.slice none 0 0, .slice none 0 0, .slice none 0 0, .int .u64 0, .int .u64 0, .int .u64 0] 81 (0, 0))) := hide ((bb.block _ hz8).trans (unhide Q8))
  have hz9 : rb < v9.heap.size := by have := bb.size; omega
  replace R3 := hide ((unhide R3).later bb)
  replace R4 := hide ((unhide R4).later bb)
  have R5 := hide (hr.lower (show db + 1 ≤ v8.heap.size by omega))
  clear hr
  clear bb D8 B8 Q8 hz8 hl9
  go_wp2_with fail
  have L4 := len_small n2 (unhide HN2)
  have L5 := len_small n3 (unhide HN3)
  refine (mul_r v9 (unhide R4) (unhide R5) (by omega) (by omega)).mono ?_
  rintro e v10 ⟨ta4, tc4, rfl, hr, bb⟩
  have hl10 : db < v9.heap.size := (unhide D9).lt
  have D10 := hide ((unhide D9).kept bb hl10)
  have B10 := hide ((unhide B9).trans (bb.mono (by omega)))
  have Q10 : Hid (v10.heap[rb]? = some (.cells #[.slice none 0 0, .slice none 0 0, .slice none 0 0, .int .u64 0, .int .u64 0, .int .u64 0] 81 (0, 0))) := hide ((bb.block _ hz9).trans (unhide Q9))
  have hz10 : rb < v10.heap.size := by have := bb.size; omega
  replace R3 := hide ((unhide R3).later bb)
  replace R4 := hide ((unhide R4).later bb)
  replace R5 := hide ((unhide R5).later bb)
  have R6 := hide (hr.lower (show db + 1 ≤ v9.heap.size by omega))
  clear hr
  clear bb D9 B9 Q9 hz9 hl10
  have L6 := len_mul n2 n3
  clear R4 R5
  go_wp2_with fail
  refine (div_r v10 (unhide R6) (unhide R3) (by omega) (by omega)).mono ?_
  rintro e v11 ⟨ta5, tc5, a1, c1, rfl, hq, hr, bb⟩
  have hl11 : db < v10.heap.size := (unhide D10).lt
  have D11 := hide ((unhide D10).kept bb hl11)
  have B11 := hide ((unhide B10).trans (bb.mono (by omega)))
  have Q11 : Hid (v11.heap[rb]? = some (.cells #[.slice none 0 0, .slice none 0 0, .slice none 0 0, .int .u64 0, .int .u64 0, .int .u64 0] 81 (0, 0))) := hide ((bb.block _ hz10).trans (unhide Q10))
  have hz11 : rb < v11.heap.size := by have := bb.size; omega
  replace R3 := hide ((unhide R3).later bb)
  replace R6 := hide ((unhide R6).later bb)
  have R7 := hide (hr.lower (show db + 1 ≤ v10.heap.size by omega))
  clear hr
  clear bb D10 B10 Q10 hz10 hl11
  have edr : dr (n2 * n3) x3 = (n2 * n3) % x3 := by unfold dr; rw [if_neg (by omega)]
  obtain ⟨x1, hx1⟩ : ∃ x, x = dr (n2 * n3) x3 := ⟨_, rfl⟩
  have hx13 : x1 < x3 := by rw [hx1, edr]; exact Nat.mod_lt _ hp5
  rw [← hx1] at R7 ⊢
  clear hx1 edr R6 hq
  (repeat (first | (rewrite [Go.Proofs.YgcoaaGreat.NatW.frz_ite]; generalize Go.Proofs.YgcoaaGreat.NatW.frzI _ = x__) | (rewrite [Go.Proofs.YgcoaaGreat.NatW.frz_dec]; generalize Go.Proofs.YgcoaaGreat.NatW.frzB _ = x__) | (rewrite [Go.Proofs.YgcoaaGreat.NatW.frz_beq]; generalize Go.Proofs.YgcoaaGreat.NatW.frzB _ = x__) | (rewrite [Go.Proofs.YgcoaaGreat.NatW.frz_not]; generalize Go.Proofs.YgcoaaGreat.NatW.frzB _ = x__) | (rewrite [Go.Proofs.YgcoaaGreat.NatW.frz_and]; generalize Go.Proofs.YgcoaaGreat.NatW.frzB _ = x__) | (rewrite [Go.Proofs.YgcoaaGreat.NatW.frz_or]; generalize Go.Proofs.YgcoaaGreat.NatW.frzB _ = x__) | (rewrite [show ∀ (a b : Int), Value.bool (a != b) = Value.bool (Go.Proofs.YgcoaaGreat.NatW.frzB (a != b)) from fun _ _ => rfl]; generalize Go.Proofs.YgcoaaGreat.NatW.frzB _ = x__)))
  go_wp2_with fail
  have L7 : (lim x1).length ≤ 100 := Nat.le_trans (lim_length_mono x1 x3 (by omega)) (by omega)
  refine (sub_r v11 (unhide R3) (unhide R7) (by omega) (by omega)).mono ?_
  rintro e v12 ⟨a2, c2, rfl, hr, bb⟩
  have hl12 : db < v11.heap.size := (unhide D11).lt
  have D12 := hide ((unhide D11).kept bb hl12)
  have B12 := hide ((unhide B11).trans (bb.mono (by omega)))
  have Q12 : Hid (v12.heap[rb]? = some (.cells #[.slice none 0 0, .slice none 0 0, .slice none 0 0, .int .u64 0, .int .u64 0, .int .u64 0] 81 (0, 0))) := hide ((bb.block _ hz11).trans (unhide Q11))
  have hz12 : rb < v12.heap.size := by have := bb.size; omega
  replace R3 := hide ((unhide R3).later bb)
  replace R7 := hide ((unhide R7).later bb)
  have R8 := hide (hr.lower (show db + 1 ≤ v11.heap.size by omega))
  clear hr
  clear bb D11 B11 Q11 hz11 hl12
  (repeat (first | (rewrite [Go.Proofs.YgcoaaGreat.NatW.frz_ite]; generalize Go.Proofs.YgcoaaGreat.NatW.frzI _ = x__) | (rewrite [Go.Proofs.YgcoaaGreat.NatW.frz_dec]; generalize Go.Proofs.YgcoaaGreat.NatW.frzB _ = x__) | (rewrite [Go.Proofs.YgcoaaGreat.NatW.frz_beq]; generalize Go.Proofs.YgcoaaGreat.NatW.frzB _ = x__) | (rewrite [Go.Proofs.YgcoaaGreat.NatW.frz_not]; generalize Go.Proofs.YgcoaaGreat.NatW.frzB _ = x__) | (rewrite [Go.Proofs.YgcoaaGreat.NatW.frz_and]; generalize Go.Proofs.YgcoaaGreat.NatW.frzB _ = x__) | (rewrite [Go.Proofs.YgcoaaGreat.NatW.frz_or]; generalize Go.Proofs.YgcoaaGreat.NatW.frzB _ = x__) | (rewrite [show ∀ (a b : Int), Value.bool (a != b) = Value.bool (Go.Proofs.YgcoaaGreat.NatW.frzB (a != b)) from fun _ _ => rfl]; generalize Go.Proofs.YgcoaaGreat.NatW.frzB _ = x__)))
  go_wp2_with fail
  refine (roll_d v12 db (unhide D12)).mono ?_
  rintro e v13 ⟨r4, rfl, ur4, dd, RR⟩
  have D13 := hide dd
  have B13 := hide ((unhide B12).trans RR.below)
  have Q13 : Hid (v13.heap[rb]? = some (.cells #[.slice none 0 0, .slice none 0 0, .slice none 0 0, .int .u64 0, .int .u64 0, .int .u64 0] 81 (0, 0))) := by
    obtain ⟨z, hz⟩ := RR
    rw [hz]
    refine hide ?_
    rw [heap_set, if_neg (by omega)]; exact unhide Q12
  have hz13 : rb < v13.heap.size := by have := RR.size; omega
  replace R3 := hide (RR.res (unhide R3) (by omega))
  replace R7 := hide (RR.res (unhide R7) (by omega))
  replace R8 := hide (RR.res (unhide R8) (by omega))
  clear RR dd D12 B12 Q12 hz12
  go_wp2_with fail
  refine (below_d v13 db 64 (unhide D13) (by omega) (by omega)).mono ?_
  rintro e v14 ⟨s4, rfl, hs4, dd, RR⟩
  have D14 := hide dd
  have B14 := hide ((unhide B13).trans RR.below)
  have Q14 : Hid (v14.heap[rb]? = some (.cells #[.slice none 0 0, .slice none 0 0, .slice none 0 0, .int .u64 0, .int .u64 0, .int .u64 0] 81 (0, 0))) := by
    obtain ⟨z, hz⟩ := RR
    rw [hz]
    refine hide ?_
    rw [heap_set, if_neg (by omega)]; exact unhide Q13
  have hz14 : rb < v14.heap.size := by have := RR.size; omega
  replace R3 := hide (RR.res (unhide R3) (by omega))
  replace R7 := hide (RR.res (unhide R7) (by omega))
  replace R8 := hide (RR.res (unhide R8) (by omega))
  clear RR dd D13 B13 Q13 hz13
  have hsh : U64 (r4 / 2 ^ s4) := by
    have hp2 : (0 : Int) < 2 ^ s4 := Int.pow_pos (by decide)
    exact ⟨Int.ediv_nonneg ur4.1 (Int.le_of_lt hp2), Int.lt_of_le_of_lt (Int.ediv_le_self _ ur4.1) ur4.2⟩
  obtain ⟨N, hN, hNa, hNb⟩ := or1 _ hsh
  have HNb := hide hNb
  clear hNb hsh ur4
  have m0 := cell_of_row v14 (rb) 0 _ _ _ (unhide Q14)
  have m1 := cell_of_row v14 (rb) 1 _ _ _ (unhide Q14)
  have m2 := cell_of_row v14 (rb) 2 _ _ _ (unhide Q14)
  have m3 := cell_of_row v14 (rb) 3 _ _ _ (unhide Q14)
  have m4 := cell_of_row v14 (rb) 4 _ _ _ (unhide Q14)
  have m5 := cell_of_row v14 (rb) 5 _ _ _ (unhide Q14)
  simp only [wk, List.getElem?_toArray, List.getElem?_cons_zero, List.getElem?_cons_succ] at m0 m1 m2 m3 m4 m5
  have f0 := frozen_of_row v14 (rb) 0 _ _ (unhide Q14)
  have f1 := frozen_of_row v14 (rb) 1 _ _ (unhide Q14)
  have f2 := frozen_of_row v14 (rb) 2 _ _ (unhide Q14)
  have f3 := frozen_of_row v14 (rb) 3 _ _ (unhide Q14)
  have f4 := frozen_of_row v14 (rb) 4 _ _ (unhide Q14)
  have f5 := frozen_of_row v14 (rb) 5 _ _ (unhide Q14)
  have hx3p : x3 - x1 + x1 = x3 := by omega
  clear hp5
  by_cases hx0 : x1 = 0
  · have hn0 : a1.isNone = true := by rw [(unhide R7).nil_iff.2 hx0]; rfl
    clear hx0
    go_wp2_with fail
    ((first | with_reducible refine Go.Proofs.YgcoaaGreat.NatW.gen_calls ?_ | with_reducible refine Go.Proofs.YgcoaaGreat.NatW.gen_wp ?_ | with_reducible refine Go.Proofs.YgcoaaGreat.NatW.gen_list ?_ | with_reducible refine Go.Proofs.YgcoaaGreat.NatW.gen_body ?_); intro W hW)
    have hr9 : W.heap[rb]? = some (.cells #[.slice a1 (lim x1).length c1, .slice a2 (lim (x3 - x1)).length c2, .slice a3 (lim x3).length c3, .int .u64 1, .int .u64 1, .int .u64 N] 81 (0, 0)) := by
      rw [← hW, heap_new, if_pos (by simp only [World.size_setCell]; exact hz14)]
      exact set6 v14 rb 81 _ _ _ _ _ _ _ _ _ _ _ _ (unhide Q14)
    have hd9 : Dice db W := by
      rw [← hW]
      exact ((((((( unhide D14).other (by omega) _).other (by omega) _).other (by omega) _).other (by omega) _).other (by omega) _).other (by omega) _).alloc _
    have hb9 : Below db w W := by
      rw [← hW]
      exact (below_store (below_store (below_store (below_store (below_store (below_store (unhide B14) (by omega) _) (by omega) _) (by omega) _) (by omega) _) (by omega) _) (by omega) _).alloc (by simp only [World.size_setCell]; omega) _
    clear hW m0 m1 m2 m3 m4 m5 f0 f1 f2 f3 f4 f5
    have m0 := cell_of_row W (rb) 0 _ _ _ (hr9)
    have m1 := cell_of_row W (rb) 1 _ _ _ (hr9)
    have m2 := cell_of_row W (rb) 2 _ _ _ (hr9)
    have m3 := cell_of_row W (rb) 3 _ _ _ (hr9)
    have m4 := cell_of_row W (rb) 4 _ _ _ (hr9)
    have m5 := cell_of_row W (rb) 5 _ _ _ (hr9)
    simp only [wk, List.getElem?_toArray, List.getElem?_cons_zero, List.getElem?_cons_succ] at m0 m1 m2 m3 m4 m5
    refine bodyPost_box rfl ?_
    intro r hr
    simp [results, Oaag.results40, go_sem, m0, m1, m2, m3, m4, m5] at hr
    subst hr
    exact ⟨_, rfl, a1, a2, a3, c1, c2, c3, x1, x3 - x1, x3, 1, 1, N, false, rfl, fun h => (by cases h), hd9, hb9⟩
  · have hn0 : a1.isNone = false := isNone_of (unhide R7) (by omega)
    have hx1p : 1 ≤ x1 := by omega
    clear hx0
    go_wp2_with fail
    obtain ⟨wbx, hwbx⟩ : ∃ b, b = v14.heap.size := ⟨_, rfl⟩
    ((first | with_reducible refine Go.Proofs.YgcoaaGreat.NatW.gen_calls ?_ | with_reducible refine Go.Proofs.YgcoaaGreat.NatW.gen_wp ?_ | with_reducible refine Go.Proofs.YgcoaaGreat.NatW.gen_list ?_ | with_reducible refine Go.Proofs.YgcoaaGreat.NatW.gen_body ?_); intro W hW)
    have rw9 := heap_alloc_new v14 (.cells #[.slice a1 (lim x1).length c1, .slice a2 (lim (x3 - x1)).length c2, .slice a3 (lim x3).length c3, .int .u64 1, .int .u64 1, .int .u64 N] 81)
    rw [hW, ← hwbx] at rw9
    have hbW : Below v14.heap.size v14 W := by rw [← hW]; exact (Below.refl _ _).alloc (Nat.le_refl _) _
    have hI : WdI w db rb wbx a1 a2 a3 c1 c2 c3 x1 (x3 - x1) x3 1 1 N W :=
      ⟨(unhide D14).kept hbW (unhide D14).lt, (hbW.block _ hz14).trans (unhide Q14), rw9, ⟨(unhide R7).later hbW, (unhide R8).later hbW, (unhide R3).later hbW, by omega, hx1p, by omega, by omega, ⟨by omega, by omega⟩, ⟨by omega, by omega⟩, unhide HNb⟩, (unhide B14).trans (hbW.mono (by omega))⟩
    have hdw : db < wbx := by omega
    have hrw : rb < wbx := by omega
    rw [← hwbx]
    have HI := hide hI
    clear hI hbW rw9 hW hwbx R7 R8 R3 D14 B14 Q14 m0 m1 m2 m3 m4 m5 f0 f1 f2 f3 f4 f5
    refine (below_d W db 12 (unhide HI).dice (by omega) (by omega)).mono ?_
    rintro e w5 ⟨k5, rfl, hk5, -, RR⟩
    have hI5 := (unhide HI).roll RR (by omega) hdw
    clear RR HI
    (repeat (first | (rewrite [Go.Proofs.YgcoaaGreat.NatW.frz_ite]; generalize Go.Proofs.YgcoaaGreat.NatW.frzI _ = x__) | (rewrite [Go.Proofs.YgcoaaGreat.NatW.frz_dec]; generalize Go.Proofs.YgcoaaGreat.NatW.frzB _ = x__) | (rewrite [Go.Proofs.YgcoaaGreat.NatW.frz_beq]; generalize Go.Proofs.YgcoaaGreat.NatW.frzB _ = x__) | (rewrite [Go.Proofs.YgcoaaGreat.NatW.frz_not]; generalize Go.Proofs.YgcoaaGreat.NatW.frzB _ = x__) | (rewrite [Go.Proofs.YgcoaaGreat.NatW.frz_and]; generalize Go.Proofs.YgcoaaGreat.NatW.frzB _ = x__) | (rewrite [Go.Proofs.YgcoaaGreat.NatW.frz_or]; generalize Go.Proofs.YgcoaaGreat.NatW.frzB _ = x__) | (rewrite [show ∀ (a b : Int), Value.bool (a != b) = Value.bool (Go.Proofs.YgcoaaGreat.NatW.frzB (a != b)) from fun _ _ => rfl]; generalize Go.Proofs.YgcoaaGreat.NatW.frzB _ = x__)))
    go_wp2_with fail
    go_loopw [11] (fun t11 wr => WdR w db rb wbx x3 N t11 wr) (fun t11 _ => (intOf t11).toNat)
    case atStart => exact ⟨k5, rfl, by omega, a1, a2, a3, c1, c2, c3, x1, x3 - x1, 1, 1, hI5⟩
    case round =>
      clear hI5 hk5
      obtain ⟨k, rfl, hk, b1, b2, b3, d1, d2, d3, y1, y2, P, R, hI⟩ := hrel
      have HI := hide hI
      have hzr : wbx < wr.heap.size := (Array.getElem?_eq_some_iff.1 hI.box).1
      clear hI
      have k0 := cell_of_row wr (wbx) 0 _ _ _ ((unhide HI).box)
      have k1 := cell_of_row wr (wbx) 1 _ _ _ ((unhide HI).box)
      have k2 := cell_of_row wr (wbx) 2 _ _ _ ((unhide HI).box)
      have k3 := cell_of_row wr (wbx) 3 _ _ _ ((unhide HI).box)
      have k4 := cell_of_row wr (wbx) 4 _ _ _ ((unhide HI).box)
      have k5 := cell_of_row wr (wbx) 5 _ _ _ ((unhide HI).box)
      simp only [wk, List.getElem?_toArray, List.getElem?_cons_zero, List.getElem?_cons_succ] at k0 k1 k2 k3 k4 k5
      have g0 := frozen_of_row wr (wbx) 0 _ _ ((unhide HI).box)
      have g1 := frozen_of_row wr (wbx) 1 _ _ ((unhide HI).box)
      have g2 := frozen_of_row wr (wbx) 2 _ _ ((unhide HI).box)
      have g3 := frozen_of_row wr (wbx) 3 _ _ ((unhide HI).box)
      have g4 := frozen_of_row wr (wbx) 4 _ _ ((unhide HI).box)
      have g5 := frozen_of_row wr (wbx) 5 _ _ ((unhide HI).box)
      by_cases hk0 : k = 0
      · subst hk0
        have m0 := cell_of_row wr (rb) 0 _ _ _ ((unhide HI).res)
        have m1 := cell_of_row wr (rb) 1 _ _ _ ((unhide HI).res)
        have m2 := cell_of_row wr (rb) 2 _ _ _ ((unhide HI).res)
        have m3 := cell_of_row wr (rb) 3 _ _ _ ((unhide HI).res)
        have m4 := cell_of_row wr (rb) 4 _ _ _ ((unhide HI).res)
        have m5 := cell_of_row wr (rb) 5 _ _ _ ((unhide HI).res)
        simp only [wk, List.getElem?_toArray, List.getElem?_cons_zero, List.getElem?_cons_succ] at m0 m1 m2 m3 m4 m5
        have f0 := frozen_of_row wr (rb) 0 _ _ ((unhide HI).res)
        have f1 := frozen_of_row wr (rb) 1 _ _ ((unhide HI).res)
        have f2 := frozen_of_row wr (rb) 2 _ _ ((unhide HI).res)
        have f3 := frozen_of_row wr (rb) 3 _ _ ((unhide HI).res)
        have f4 := frozen_of_row wr (rb) 4 _ _ ((unhide HI).res)
        have f5 := frozen_of_row wr (rb) 5 _ _ ((unhide HI).res)
        go_wp2_with fail
        ((first | with_reducible refine Go.Proofs.YgcoaaGreat.NatW.gen_calls ?_ | with_reducible refine Go.Proofs.YgcoaaGreat.NatW.gen_wp ?_ | with_reducible refine Go.Proofs.YgcoaaGreat.NatW.gen_list ?_ | with_reducible refine Go.Proofs.YgcoaaGreat.NatW.gen_body ?_); intro W hW)
        have hr9 : W.heap[rb]? = some (.cells (wv b1 b2 b3 d1 d2 d3 y1 y2 x3 P R N) 81 (0, 0)) := by
          rw [← hW]
          exact set6 wr rb 81 _ _ _ _ _ _ _ _ _ _ _ _ (unhide HI).res
        have hd9 : Dice db W := by
          rw [← hW]
          exact (((((( (unhide HI).dice.other (by omega) _).other (by omega) _).other (by omega) _).other (by omega) _).other (by omega) _).other (by omega) _)
        have hb9 : Below db w W := by
          rw [← hW]
          exact below_store (below_store (below_store (below_store (below_store (below_store ((unhide HI).bel) (by omega) _) (by omega) _) (by omega) _) (by omega) _) (by omega) _) (by omega) _
        have hw9 : Wk (db + 1) W b1 b2 b3 d1 d2 d3 y1 y2 x3 P R N := by
          rw [← hW]
          exact (unhide HI).wk.set6 ((unhide HI).wk.ne_row (unhide HI).res)
        have HW9 := hide hw9
        clear hW hw9 m0 m1 m2 m3 m4 m5 f0 f1 f2 f3 f4 f5
        have m0 := cell_of_row W (rb) 0 _ _ _ (hr9)
        have m1 := cell_of_row W (rb) 1 _ _ _ (hr9)
        have m2 := cell_of_row W (rb) 2 _ _ _ (hr9)
        have m3 := cell_of_row W (rb) 3 _ _ _ (hr9)
        have m4 := cell_of_row W (rb) 4 _ _ _ (hr9)
        have m5 := cell_of_row W (rb) 5 _ _ _ (hr9)
        simp only [wk, List.getElem?_toArray, List.getElem?_cons_zero, List.getElem?_cons_succ] at m0 m1 m2 m3 m4 m5
        refine bodyPost_box rfl ?_
        intro r hr
        simp [results, Oaag.results40, go_sem, m0, m1, m2, m3, m4, m5] at hr
        subst hr
        exact ⟨_, rfl, b1, b2, b3, d1, d2, d3, y1, y2, x3, P, R, N, true, rfl, fun _ => unhide HW9, hd9, hb9⟩
      · go_wp2_with fail
        have HTU := hide (turn_any wr (unhide HI).wk)
        refine (unhide HTU).mono ?_
        clear HTU
        rintro e w6 ⟨e1, e2, e3, f1, f2, f3, z1, z2, P2, R2, zz, oo, rfl, hk6, bb6⟩
        have HI6 := hide ((unhide HI).later bb6)
        have HK6 := hide hk6
        clear hk6 bb6 HI k0 k1 k2 k3 k4 k5 g0 g1 g2 g3 g4 g5
        have k0 := cell_of_row w6 (wbx) 0 _ _ _ ((unhide HI6).box)
        have k1 := cell_of_row w6 (wbx) 1 _ _ _ ((unhide HI6).box)
        have k2 := cell_of_row w6 (wbx) 2 _ _ _ ((unhide HI6).box)
        have k3 := cell_of_row w6 (wbx) 3 _ _ _ ((unhide HI6).box)
        have k4 := cell_of_row w6 (wbx) 4 _ _ _ ((unhide HI6).box)
        have k5 := cell_of_row w6 (wbx) 5 _ _ _ ((unhide HI6).box)
        simp only [wk, List.getElem?_toArray, List.getElem?_cons_zero, List.getElem?_cons_succ] at k0 k1 k2 k3 k4 k5
        have g0 := frozen_of_row w6 (wbx) 0 _ _ ((unhide HI6).box)
        have g1 := frozen_of_row w6 (wbx) 1 _ _ ((unhide HI6).box)
        have g2 := frozen_of_row w6 (wbx) 2 _ _ ((unhide HI6).box)
        have g3 := frozen_of_row w6 (wbx) 3 _ _ ((unhide HI6).box)
        have g4 := frozen_of_row w6 (wbx) 4 _ _ ((unhide HI6).box)
        have g5 := frozen_of_row w6 (wbx) 5 _ _ ((unhide HI6).box)
        go_wp2_with fail
        refine ⟨⟨k - 1, by simp; omega, by omega, e1, e2, e3, f1, f2, f3, z1, z2, P2, R2, ?_⟩, by simp [intOf]; omega⟩
        have hne : ∀ g, (e1 = some ⟨g, 0, none⟩ ∨ e2 = some ⟨g, 0, none⟩ ∨ e3 = some ⟨g, 0, none⟩) → g ≠ wbx := fun g hg => by have := ((unhide HK6).block g hg).1; omega
        exact ⟨(((((( (unhide HI6).dice.other (by omega) _).other (by omega) _).other (by omega) _).other (by omega) _).other (by omega) _).other (by omega) _), (heap6 _ _ _ _ _ _ _ _ _ (by omega)).trans (unhide HI6).res, set6 w6 wbx 81 _ _ _ _ _ _ _ _ _ _ _ _ (unhide HI6).box, ((unhide HK6).set6 hne).lower (by omega), below_store (below_store (below_store (below_store (below_store (below_store ((unhide HI6).bel) (by omega) _) (by omega) _) (by omega) _) (by omega) _) (by omega) _) (by omega) _⟩
end Go.Proofs.YgcoaaGreat.NatW
