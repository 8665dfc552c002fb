/-
  Package exact: log10 returns.
-/
import Derived.Test.YgcoaaGreatLgA
set_option linter.unusedVariables false
set_option linter.unusedSimpArgs false
set_option maxRecDepth 20000
namespace Go.Proofs.YgcoaaGreat.NatW
open Go.RowKit
open Go.Proofs.YgcoaaGreat.Limbs Go.Proofs.YgcoaaGreat.Bits
attribute [local go_sem] Go.Instr.field Go.asAgg

theorem ten_le {k : Int} {xN xD : Nat} (h0 : xD ≠ 0) (hl : (lim xN).length ≤ 2100) (h : tN k * xD ≤ xN * tD k) : k < 22400 := by
  rcases (show k < 0 ∨ 0 ≤ k by omega) with hk | hk
  · omega
  · obtain ⟨n, rfl⟩ : ∃ n : Nat, k = (n : Int) := ⟨k.toNat, by omega⟩
    have eN : tN (n : Int) = 10 ^ n := by unfold tN; rw [if_neg (by omega)]; congr 1
    have eD : tD (n : Int) = 1 := by unfold tD; rw [if_neg (by omega)]
    rw [eN, eD, Nat.mul_one] at h
    have h1 : 10 ^ n ≤ xN := Nat.le_trans (Nat.le_mul_of_pos_right _ (by omega)) h
    have h2 : xN < 2 ^ (32 * (lim xN).length) := by
      have a := lt_of_lim_length xN
      have e : (4294967296 : Nat) = 2 ^ 32 := by decide
      rw [e, ← Nat.pow_mul] at a
      exact a
    have h3 : 2 ^ (3 * n) ≤ 10 ^ n := by
      rw [Nat.pow_mul]
      exact Nat.pow_le_pow_left (by decide) n
    have h4 : 2 ^ (3 * n) < 2 ^ (32 * (lim xN).length) := Nat.lt_of_le_of_lt (Nat.le_trans h3 h1) h2
    have h5 := (Nat.pow_lt_pow_iff_right (by decide : 1 < 2)).1 h4
    omega
theorem len10k (k : Int) (h1 : -65536 < k) (h2 : k < 65536) : (lim (tN k)).length ≤ 100000 ∧ (lim (tD k)).length ≤ 100000 := by
  have key : ∀ n : Nat, n < 65536 → (lim (10 ^ n)).length ≤ 100000 := by
    intro n hn
    refine Nat.le_trans (lim_length_le _ (n + 1) ?_) (by omega)
    exact Nat.lt_of_le_of_lt (Nat.pow_le_pow_left (by decide) n) (Nat.pow_lt_pow_right (by decide) (by omega))
  have one : (lim 1).length ≤ 100000 := key 0 (by omega)
  unfold tN tD
  constructor
  · split
    · exact one
    · exact key _ (by omega)
  · split
    · exact key _ (by omega)
    · exact one

/-- What stands in log10's loop: the box of the fraction. -/
structure LgS (w : World) (neg : Bool) (aN : Option Addr) (cN xN : Nat) (aD : Option Addr) (cD xD : Nat) (W : World) : Prop where
  s1 : Sl W aN cN (lim xN)
  s2 : Sl W aD cD (lim xD)
  tape : W.tape = fun _ _ => 0
  row : W.heap[w.heap.size]? = some (.cells #[.bool neg, .slice aN (lim xN).length cN, .slice aD (lim xD).length cD] 67 (0, 0))
  below : Below w.heap.size w W
theorem LgS.later {w : World} {neg : Bool} {aN : Option Addr} {cN xN : Nat} {aD : Option Addr} {cD xD : Nat} {W W' : World} (h : LgS w neg aN cN xN aD cD xD W) (hb : Below W.heap.size W W') : LgS w neg aN cN xN aD cD xD W' :=
  ⟨h.s1.later hb, h.s2.later hb, hb.tape.trans h.tape, (hb.block _ (Array.getElem?_eq_some_iff.1 h.row).1).trans h.row, h.below.trans (hb.mono h.below.size)⟩
def LgR (w : World) (neg : Bool) (aN : Option Addr) (cN xN : Nat) (aD : Option Addr) (cD xD : Nat) (t3 : Value) (wr : World) : Prop :=
  ∃ k : Int, t3 = .int .i64 k ∧ -30000 ≤ k ∧ k ≤ 30000 ∧ LgS w neg aN cN xN aD cD xD wr
def LgP (v : Value) : Prop := ∃ k : Int, v = .int .i64 k ∧ -30000 ≤ k ∧ k ≤ 30000

set_option maxHeartbeats 2000000 in
theorem log10_run (w : World) (neg : Bool) (aN : Option Addr) (cN xN : Nat) (aD : Option Addr) (cD xD : Nat) (s1 : Sl w aN cN (lim xN)) (s2 : Sl w aD cD (lim xD)) (hF : FrOs xN xD) (ht : w.tape = fun _ _ => 0) :
    Calls Oaag.prog 302 #[.agg #[.bool neg, .slice aN (lim xN).length cN, .slice aD (lim xD).length cD]] w fun e w' => ∃ v, e = .returned v ∧ LgP v ∧ Below w.heap.size w w' := by
  obtain ⟨f0, f1, f2⟩ := hF
  have H1 := hide s1
  have H2 := hide s2
  have HT := hide ht
  clear s1 s2 ht
  have b1 := bl_len xN
  have b2 := bl_len xD
  obtain ⟨B1, hB1⟩ : ∃ B, B = bl xN := ⟨_, rfl⟩
  obtain ⟨B2, hB2⟩ : ∃ B, B = bl xD := ⟨_, rfl⟩
  have b1' : B1 ≤ 67200 := by omega
  have b2' : B2 ≤ 67200 := by omega
  clear b1 b2
  have M1 : True := trivial
  go_enter Oaag.func302, Oaag.ntmps302
  go_wp2_with (first
    | (with_reducible refine at_reg 1 ?_
       refine gen_wp ?_
       intro W hW
       have S : LgS w neg aN cN xN aD cD xD W := by
         rw [← hW]
         have hb := (Below.refl w.heap.size w).alloc (Nat.le_refl _) (.cells #[.bool neg, .slice aN (lim xN).length cN, .slice aD (lim xD).length cD] 67)
         exact ⟨(unhide H1).later hb, (unhide H2).later hb, unhide HT, row_new _ _ _ rfl, hb⟩
       clear hW H1 H2 HT
       have HS := hide (S.later (drew_bel W))
       have k1 := cellr (unhide HS).row 1 _ rfl
       have k2 := cellr (unhide HS).row 2 _ rfl
       refine wp_region_zero_list S.tape (by kernel_rfl) ?_
       clear S)
    | (with_reducible refine at_fn 61 ?_
       have M1' := M1
       refine (bitLen_any _ aN cN (lim xN) xN (val_lim _) (unhide HS).s1 (by omega)).mono ?_
       rintro _ _ ⟨rfl, rfl⟩
       rw [← hB1]
       clear hB1 M1 M1')
    | (with_reducible refine at_fn 61 ?_
       refine (bitLen_any _ aD cD (lim xD) xD (val_lim _) (unhide HS).s2 (by omega)).mono ?_
       rintro _ _ ⟨rfl, rfl⟩
       rw [← hB2]
       clear hB2)
    | fail)
  clear k1 k2
  go_loopw [3] (fun t3 wr => LgR w neg aN cN xN aD cD xD t3 wr) (fun t3 wr => (30000 - intOf t3).toNat)
  case atStart => exact ⟨_, rfl, by omega, by omega, unhide HS⟩
  case round =>
    obtain ⟨k, rfl, hk1, hk2, S⟩ := hrel
    clear HS
    obtain ⟨len1, len2⟩ := len10k (k + 1) (by omega) (by omega)
    have HF := hide (fun (h : tN (k + 1) * xD ≤ xN * tD (k + 1)) => ten_le f0 f1 h)
    have r0 := cellr S.row 0 _ rfl
    have r1 := cellr S.row 1 _ rfl
    have r2 := cellr S.row 2 _ rfl
    have HS := hide S
    clear S
    go_wp2_with (first
      | (with_reducible refine at_reg 3 ?_
         refine wp_region_zero_list (unhide HS).tape (by kernel_rfl) ?_)
      | (with_reducible refine at_fn 398 ?_
         refine (tenTo_any _ (k + 1) (by omega) (by omega)).mono ?_
         rintro _ W2 ⟨_, rfl, ⟨tn, tc, td, te, rfl, hres1, hres2⟩, hb⟩
         have S2 := (unhide HS).later ((drew_bel _).trans hb)
         clear HS hb r0 r1 r2
         have r0 := cellr S2.row 0 _ rfl
         have r1 := cellr S2.row 1 _ rfl
         have r2 := cellr S2.row 2 _ rfl)
      | (with_reducible refine at_fn 397 ?_
         refine (cmpRat_run _ false neg tn tc (tN (k + 1)) td te (tD (k + 1)) aN cN xN aD cD xD ⟨hres1.sl, hres2.sl, S2.s1, S2.s2, S2.tape, Below.refl _ _⟩ (by omega) (by omega) (by omega) (by omega)).mono ?_
         rintro _ W3 ⟨rfl, hb⟩
         have HS3 := hide (S2.later hb)
         obtain ⟨c, hc⟩ : ∃ c, c = cmpI (tN (k + 1) * xD) (xN * tD (k + 1)) := ⟨_, rfl⟩
         have hcc : c ≤ 0 → tN (k + 1) * xD ≤ xN * tD (k + 1) := by
           intro h
           rw [hc] at h
           unfold cmpI at h
           split at h
           · omega
           · split at h
             · omega
             · omega
         rw [← hc]
         have HC := hide hcc
         clear hc hcc S2 hb r0 r1 r2 hres1 hres2)
      | fail)
    · rename_i hle
      have h1 := (unhide HF) ((unhide HC) (by first | exact hle | simpa using hle))
      exact ⟨⟨k + 1, rfl, by omega, by omega, unhide HS3⟩, by simp [intOf]; omega⟩
    · go_ret
      exact ⟨_, rfl, ⟨k, rfl, hk1, hk2⟩, (unhide HS3).below⟩
end Go.Proofs.YgcoaaGreat.NatW
