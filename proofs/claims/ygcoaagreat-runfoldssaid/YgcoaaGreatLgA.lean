/-
  Package exact: tenTo, cmpRat.
-/
import Derived.Test.YgcoaaGreatExS
import Derived.Test.YgcoaaGreatRsG
import Derived.Test.YgcoaaGreatSfT
import Derived.Test.YgcoaaGreatSqrt
set_option linter.unusedVariables false
set_option linter.unusedSimpArgs false
set_option maxRecDepth 20000
namespace Go.Proofs.YgcoaaGreat.NatW
open Go.RowKit
open Go.Proofs.YgcoaaGreat.Limbs Go.Proofs.YgcoaaGreat.Bits
attribute [local go_sem] Go.Instr.field Go.asAgg

/-- 10^k as a fraction. -/
def tN (k : Int) : Nat := if k < 0 then 1 else 10 ^ k.toNat
def tD (k : Int) : Nat := if k < 0 then 10 ^ (-k).toNat else 1
def TenR (B : Nat) (k : Int) (v : Value) (w : World) : Prop := ∃ aN cN aD cD, v = .agg #[.bool false, .slice aN (lim (tN k)).length cN, .slice aD (lim (tD k)).length cD] ∧ Res B w aN cN (tN k) ∧ Res B w aD cD (tD k)

set_option maxHeartbeats 1000000 in
theorem tenTo_neg (w : World) (k : Nat) (hk1 : 1 ≤ k) (hk : k < 65536) :
    Calls Oaag.prog 398 #[.int .i64 (-(k : Int))] w fun e w' => ∃ v, e = .returned v ∧ TenR w.heap.size (-(k : Int)) v w' ∧ Below w.heap.size w w' := by
  have eN : tN (-(k : Int)) = 1 := by unfold tN; rw [if_pos (by omega)]
  have eD : tD (-(k : Int)) = 10 ^ k := by unfold tD; rw [if_pos (by omega)]; congr 1; omega
  unfold TenR
  rw [eN, eD]
  clear eN eD
  go_enter Oaag.func398, Oaag.ntmps398
  go_wp2_with fail
  obtain ⟨w0, hw0, hb0, r0, hz0⟩ := boxq w
  rw [← hw0]
  clear hw0
  refine (fromU64_any w0 1 (by omega)).mono ?_
  rintro e w1 ⟨a1, cap1, rfl, hres1, hb1⟩
  have hz1 := hb1.size
  have hs := pow10_any w1 k hk
  have r1 : w1.heap[w.heap.size]? = some (.cells #[.bool false, .slice none 0 0, .slice none 0 0] 67 (0, 0)) := by rw [hb1.block _ (by omega)]; exact r0
  have HS := hide hs
  have HB1 := hide (hb0.trans (hb1.mono hb0.size))
  have R1 := hide r1
  have HR1 := hide hres1
  clear hs hb1 hb0 r0 r1 hres1
  go_wp2_with fail
  refine (unhide HS).mono ?_
  rintro e w2 ⟨a2, cap2, rfl, hres2, hb2⟩
  have r2 : w2.heap[w.heap.size]? = some (.cells #[.bool false, .slice none 0 0, .slice none 0 0] 67 (0, 0)) := by rw [hb2.block _ (by omega)]; exact unhide R1
  have k0 := cell_of_row w2 w.heap.size 0 _ _ _ r2
  have k1 := cell_of_row w2 w.heap.size 1 _ _ _ r2
  have k2 := cell_of_row w2 w.heap.size 2 _ _ _ r2
  have f0 := frozen_of_row w2 w.heap.size 0 _ _ r2
  have f1 := frozen_of_row w2 w.heap.size 1 _ _ r2
  have f2 := frozen_of_row w2 w.heap.size 2 _ _ r2
  simp at k0 k1 k2
  have HR := hide hres2
  have HRo := hide ((unhide HR1).later hb2)
  have HB := hide ((unhide HB1).trans (hb2.mono (unhide HB1).size))
  clear hres2 hb2 r2 R1 HB1 HS HR1
  go_wp2_with fail
  refine bodyPost_box rfl ?_
  intro r hr
  simp [results, Oaag.results398, go_sem, k0, k1, k2] at hr
  subst hr
  refine ⟨_, rfl, _, rfl, ⟨a1, cap1, a2, cap2, rfl, ?_, ?_⟩, ?_⟩
  · have h2 : Res w.heap.size w2 a1 cap1 1 := (unhide HRo).lower (by omega)
    have hne : ∀ g, a1 = some ⟨g, 0, none⟩ → g ≠ w.heap.size := fun g hg => by have := ((unhide HRo).block g hg).1; omega
    exact ((h2.away _ hne).away _ hne).away _ hne
  · have h2 : Res w.heap.size w2 a2 cap2 (10 ^ k) := (unhide HR).lower (by omega)
    have hne : ∀ g, a2 = some ⟨g, 0, none⟩ → g ≠ w.heap.size := fun g hg => by have := ((unhide HR).block g hg).1; omega
    exact ((h2.away _ hne).away _ hne).away _ hne
  · exact below_store (below_store (below_store (unhide HB) (Nat.le_refl _) _) (Nat.le_refl _) _) (Nat.le_refl _) _

set_option maxHeartbeats 1000000 in
theorem tenTo_pos (w : World) (k : Nat) (hk : k < 65536) :
    Calls Oaag.prog 398 #[.int .i64 (k : Int)] w fun e w' => ∃ v, e = .returned v ∧ TenR w.heap.size (k : Int) v w' ∧ Below w.heap.size w w' := by
  have eN : tN (k : Int) = 10 ^ k := by unfold tN; rw [if_neg (by omega)]; congr 1
  have eD : tD (k : Int) = 1 := by unfold tD; rw [if_neg (by omega)]
  unfold TenR
  rw [eN, eD]
  clear eN eD
  go_enter Oaag.func398, Oaag.ntmps398
  go_wp2_with fail
  obtain ⟨w0, hw0, hb0, r0, hz0⟩ := boxq w
  rw [← hw0]
  clear hw0
  refine (pow10_any w0 k hk).mono ?_
  rintro e w1 ⟨a1, cap1, rfl, hres1, hb1⟩
  have hz1 := hb1.size
  have hs := exwhole_any w1 false a1 (lim (10 ^ k)).length cap1
  have r1 : w1.heap[w.heap.size]? = some (.cells #[.bool false, .slice none 0 0, .slice none 0 0] 67 (0, 0)) := by rw [hb1.block _ (by omega)]; exact r0
  have HS := hide hs
  have HB1 := hide (hb0.trans (hb1.mono hb0.size))
  have R1 := hide r1
  have HR1 := hide hres1
  clear hs hb1 hb0 r0 r1 hres1
  go_wp2_with fail
  refine (unhide HS).mono ?_
  rintro e w2 ⟨a2, cap2, rfl, hres2, hb2⟩
  have r2 : w2.heap[w.heap.size]? = some (.cells #[.bool false, .slice none 0 0, .slice none 0 0] 67 (0, 0)) := by rw [hb2.block _ (by omega)]; exact unhide R1
  have k0 := cell_of_row w2 w.heap.size 0 _ _ _ r2
  have k1 := cell_of_row w2 w.heap.size 1 _ _ _ r2
  have k2 := cell_of_row w2 w.heap.size 2 _ _ _ r2
  have f0 := frozen_of_row w2 w.heap.size 0 _ _ r2
  have f1 := frozen_of_row w2 w.heap.size 1 _ _ r2
  have f2 := frozen_of_row w2 w.heap.size 2 _ _ r2
  simp at k0 k1 k2
  have HR := hide hres2
  have HRo := hide ((unhide HR1).later hb2)
  have HB := hide ((unhide HB1).trans (hb2.mono (unhide HB1).size))
  clear hres2 hb2 r2 R1 HB1 HS HR1
  go_wp2_with fail
  refine bodyPost_box rfl ?_
  intro r hr
  simp [results, Oaag.results398, go_sem, k0, k1, k2] at hr
  subst hr
  refine ⟨_, rfl, _, rfl, ⟨a1, cap1, a2, cap2, rfl, ?_, ?_⟩, ?_⟩
  · have h2 : Res w.heap.size w2 a1 cap1 (10 ^ k) := (unhide HRo).lower (by omega)
    have hne : ∀ g, a1 = some ⟨g, 0, none⟩ → g ≠ w.heap.size := fun g hg => by have := ((unhide HRo).block g hg).1; omega
    exact ((h2.away _ hne).away _ hne).away _ hne
  · have h2 : Res w.heap.size w2 a2 cap2 1 := (unhide HR).lower (by omega)
    have hne : ∀ g, a2 = some ⟨g, 0, none⟩ → g ≠ w.heap.size := fun g hg => by have := ((unhide HR).block g hg).1; omega
    exact ((h2.away _ hne).away _ hne).away _ hne
  · exact below_store (below_store (below_store (unhide HB) (Nat.le_refl _) _) (Nat.le_refl _) _) (Nat.le_refl _) _

theorem tenTo_any (w : World) (k : Int) (h1 : -65536 < k) (h2 : k < 65536) :
    Calls Oaag.prog 398 #[.int .i64 k] w fun e w' => ∃ v, e = .returned v ∧ TenR w.heap.size k v w' ∧ Below w.heap.size w w' := by
  rcases (show k < 0 ∨ 0 ≤ k by omega) with h | h
  · obtain ⟨n, rfl⟩ : ∃ n : Nat, k = -(n : Int) := ⟨(-k).toNat, by omega⟩
    exact tenTo_neg w n (by omega) (by omega)
  · obtain ⟨n, rfl⟩ : ∃ n : Nat, k = (n : Int) := ⟨k.toNat, by omega⟩
    exact tenTo_pos w n (by omega)

theorem drew_bel (w : World) : Below w.heap.size w w.drew := ⟨rfl, rfl, rfl, Nat.le_refl _, fun _ _ => rfl⟩

/-- Four numbers in memory, tape zero. -/
structure CrS (w : World) (aN : Option Addr) (cN xN : Nat) (aD : Option Addr) (cD xD : Nat) (bN : Option Addr) (eN yN : Nat) (bD : Option Addr) (eD yD : Nat) (W : World) : Prop where
  s1 : Sl W aN cN (lim xN)
  s2 : Sl W aD cD (lim xD)
  s3 : Sl W bN eN (lim yN)
  s4 : Sl W bD eD (lim yD)
  tape : W.tape = fun _ _ => 0
  below : Below w.heap.size w W
theorem CrS.later {w : World} {aN : Option Addr} {cN xN : Nat} {aD : Option Addr} {cD xD : Nat} {bN : Option Addr} {eN yN : Nat} {bD : Option Addr} {eD yD : Nat} {W W' : World} (h : CrS w aN cN xN aD cD xD bN eN yN bD eD yD W) (hb : Below W.heap.size W W') : CrS w aN cN xN aD cD xD bN eN yN bD eD yD W' :=
  ⟨h.s1.later hb, h.s2.later hb, h.s3.later hb, h.s4.later hb, hb.tape.trans h.tape, h.below.trans (hb.mono h.below.size)⟩

set_option maxHeartbeats 2000000 in
theorem cmpRat_run (w : World) (n1 n2 : Bool) (aN : Option Addr) (cN xN : Nat) (aD : Option Addr) (cD xD : Nat) (bN : Option Addr) (eN yN : Nat) (bD : Option Addr) (eD yD : Nat)
    (h : CrS w aN cN xN aD cD xD bN eN yN bD eD yD w) (l1 : (lim xN).length ≤ 1000000) (l2 : (lim xD).length ≤ 1000000) (l3 : (lim yN).length ≤ 1000000) (l4 : (lim yD).length ≤ 1000000) :
    Calls Oaag.prog 397 #[.agg #[.bool n1, .slice aN (lim xN).length cN, .slice aD (lim xD).length cD], .agg #[.bool n2, .slice bN (lim yN).length eN, .slice bD (lim yD).length eD]] w fun e w' => e = .returned (.int .i8 (cmpI (xN * yD) (yN * xD))) ∧ Below w.heap.size w w' := by
  have HS := hide h
  clear h
  go_enter Oaag.func397, Oaag.ntmps397
  go_wp2_with (first
    | (with_reducible refine at_reg 1 ?_
       refine gen_wp ?_
       intro W hW
       have h0 : W.heap[w.heap.size]? = some (.cells #[.bool n1, .slice aN (lim xN).length cN, .slice aD (lim xD).length cD] 67 (0, 0)) := by rw [← hW]; exact row_old (row_new _ _ _ rfl)
       have h1 : W.heap[w.heap.size + 1]? = some (.cells #[.bool n2, .slice bN (lim yN).length eN, .slice bD (lim yD).length eD] 67 (0, 0)) := by rw [← hW]; exact row_new _ _ _ (size_new _ _)
       have S : CrS w aN cN xN aD cD xD bN eN yN bD eD yD W := by
         rw [← hW]
         exact (unhide HS).later (((Below.refl _ _).alloc (Nat.le_refl _) _).alloc (by rw [size_new]; omega) _)
       have hlt : w.heap.size + 1 < W.heap.size := (Array.getElem?_eq_some_iff.1 h1).1
       clear hW HS
       have k1 := cellr h0 1 _ rfl
       have k2 := cellr h0 2 _ rfl
       have j1 := cellr h1 1 _ rfl
       have j2 := cellr h1 2 _ rfl
       refine wp_region_zero_list S.tape (by kernel_rfl) ?_)
    | (with_reducible refine at_fn 27 ?_
       have S1 := S.later (drew_bel W)
       refine (mul_any _ aN cN (lim xN) xN (val_lim _) S1.s1 bD eD (lim yD) yD (val_lim _) S1.s4 (by omega)).mono ?_
       rintro _ W2 ⟨a1, cap1, rfl, hres1, hb⟩
       have S2 := S1.later hb
       have p0 := (hb.block _ (by show w.heap.size < W.heap.size; omega)).trans h0
       have p1 := (hb.block _ (by show w.heap.size + 1 < W.heap.size; omega)).trans h1
       clear k1 k2 j1 j2 S S1 h0 h1 hb
       have k1 := cellr p0 1 _ rfl
       have k2 := cellr p0 2 _ rfl
       have j1 := cellr p1 1 _ rfl
       have j2 := cellr p1 2 _ rfl)
    | (with_reducible refine at_fn 27 ?_
       refine (mul_any _ bN eN (lim yN) yN (val_lim _) S2.s3 aD cD (lim xD) xD (val_lim _) S2.s2 (by omega)).mono ?_
       rintro _ W3 ⟨a2, cap2, rfl, hres2, hb⟩
       have S3 := S2.later hb
       have hres1' := hres1.later hb
       clear S2 hb hres1 p0 p1 k1 k2 j1 j2)
    | (with_reducible refine at_fn 66 ?_
       refine (cmp_any _ a1 cap1 (lim (xN * yD)) (xN * yD) (val_lim _) hres1'.sl (by have := lenM xN yD; omega) a2 cap2 (lim (yN * xD)) (yN * xD) (val_lim _) hres2.sl (by have := lenM yN xD; omega)).mono ?_
       rintro _ W4 ⟨hb, rfl⟩
       have hB := S3.below.trans (hb.mono S3.below.size)
       clear hb S3 hres1' hres2)
    | fail)
  all_goals
    go_ret
    exact ⟨rfl, hB⟩
end Go.Proofs.YgcoaaGreat.NatW
