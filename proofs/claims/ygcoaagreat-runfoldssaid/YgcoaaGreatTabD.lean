/-
  Build: the walk.
-/
import Derived.Test.YgcoaaGreatTabC
import Derived.Deep.RegionWith
set_option linter.unusedVariables false
set_option linter.unusedSimpArgs false
namespace Go.Proofs.YgcoaaGreat.NatW
open Go.RowKit
open Go.Proofs.YgcoaaGreat.Limbs

theorem info52 : ((Oaag.prog.info? 51).bind fun i => i.zero.map fun z => z.cells.size) = some 2088 := by kernel_rfl

theorem wpList_newTab {w : World} {ops : Array Oper} {rest : List Oper} {o : Oper} {a : Act} {Q : Exit → Act → World → Prop}
    (hg : o.guard = none) (hop : o.op = .alloc 51)
    (hK : ∀ cs : Array Value, cs.size = 2088 → wpList Oaag.prog ops Q rest (a.put o.dst (.pointer (some ⟨w.heap.size, 0, none⟩))) (w.alloc (.cells cs 51))) :
    wpList Oaag.prog ops Q (o :: rest) a w := by
  have h := info52
  cases hi : Oaag.prog.info? 51 with
  | none => rw [hi] at h; cases h
  | some i =>
    rw [hi] at h
    cases hz : i.zero with
    | none => simp [hz] at h
    | some z =>
      simp [hz] at h
      refine wpList_plain hg fun K hK' => ?_
      unfold Oper.wp
      have hrun : (Instr.alloc 51 true (.tuple #[])).run Oaag.prog w = .ok (.pointer (some ⟨w.heap.size, 0, none⟩)) (w.alloc (.cells z.cells 51)) := by
        simp [Instr.alloc, zeroValue, typeInfo, hi, hz, newVar, newRow]
      simp [execOp, hop, hrun, Result.andThen]
      exact hK' _ _ (hK z.cells h)

theorem wrap_i16 (n : Int) (h1 : -32768 ≤ n) (h2 : n < 32768) : IntKind.i16.wrap n = n := by
  simp [IntKind.wrap, IntKind.bits, IntKind.signed]
  omega

theorem Row.other' {w : World} {g k : Nat} {l : List Nat} (h : Row w g l) (hk : k ≠ g) (i : Nat) (u : Value) : Row (w.setCell ⟨k, i, none⟩ u) g l := h.other (p := ⟨k, i, none⟩) (fun e => hk e.symm) u
theorem Res.other {B : Nat} {w : World} {a : Option Addr} {cap n : Nat} (h : Res B w a cap n) {k : Nat} (hk : k < B) (i : Nat) (u : Value) : Res B (w.setCell ⟨k, i, none⟩ u) a cap n := by
  rcases h with h | ⟨h0, g, l, e, hB, hr, r⟩
  · exact .inl h
  · exact .inr ⟨h0, g, l, e, hB, hr.other' (by omega) i u, r⟩

/-- THE TABLE: block g; of the entries that S names, each is what it should be. -/
def Tab (w : World) (g : Nat) (S : Nat → Prop) : Prop :=
  ∃ cs : Array Value, w.heap[g]? = some (.cells cs 51 (0, 0)) ∧ cs.size = 2088 ∧
    ∀ i, i < 696 → S i → cs[i * 2]? = some (.int .u64 (entHi ((i : Int) - 348) : Nat)) ∧ cs[i * 2 + 1]? = some (.int .u64 (entLo ((i : Int) - 348) : Nat)) ∧ cs[1392 + i]? = some (.int .i16 (entE ((i : Int) - 348)))

theorem Tab.later {w w' : World} {g : Nat} {S : Nat → Prop} (h : Tab w g S) (hb : Below w.heap.size w w') : Tab w' g S := by
  obtain ⟨cs, h1, h2, h3⟩ := h
  have hg : g < w.heap.size := by
    rcases Nat.lt_or_ge g w.heap.size with h' | h'
    · exact h'
    · rw [Array.getElem?_eq_none h'] at h1; cases h1
  exact ⟨cs, (hb.block g hg).trans h1, h2, h3⟩

/-- Its cells are there, and free. -/
theorem Tab.at_ {w : World} {g : Nat} {S : Nat → Prop} (h : Tab w g S) (i : Nat) (hi : i < 2088) : (∃ v, w.cell? ⟨g, i, none⟩ = some v) ∧ w.frozen? ⟨g, i, none⟩ = false := by
  obtain ⟨cs, h1, h2, h3⟩ := h
  refine ⟨⟨cs[i]'(by omega), ?_⟩, frozen_of_row _ _ _ _ _ h1⟩
  rw [cell_of_row _ _ _ _ _ _ h1]
  exact Array.getElem?_eq_getElem _

/-- An entry is laid. -/
theorem Tab.put {w : World} {g : Nat} {S : Nat → Prop} (h : Tab w g S) (j : Nat) (hj : j < 696) (q : Int) (hq : q = (j : Int) - 348) :
    Tab (((w.setCell ⟨g, j * 2, none⟩ (.int .u64 (entHi q : Nat))).setCell ⟨g, j * 2 + 1, none⟩ (.int .u64 (entLo q : Nat))).setCell ⟨g, 1392 + j, none⟩ (.int .i16 (entE q))) g (fun i => S i ∨ i = j) := by
  obtain ⟨cs, h1, h2, h3⟩ := h
  subst hq
  refine ⟨_, heap_setCell_same _ _ _ _ _ _ (heap_setCell_same _ _ _ _ _ _ (heap_setCell_same _ _ _ _ _ _ h1)), by simpa using h2, ?_⟩
  intro i hi hS
  simp only [Array.getElem?_setIfInBounds, Array.size_setIfInBounds, h2]
  by_cases e : i = j
  · subst e
    refine ⟨?_, ?_, ?_⟩
    · rw [if_neg (by omega), if_neg (by omega), if_pos rfl, if_pos (by omega)]
    · rw [if_neg (by omega), if_pos rfl, if_pos (by omega)]
    · rw [if_pos rfl, if_pos (by omega)]
  · have hS' := h3 i hi (by rcases hS with h | h; exact h; exact absurd h e)
    refine ⟨?_, ?_, ?_⟩
    · rw [if_neg (by omega), if_neg (by omega), if_neg (by omega)]; exact hS'.1
    · rw [if_neg (by omega), if_neg (by omega), if_neg (by omega)]; exact hS'.2.1
    · rw [if_neg (by omega), if_neg (by omega), if_neg (by omega)]; exact hS'.2.2
theorem Tab.mono {w : World} {g : Nat} {S T : Nat → Prop} (h : Tab w g S) (hT : ∀ i, i < 696 → T i → S i) : Tab w g T := by
  obtain ⟨cs, h1, h2, h3⟩ := h
  exact ⟨cs, h1, h2, fun i hi ht => h3 i hi (hT i hi ht)⟩

set_option maxRecDepth 20000 in
set_option maxHeartbeats 2000000 in
theorem build_any (w : World) :
    Calls Oaag.prog 11 #[] w fun e w' => e = .returned (.pointer (some ⟨w.heap.size, 0, none⟩)) ∧ Tab w' w.heap.size (fun _ => True) ∧ Below w.heap.size w w' := by
  go_enter Oaag.func11, Oaag.ntmps11
  go_wp2_with ((refine wpList_newTab rfl rfl ?_; intro cs hcs))
  obtain ⟨w0, hw0⟩ : ∃ w0, w0 = w.alloc (Obj.cells cs 51) := ⟨_, rfl⟩
  have hb0 : Below w.heap.size w w0 := by rw [hw0]; exact (Below.refl _ _).alloc (Nat.le_refl _) _
  have hs0 : w0.heap.size = w.heap.size + 1 := by rw [hw0]; simp
  have ht0 : Tab w0 w.heap.size (fun _ => False) := ⟨cs, by rw [hw0, heap_alloc_new], hcs, fun _ _ h => h.elim⟩
  rw [← hw0]
  clear hw0 hcs
  refine (fromU64_any _ 1 (by omega)).mono ?_
  rintro e w1 ⟨a1, cap1, rfl, hres1, hb1⟩
  have hsz1 := hb1.size
  have ht1 := ht0.later hb1
  have HR1 := hide hres1
  clear hres1 ht0
  go_wp2_with fail
  refine (fromU64_any _ 5 (by omega)).mono ?_
  rintro e w2 ⟨a5, cap5, rfl, hres5, hb2⟩
  have hsz2 := hb2.size
  have ht2 := ht1.later hb2
  have hres1 := (unhide HR1).later hb2
  rw [hs0] at hres1
  have hres5' : Res (w.heap.size + 1) w2 a5 cap5 5 := hres5.lower (by omega)
  have hb2' : Below w.heap.size w w2 := (hb0.trans (hb1.mono (by omega))).trans (hb2.mono (by omega))
  have H1 := hide hres1
  have H5 := hide hres5'
  have HT := hide ht2
  have HB := hide hb2'
  clear hres1 hres5' ht2 hb2' hres5 ht1 HR1 hb0 hb1 hb2
  go_wp2
  go_loopw [4, 2] (fun t p wr => ∃ q : Nat, q ≤ 349 ∧ t = .int .i16 q ∧ Below w.heap.size w wr ∧ w.heap.size + 1 ≤ wr.heap.size ∧ Tab wr w.heap.size (fun i => ((i : Int) - 348).natAbs < q) ∧ Res (w.heap.size + 1) wr a5 cap5 5 ∧ ∃ a' cap', p = .slice a' (lim (5 ^ q)).length cap' ∧ Res (w.heap.size + 1) wr a' cap' (5 ^ q))
    (fun t _ _ => 349 - (intOf t).toNat)
  case atStart => exact ⟨0, by omega, rfl, unhide HB, by omega, (unhide HT).mono (fun i hi h => by omega), unhide H5, a1, cap1, rfl, unhide H1⟩
  case round =>
    clear HB HT H1 H5
    obtain ⟨q, hq, rfl, hbw, hsz, htab, h5, a', cap', rfl, hp⟩ := hrel
    by_cases hend : q = 349
    · subst hend
      go_wp2
      go_ret
      exact ⟨rfl, htab.mono (fun i hi _ => by omega), hbw⟩
    · have hen := entry_any wr.drew a' cap' q (-(q : Int)) (by omega) (hp.sl.later (Below.refl _ _).drew) (by omega) (by omega)
      have wr1 : IntKind.i16.wrap (-(q : Int)) = -(q : Int) := wrap_i16 _ (by omega) (by omega)
      have wr2 : IntKind.i16.wrap (348 - (q : Int)) = 348 - (q : Int) := wrap_i16 _ (by omega) (by omega)
      have hq0 : (0 : Int) ≤ 348 - (q : Int) := by omega
      have hq1 : 348 - (q : Int) < 696 := by omega
      have HEN := hide hen
      have HP := hide hp
      have H5 := hide h5
      have HT := hide (show Tab wr.drew w.heap.size (fun i => ((i : Int) - 348).natAbs < q) from htab)
      clear hen hp h5
      go_wp2_with fail
      go_region_with ((go_at_call 26; refine (unhide HEN).mono ?_; rintro e w3 ⟨rfl, hb3⟩; have ht3 := (unhide HT).later hb3; obtain ⟨⟨v0, c0⟩, f0⟩ := ht3.at_ ((348 - q) * 2) (by omega); obtain ⟨⟨v1, c1⟩, f1⟩ := ht3.at_ ((348 - q) * 2 + 1) (by omega); obtain ⟨⟨v2, c2⟩, f2⟩ := ht3.at_ (1392 + (348 - q)) (by omega)))
      have hb3' : Below wr.heap.size wr w3 := Below.trans (b := wr.drew) (Below.refl _ _).drew hb3
      have ht3' := (unhide HT).later hb3
      have ht4 := ht3'.put (348 - q) (by omega) (-(q : Int)) (by omega)
      have hp4 := ((((unhide HP).later hb3').other (k := w.heap.size) (by omega) ((348 - q) * 2) (.int .u64 (entHi (-(q : Int)) : Nat))).other (k := w.heap.size) (by omega) ((348 - q) * 2 + 1) (.int .u64 (entLo (-(q : Int)) : Nat))).other (k := w.heap.size) (by omega) (1392 + (348 - q)) (.int .i16 (entE (-(q : Int))))
      have h54 := ((((unhide H5).later hb3').other (k := w.heap.size) (by omega) ((348 - q) * 2) (.int .u64 (entHi (-(q : Int)) : Nat))).other (k := w.heap.size) (by omega) ((348 - q) * 2 + 1) (.int .u64 (entLo (-(q : Int)) : Nat))).other (k := w.heap.size) (by omega) (1392 + (348 - q)) (.int .i16 (entE (-(q : Int))))
      have hb4 : Below w.heap.size w (((w3.setCell ⟨w.heap.size, (348 - q) * 2, none⟩ (.int .u64 (entHi (-(q : Int)) : Nat))).setCell ⟨w.heap.size, (348 - q) * 2 + 1, none⟩ (.int .u64 (entLo (-(q : Int)) : Nat))).setCell ⟨w.heap.size, 1392 + (348 - q), none⟩ (.int .i16 (entE (-(q : Int))))) :=
        below_store (below_store (below_store (hbw.trans (hb3'.mono (by omega))) (Nat.le_refl _) _) (Nat.le_refl _) _) (Nat.le_refl _) _
      have hsz4 : w.heap.size + 1 ≤ (((w3.setCell ⟨w.heap.size, (348 - q) * 2, none⟩ (.int .u64 (entHi (-(q : Int)) : Nat))).setCell ⟨w.heap.size, (348 - q) * 2 + 1, none⟩ (.int .u64 (entLo (-(q : Int)) : Nat))).setCell ⟨w.heap.size, 1392 + (348 - q), none⟩ (.int .i16 (entE (-(q : Int))))).heap.size := by
        have := hb3'.size
        simp [World.setCell]; omega
      obtain ⟨w4, hw4⟩ : ∃ w4, w4 = ((w3.setCell ⟨w.heap.size, (348 - q) * 2, none⟩ (.int .u64 (entHi (-(q : Int)) : Nat))).setCell ⟨w.heap.size, (348 - q) * 2 + 1, none⟩ (.int .u64 (entLo (-(q : Int)) : Nat))).setCell ⟨w.heap.size, 1392 + (348 - q), none⟩ (.int .i16 (entE (-(q : Int)))) := ⟨_, rfl⟩
      rw [← hw4] at ht4 hp4 h54 hb4 hsz4 ⊢
      clear hw4 ht3' hb3' ht3 c0 f0 c1 f1 c2 f2 hb3 HEN wr1 wr2 hq0 hq1 HT HP H5
      have hmul : ∀ wx, Below w4.heap.size w4 wx → True := fun _ _ => trivial
      clear hmul
      by_cases hq2 : q ≤ 347
      · have hen := entry_any w4.drew a' cap' q (q : Int) (by omega) (hp4.sl.later (Below.refl _ _).drew) (by omega) (by omega)
        have wr2 : IntKind.i16.wrap (348 + (q : Int)) = 348 + (q : Int) := wrap_i16 _ (by omega) (by omega)
        have htn : (348 + (q : Int)).toNat = 348 + q := by omega
        have hq0 : (0 : Int) ≤ 348 + (q : Int) := by omega
        have hq1 : 348 + (q : Int) < 696 := by omega
        have HEN := hide hen
        have HP := hide hp4
        have H5 := hide h54
        have HB4 := hide hb4
        have HT := hide (show Tab w4.drew w.heap.size _ from ht4)
        clear hen hp4 h54 ht4 hb4
        go_wp2_with fail
        go_region_with ((go_at_call 26; refine (unhide HEN).mono ?_; rintro e w5 ⟨rfl, hb5⟩; have ht5 := (unhide HT).later hb5; obtain ⟨⟨v0, c0⟩, f0⟩ := ht5.at_ ((348 + q) * 2) (by omega); obtain ⟨⟨v1, c1⟩, f1⟩ := ht5.at_ ((348 + q) * 2 + 1) (by omega); obtain ⟨⟨v2, c2⟩, f2⟩ := ht5.at_ (1392 + (348 + q)) (by omega)))
        have hb5' : Below w4.heap.size w4 w5 := Below.trans (b := w4.drew) (Below.refl _ _).drew hb5
        have ht5' := (unhide HT).later hb5
        have ht6 := ht5'.put (348 + q) (by omega) (q : Int) (by omega)
        have hp6 := ((((unhide HP).later hb5').other (k := w.heap.size) (by omega) ((348 + q) * 2) (.int .u64 (entHi (q : Int) : Nat))).other (k := w.heap.size) (by omega) ((348 + q) * 2 + 1) (.int .u64 (entLo (q : Int) : Nat))).other (k := w.heap.size) (by omega) (1392 + (348 + q)) (.int .i16 (entE (q : Int)))
        have h56 := ((((unhide H5).later hb5').other (k := w.heap.size) (by omega) ((348 + q) * 2) (.int .u64 (entHi (q : Int) : Nat))).other (k := w.heap.size) (by omega) ((348 + q) * 2 + 1) (.int .u64 (entLo (q : Int) : Nat))).other (k := w.heap.size) (by omega) (1392 + (348 + q)) (.int .i16 (entE (q : Int)))
        have hb6 : Below w.heap.size w (((w5.setCell ⟨w.heap.size, (348 + q) * 2, none⟩ (.int .u64 (entHi (q : Int) : Nat))).setCell ⟨w.heap.size, (348 + q) * 2 + 1, none⟩ (.int .u64 (entLo (q : Int) : Nat))).setCell ⟨w.heap.size, 1392 + (348 + q), none⟩ (.int .i16 (entE (q : Int)))) :=
          below_store (below_store (below_store ((unhide HB4).trans (hb5'.mono (by omega))) (Nat.le_refl _) _) (Nat.le_refl _) _) (Nat.le_refl _) _
        have hsz6 : w.heap.size + 1 ≤ (((w5.setCell ⟨w.heap.size, (348 + q) * 2, none⟩ (.int .u64 (entHi (q : Int) : Nat))).setCell ⟨w.heap.size, (348 + q) * 2 + 1, none⟩ (.int .u64 (entLo (q : Int) : Nat))).setCell ⟨w.heap.size, 1392 + (348 + q), none⟩ (.int .i16 (entE (q : Int)))).heap.size := by
          have := hb5'.size
          simp [World.setCell]; omega
        obtain ⟨w6, hw6⟩ : ∃ w6, w6 = ((w5.setCell ⟨w.heap.size, (348 + q) * 2, none⟩ (.int .u64 (entHi (q : Int) : Nat))).setCell ⟨w.heap.size, (348 + q) * 2 + 1, none⟩ (.int .u64 (entLo (q : Int) : Nat))).setCell ⟨w.heap.size, 1392 + (348 + q), none⟩ (.int .i16 (entE (q : Int))) := ⟨_, rfl⟩
        rw [← hw6] at ht6 hp6 h56 hb6 hsz6 ⊢
        clear hw6 ht5' hb5' ht5 c0 f0 c1 f1 c2 f2 hb5 HEN wr2 hq0 hq1 HT HP H5 htn HB4
        have hmul := mul_any w6 a' cap' _ (5 ^ q) (val_lim _) hp6.sl a5 cap5 _ 5 (val_lim _) h56.sl (by have := pow5_len q; rw [lim_one 5 (by omega) (by omega)]; simp; omega)
        rw [← Nat.pow_succ] at hmul
        have HM := hide hmul
        have H56 := hide h56
        have HT6 := hide ht6
        clear hmul hp6 h56 ht6
        go_wp2_with fail
        refine (unhide HM).mono ?_
        rintro e w7 ⟨a7, cap7, rfl, hres7, hb7⟩
        have hsz7 := hb7.size
        have HR7 := hide hres7
        clear hres7 HM
        go_wp2
        go_roundw
        case rel =>
          refine ⟨q + 1, by omega, by simp, hb6.trans (hb7.mono (by omega)), by omega, ((unhide HT6).later hb7).mono ?_, (unhide H56).later hb7, a7, cap7, rfl, (unhide HR7).lower (by omega)⟩
          intro i hi h
          by_cases h1 : i = 348 + q
          · exact .inr h1
          · left
            by_cases h2 : i = 348 - q
            · exact .inr h2
            · left; omega
        case measure => simp [intOf]; omega
      · have hmul := mul_any w4 a' cap' _ (5 ^ q) (val_lim _) hp4.sl a5 cap5 _ 5 (val_lim _) h54.sl (by have := pow5_len q; rw [lim_one 5 (by omega) (by omega)]; simp; omega)
        rw [← Nat.pow_succ] at hmul
        have HM := hide hmul
        have H54 := hide h54
        have HT4 := hide ht4
        clear hmul hp4 h54 ht4
        go_wp2_with fail
        refine (unhide HM).mono ?_
        rintro e w7 ⟨a7, cap7, rfl, hres7, hb7⟩
        have hsz7 := hb7.size
        have HR7 := hide hres7
        clear hres7 HM
        go_wp2
        go_roundw
        case rel =>
          refine ⟨q + 1, by omega, by simp, hb4.trans (hb7.mono (by omega)), by omega, ((unhide HT4).later hb7).mono ?_, (unhide H54).later hb7, a7, cap7, rfl, (unhide HR7).lower (by omega)⟩
          intro i hi h
          by_cases h2 : i = 348 - q
          · exact .inr h2
          · left; omega
        case measure => simp [intOf]; omega

end Go.Proofs.YgcoaaGreat.NatW
