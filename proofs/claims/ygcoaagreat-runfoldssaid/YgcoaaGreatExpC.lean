/-
  Package expand: fraction.
-/
import Derived.Test.YgcoaaGreatLaxW
import Derived.Test.YgcoaaGreatExpB
set_option linter.unusedVariables false
set_option linter.unusedSimpArgs false
namespace Go.Proofs.YgcoaaGreat.NatW
attribute [local go_sem] Go.Instr.field Go.asAgg
open Go.RowKit

theorem Bank.blk {w w' : World} {b off n : Nat} {k : IntKind} {p : Int → Prop} (h : Bank w b off n k p) (hb : w'.heap[b]? = w.heap[b]?) : Bank w' b off n k p := fun i hi => by
  rw [World.cell?_of_block (a := ⟨b, off + i, none⟩) hb]; exact h i hi
theorem Mine.blk {w w' : World} {b : Nat} (h : Mine w b) (hb : w'.heap[b]? = w.heap[b]?) : Mine w' b := by
  refine ⟨?_, fun i => by rw [World.frozen?_of_block (a := ⟨b, i, none⟩) hb]; exact h.2 i⟩
  rcases Nat.lt_or_ge b w'.heap.size with h' | h'
  · exact h'
  · rw [Array.getElem?_eq_none h', Array.getElem?_eq_getElem h.1] at hb; cases hb

/-- fraction's memory: the expansion d, the limbs in a block of its own. -/
structure FR (w : World) (d : Nat) (sig prec : Int) (wr : World) : Prop where
  dlt : d < w.heap.size
  ex : ∃ n top, Exps wr d n top sig prec ∧ n ≤ 1440
  m : Mine wr w.heap.size
  b : Bank wr w.heap.size 0 18 .u64 U64
  g : w.grownBy wr (some d)
theorem FR.later {w wr wr' : World} {d : Nat} {sig prec : Int} (h : FR w d sig prec wr) (hb : Below wr.heap.size wr wr') : FR w d sig prec wr' :=
  ⟨h.dlt, by obtain ⟨n, t, h1, h2⟩ := h.ex; exact ⟨n, t, h1.kept hb, h2⟩, h.m.kept hb h.m.1, h.b.kept hb h.m.1, grow_trans h.g (grow_below hb _)⟩
theorem Exps.other {w : World} {d n : Nat} {top sig prec : Int} (h : Exps w d n top sig prec) {c j : Nat} {x : Value} (hc : c ≠ d) : Exps (w.setCell ⟨c, j, none⟩ x) d n top sig prec := h.same (Below.heap_setCell _ _ _ _ (by simpa using Ne.symm hc))
theorem FR.setW {w wr : World} {d : Nat} {sig prec : Int} (h : FR w d sig prec wr) (i : Nat) {v : Int} (hv : U64 v) : FR w d sig prec (wr.setCell ⟨w.heap.size, i, none⟩ (.int .u64 v)) :=
  ⟨h.dlt, by obtain ⟨n, t, h1, h2⟩ := h.ex; exact ⟨n, t, h1.other (by have := h.dlt; omega), h2⟩, h.m.set _ _, h.b.set i hv,
   ⟨h.g.os, h.g.tape, h.g.output, by rw [World.size_setCell]; exact h.g.size, fun k hk hr => (Below.heap_setCell _ _ _ _ (by simp; omega)).trans (h.g.block k hk hr)⟩⟩
theorem FR.put {w wr wr' : World} {d n' : Nat} {sig prec top' : Int} (h : FR w d sig prec wr) (he : Exps wr' d n' top' sig prec) (hn : n' ≤ 1440) (hg : wr.grownBy wr' (some d)) : FR w d sig prec wr' := by
  have hb : wr'.heap[w.heap.size]? = wr.heap[w.heap.size]? := hg.block _ h.m.1 (by have := h.dlt; simp; omega)
  exact ⟨h.dlt, ⟨n', top', he, hn⟩, h.m.blk hb, h.b.blk hb, grow_trans h.g hg⟩

def FracR (w : World) (d : Nat) (sig prec : Int) (t8 t9 t10 : Value) (wr : World) : Prop := ∃ lo hi tn : Nat, t8 = .int .i64 lo ∧ t9 = .int .i64 hi ∧ t10 = .int .i64 tn ∧ lo ≤ hi ∧ hi ≤ 18 ∧ 1 ≤ tn ∧ tn ≤ 200 ∧ FR w d sig prec wr
def FracL (hi : Nat) (t8 : Value) : Prop := ∃ lo : Nat, t8 = .int .i64 lo ∧ lo ≤ hi
def FracI (w : World) (d : Nat) (sig prec : Int) (hi : Nat) (t11 t12 : Value) (wr : World) : Prop := ∃ (c : Int) (i : Nat), t11 = .int .u64 c ∧ U64 c ∧ t12 = .int .i64 i ∧ i ≤ hi ∧ FR w d sig prec wr

/-- What stands while region 21 is carried out. -/
structure FrI (S pb : Nat) (h2 l2 : Int) (w : World) : Prop where
  m : Mine w S
  b : Bank w S 0 18 .u64 U64
  c0 : w.cell? ⟨pb, 0, none⟩ = some (.int .u64 h2)
  c1 : w.cell? ⟨pb, 1, none⟩ = some (.int .u64 l2)
theorem FrI.later {S pb : Nat} {h2 l2 : Int} (w w' : World) (h : FrI S pb h2 l2 w) (hb : Below w.heap.size w w') : FrI S pb h2 l2 w' :=
  ⟨h.m.kept hb h.m.1, h.b.kept hb h.m.1, (hb.cell (p := ⟨pb, 0, none⟩) (World.block_lt_of_cell? _ _ h.c0)).trans h.c0, (hb.cell (p := ⟨pb, 1, none⟩) (World.block_lt_of_cell? _ _ h.c1)).trans h.c1⟩
theorem FrI.set {S pb : Nat} {h2 l2 : Int} {w : World} (h : FrI S pb h2 l2 w) (hp : pb ≠ S) (i : Nat) {v : Int} (hv : U64 v) : FrI S pb h2 l2 (w.setCell ⟨S, i, none⟩ (.int .u64 v)) :=
  ⟨h.m.set _ _, h.b.set i hv, by rw [cell_set _ _ _ _ _ _ _ h.c0, if_neg (by omega)], by rw [cell_set _ _ _ _ _ _ _ h.c1, if_neg (by omega)]⟩

set_option maxRecDepth 20000 in
set_option maxHeartbeats 8000000 in
theorem fraction_any (d n : Nat) (top sig prec : Int) (hn : n ≤ 1440) (hprec : prec ≤ 3000) (m : Nat) (hm : m < 18446744073709551616) (k : Int) (hk1 : 1 ≤ k) (hk2 : k ≤ 1151) (w : World) (h : Exps w d n top sig prec) (K : Ending → World → Prop)
    (hK : ∀ n' top' w', Exps w' d n' top' sig prec → w.grownBy w' (some d) → K (.returned (.tuple #[])) w') : Calls Oaag.prog 411 #[.pointer (some ⟨d, 0, none⟩), .int .u64 m, .int .i16 k] w K := by
  obtain ⟨a, hka⟩ : ∃ a : Nat, 1152 - k = (a : Int) := ⟨(1152 - k).toNat, by omega⟩
  have ha1 : 1 ≤ a := by omega
  have ha2 : a ≤ 1151 := by omega
  have HK := hide hK
  clear hK
  go_enter Oaag.func411, Oaag.ntmps411
  go_wp2_with (refine wpList_newc 392 _ z392 rfl rfl ?_; refine unhide ?_)
  obtain ⟨w2, hw2⟩ : ∃ w2, w2 = w.alloc (.cells (Array.replicate 18 (.int .u64 0)) 392) := ⟨_, rfl⟩
  have hfr : FR w d sig prec w2 := by
    refine ⟨h.own.1, ⟨n, top, ?_, hn⟩, ?_, ?_, ?_⟩
    · rw [hw2]; exact h.kept ((Below.refl _ _).alloc (Nat.le_refl _) _)
    · rw [hw2]; exact Mine.new w _ _
    · rw [hw2]; exact Bank.new w _ _ _ _ _ _ fun i hi => ⟨0, by rw [Nat.zero_add, Array.getElem?_replicate, if_pos hi], by decide, by decide⟩
    · rw [hw2]; exact World.grownBy_alloc _ _ _
  rw [← hw2]
  have hz : w.heap.size < w2.heap.size := hfr.m.1
  clear hw2 h
  refine hide ?_
  obtain ⟨v1, k1, -⟩ := hfr.b.cell (a / 64) (by omega)
  have f1 := hfr.m.2 (a / 64)
  have f2 := hfr.m.2 (a / 64 + 1)
  have k2 : ∀ u, ∃ v, a / 64 + 1 < 18 → (w2.setCell ⟨w.heap.size, a / 64, none⟩ u).cell? ⟨w.heap.size, a / 64 + 1, none⟩ = some v := fun u => by
    by_cases hc : a / 64 + 1 < 18
    · obtain ⟨v, h, -⟩ := hfr.b.cell (a / 64 + 1) hc
      exact ⟨_, fun _ => cell_set _ _ _ _ _ _ _ h⟩
    · exact ⟨undef, fun h => absurd h hc⟩
  obtain ⟨v2, hv2⟩ := Classical.axiomOfChoice k2
  clear k2
  have HF := hide hfr
  clear hfr
  by_cases hr : a % 64 = 0
  · have er : ((a : Int) % 64 != 0) = false := by simp; omega
    have HV2 := hide hv2
    clear hv2
    go_wp2_with fail
    ((first | with_reducible refine Go.Proofs.YgcoaaGreat.NatW.gen_calls ?_ | with_reducible refine Go.Proofs.YgcoaaGreat.NatW.gen_wp ?_ | with_reducible refine Go.Proofs.YgcoaaGreat.NatW.gen_list ?_ | with_reducible refine Go.Proofs.YgcoaaGreat.NatW.gen_body ?_); intro W hW)
    have hf0 : FR w d sig prec W := by rw [← hW]; exact (unhide HF).setW _ ⟨by omega, by omega⟩
    have hst : FracR w d sig prec (.int .i64 0) (.int .i64 ((a : Int) / 64 + 1)) (.int .i64 1) W := ⟨0, (a / 64 + 1), 1, rfl, by simp, rfl, by omega, by omega, by omega, by omega, hf0⟩
    have HST := hide hst
    clear hst hf0 hW HF k1 f1 f2 HV2 hr er hka ha1 ha2
    go_loopw [8, 9, 10] (FracR w d sig prec) (fun _ _ t10 _ => 201 - (intOf t10).toNat)
    case atStart => exact unhide HST
    case round =>
      clear HST
      obtain ⟨lo, hi, tn, rfl, rfl, rfl, hlo, hhi, ht1, ht2, hf⟩ := hrel
      have HF := hide hf
      clear hf
      go_wp2_with fail
      go_loop [8] (FracL hi) (fun t8 => hi - (intOf t8).toNat)
      case atStart => exact ⟨lo, rfl, hlo⟩
      case round =>
        obtain ⟨lo2, rfl, hlo2⟩ := hrel
        by_cases hlt : lo2 < hi
        · obtain ⟨vl, kl, -⟩ := (unhide HF).b.cell lo2 (by omega)
          have e0 : (vl == 0) = decide (vl = 0) := rfl
          have eh : ((lo2 : Int) == hi) = false := by simp; omega
          by_cases hv0 : vl = 0
          · simp only [hv0, decide_true] at e0
            go_wp2_with fail
            exact ⟨⟨lo2 + 1, by simp, by omega⟩, by simp [intOf]; omega⟩
          · simp only [hv0, decide_false] at e0
            go_wp2_with fail
            obtain ⟨n1, top1, he1, hn1⟩ := (unhide HF).ex
            refine enough_any d n1 top1 sig prec _ ⟨by omega, by omega⟩ wr he1 _ ?_
            intro bb w3 hb1 hb2 hbel
            have hf3 := (unhide HF).later hbel
            have he3 := he1.kept hbel
            clear HF kl he1
            cases bb
            · have hbd : ((tn : Int) - 1) * 18 ≤ prec := by
                rcases Int.lt_or_le prec (((tn : Int) - 1) * 18) with hh | hh
                · exact absurd (hb1 hh) (by simp)
                · exact hh
              clear hb1 hb2 hbel he3
              have HF3 := hide hf3
              clear hf3
              go_wp2_with fail
              go_loopw [11, 12] (FracI w d sig prec hi) (fun _ t12 _ => hi - (intOf t12).toNat)
              case atStart => exact ⟨0, lo2, rfl, u64_zero', rfl, by omega, unhide HF3⟩
              case round =>
                clear HF3
                obtain ⟨c, i, rfl, uc, rfl, hi1, hf⟩ := hrel
                by_cases hih : i < hi
                · obtain ⟨vi, ki, ui⟩ := hf.b.cell i (by omega)
                  have HF := hide hf
                  clear hf
                  go_wp2_with fail
                  refine (mul64_ret vi 1000000000000000000 ui (by (first | assumption | exact U64.wrap _ | exact U64.bits _ _ _ | exact U64.div (by first | assumption | exact U64.wrap _ | exact U64.bits _ _ _ | exact U64.div (by first | assumption | exact U64.wrap _ | exact U64.bits _ _ _ | exact U64.lit (by omega) (by omega)) _ | exact U64.ediv (by first | assumption | exact U64.wrap _ | exact U64.bits _ _ _ | exact U64.lit (by omega) (by omega)) _ (by omega) | exact U64.lit (by omega) (by omega) | exact U64.one _ (by first | assumption | exact U64.wrap _ | exact U64.bits _ _ _ | exact U64.lit (by omega) (by omega)) (by first | assumption | exact U64.wrap _ | exact U64.bits _ _ _ | exact U64.lit (by omega) (by omega))) _ | exact U64.ediv (by first | assumption | exact U64.wrap _ | exact U64.bits _ _ _ | exact U64.div (by first | assumption | exact U64.wrap _ | exact U64.bits _ _ _ | exact U64.lit (by omega) (by omega)) _ | exact U64.ediv (by first | assumption | exact U64.wrap _ | exact U64.bits _ _ _ | exact U64.lit (by omega) (by omega)) _ (by omega) | exact U64.lit (by omega) (by omega) | exact U64.one _ (by first | assumption | exact U64.wrap _ | exact U64.bits _ _ _ | exact U64.lit (by omega) (by omega)) (by first | assumption | exact U64.wrap _ | exact U64.bits _ _ _ | exact U64.lit (by omega) (by omega))) _ (by omega) | exact U64.lit (by omega) (by omega) | exact U64.one _ (by first | assumption | exact U64.wrap _ | exact U64.bits _ _ _ | exact U64.div (by first | assumption | exact U64.wrap _ | exact U64.bits _ _ _ | exact U64.lit (by omega) (by omega)) _ | exact U64.ediv (by first | assumption | exact U64.wrap _ | exact U64.bits _ _ _ | exact U64.lit (by omega) (by omega)) _ (by omega) | exact U64.lit (by omega) (by omega) | exact U64.one _ (by first | assumption | exact U64.wrap _ | exact U64.bits _ _ _ | exact U64.lit (by omega) (by omega)) (by first | assumption | exact U64.wrap _ | exact U64.bits _ _ _ | exact U64.lit (by omega) (by omega))) (by first | assumption | exact U64.wrap _ | exact U64.bits _ _ _ | exact U64.div (by first | assumption | exact U64.wrap _ | exact U64.bits _ _ _ | exact U64.lit (by omega) (by omega)) _ | exact U64.ediv (by first | assumption | exact U64.wrap _ | exact U64.bits _ _ _ | exact U64.lit (by omega) (by omega)) _ (by omega) | exact U64.lit (by omega) (by omega) | exact U64.one _ (by first | assumption | exact U64.wrap _ | exact U64.bits _ _ _ | exact U64.lit (by omega) (by omega)) (by first | assumption | exact U64.wrap _ | exact U64.bits _ _ _ | exact U64.lit (by omega) (by omega)))))) wr _ ?_
                  rintro _ w4 ⟨h1, l1, rfl, uh1, ul1⟩ hb4
                  have hf := (unhide HF).later hb4
                  have HF4 := hide hf
                  clear hf HF ki hb4
                  go_wp2_with fail
                  refine (wadd_ret h1 l1 0 c uh1 ul1 u64_zero' uc) w4 _ ?_
                  rintro _ w5 ⟨h2, l2, b2, rfl, uh2, ul2⟩ hb5
                  have hf := (unhide HF4).later hb5
                  have HF5 := hide hf
                  clear hf HF4 hb5
                  go_wp2_with fail
                  obtain ⟨pb, hpb⟩ : ∃ pb, w5.heap.size = pb := ⟨_, rfl⟩
                  have hf6 : FR w d sig prec (w5.alloc (.cells #[.int .u64 h2, .int .u64 l2] 47)) := (unhide HF5).later ((Below.refl _ _).alloc (Nat.le_refl _) _)
                  have cp0 : (w5.alloc (.cells #[.int .u64 h2, .int .u64 l2] 47)).cell? ⟨pb, 0, none⟩ = some (.int .u64 h2) := by rw [← hpb, World.cell?_alloc_new]; rfl
                  have cp1 : (w5.alloc (.cells #[.int .u64 h2, .int .u64 l2] 47)).cell? ⟨pb, 1, none⟩ = some (.int .u64 l2) := by rw [← hpb, World.cell?_alloc_new]; rfl
                  have hpS : pb ≠ w.heap.size := by have := (unhide HF5).m.1; omega
                  rw [hpb]
                  ((first | with_reducible refine Go.Proofs.YgcoaaGreat.NatW.gen_calls ?_ | with_reducible refine Go.Proofs.YgcoaaGreat.NatW.gen_wp ?_ | with_reducible refine Go.Proofs.YgcoaaGreat.NatW.gen_list ?_ | with_reducible refine Go.Proofs.YgcoaaGreat.NatW.gen_body ?_); intro W hW)
                  rw [hW] at hf6 cp0 cp1
                  clear hW HF5 hpb
                  obtain ⟨wb, x0, hx, hS, hall⟩ := trunc W w.heap.size (Nat.le_of_lt hf6.m.1)
                  have hI0 : FrI w.heap.size pb h2 l2 x0.at_ := by rw [← hx]; exact ⟨hf6.m, hf6.b, cp0, cp1⟩
                  have HF6 := hide hf6
                  have HALL := hide hall
                  have HI0 := hide hI0
                  clear hf6 cp0 cp1 hall hI0
                  rw [hx]
                  have hne : Nonempty (Later wb) := ⟨x0⟩
                  have HX := hide hx
                  clear hx
                  (repeat (first | (rewrite [Go.Proofs.YgcoaaGreat.NatW.frz_ite]; generalize Go.Proofs.YgcoaaGreat.NatW.frzI _ = x__) | (rewrite [Go.Proofs.YgcoaaGreat.NatW.frz_dec]; generalize Go.Proofs.YgcoaaGreat.NatW.frzB _ = x__) | (rewrite [Go.Proofs.YgcoaaGreat.NatW.frz_beq]; generalize Go.Proofs.YgcoaaGreat.NatW.frzB _ = x__) | (rewrite [Go.Proofs.YgcoaaGreat.NatW.frz_not]; generalize Go.Proofs.YgcoaaGreat.NatW.frzB _ = x__) | (rewrite [Go.Proofs.YgcoaaGreat.NatW.frz_and]; generalize Go.Proofs.YgcoaaGreat.NatW.frzB _ = x__) | (rewrite [Go.Proofs.YgcoaaGreat.NatW.frz_or]; generalize Go.Proofs.YgcoaaGreat.NatW.frzB _ = x__)))
                  refine Go.LaxS.region_stores _ 7 3 [(2, fun v => v = .int .u64 l2), (4, fun v => v = .int .u64 h2)] [6] (FrI w.heap.size pb h2 l2) (by kernel_rfl) (by kernel_rfl) (by kernel_rfl) (by kernel_rfl) (unhide HI0) FrI.later (List.forall_mem_cons.2 ⟨⟨_, rfl⟩, List.forall_mem_cons.2 ⟨⟨_, rfl⟩, fun _ h => by cases h⟩⟩) ?_
                  iterate 2 (refine Go.LaxS.walk_det rfl rfl rfl rfl ?_; go_big_quiet_want; go_big_quiet_op; go_big_quiet_on; refine wpQuiet_nil ?_)
                  refine Go.LaxS.call_atI rfl rfl rfl FrI.later ?_ (fun y K hI hK => by
                    have c1 := hI.c1
                    have HKK := hide hK
                    clear hK hI
                    go_wp2_with fail
                    exact unhide HKK _ _ rfl (Below.refl _ _))
                  rintro v rfl
                  ((try dsimp only); go_big_quiet_want; go_big_quiet_op; go_big_quiet_on; refine wpQuiet_nil ?_)
                  (refine Go.LaxS.walk_det rfl rfl rfl rfl ?_; go_big_quiet_want; go_big_quiet_op; go_big_quiet_on; refine wpQuiet_nil ?_)
                  refine Go.LaxS.call_atI rfl rfl rfl FrI.later ?_ (fun y K hI hK => by
                    have c0 := hI.c0
                    have HKK := hide hK
                    clear hK hI
                    go_wp2_with fail
                    exact unhide HKK _ _ rfl (Below.refl _ _))
                  rintro v rfl
                  ((try dsimp only); go_big_quiet_want; go_big_quiet_op; go_big_quiet_on; refine wpQuiet_nil ?_)
                  (refine Go.LaxS.walk_det rfl rfl rfl rfl ?_; go_big_quiet_want; go_big_quiet_op; go_big_quiet_on; refine wpQuiet_nil ?_)
                  refine Go.LaxS.store_at rfl rfl rfl rfl ?_ (fun y K hI hK2 => by
                    obtain ⟨vi', ki', -⟩ := hI.b.cell i (by omega)
                    have fi := hI.m.2 i
                    have HR := hide hI
                    have HK2 := hide hK2
                    clear hI hK2
                    go_wp2_with fail
                    exact unhide HK2 _ (below_store y.ok (by omega) _) ((unhide HR).set hpS i ul2))
                  refine Go.LaxS.end_at ?_
                  intro y hI hG
                  clear hG
                  have hf7 : FR w d sig prec y.at_ := by
                    have h6 := unhide HF6
                    obtain ⟨q1, q2⟩ := unhide HALL y
                    obtain ⟨n6, t6, e6, hn6⟩ := h6.ex
                    exact ⟨h6.dlt, ⟨n6, t6, e6.same (q1 d h6.dlt), hn6⟩, hI.m, hI.b, q2 w (some d) rfl h6.g⟩
                  have HF7 := hide hf7
                  clear hf7 hI HF6 HALL HI0 HX
                  go_wp2_with fail
                  exact ⟨⟨h2, i + 1, rfl, uh2, by simp, by omega, unhide HF7⟩, by simp [intOf]; omega⟩
                · have hii : i = hi := by omega
                  subst hii
                  obtain ⟨n5, top5, he5, hn5⟩ := hf.ex
                  have e5 : (c != 0) = !decide (c = 0) := rfl
                  by_cases hcc : i < 18 ∧ ¬ c = 0
                  · obtain ⟨hc18, hc0⟩ := hcc
                    simp only [hc0, decide_false, Bool.not_false] at e5
                    obtain ⟨vh, kh, -⟩ := hf.b.cell i hc18
                    have fh := hf.m.2 i
                    have hf8 := hf.setW i uc
                    have he8 := he5.other (c := w.heap.size) (j := i) (x := .int .u64 c) (by have := hf.dlt; omega)
                    have HF8 := hide hf8
                    have HE8 := hide he8
                    clear hf hf8 he5 he8
                    go_wp2_with fail
                    refine put_any d n5 top5 sig prec 0 u64_zero' true hn5 _ (unhide HE8) _ ?_
                    intro n9 top9 w9 he9 hn9 hg9
                    have HF9 := hide ((unhide HF8).put he9 hn9 hg9)
                    clear he9 hg9 HF8 HE8
                    go_wp2_with fail
                    exact ⟨⟨lo2, i + 1, tn + 1, rfl, by simp, by simp, by omega, by omega, by omega, by omega, unhide HF9⟩, by simp [intOf]; omega⟩
                  · have HF8 := hide hf
                    have HE8 := hide he5
                    clear hf he5
                    by_cases hc0 : c = 0
                    · subst hc0
                      by_cases hc18 : i < 18
                      · go_wp2_with fail
                        refine put_any d n5 top5 sig prec 0 u64_zero' true hn5 _ (unhide HE8) _ ?_
                        intro n9 top9 w9 he9 hn9 hg9
                        have HF9 := hide ((unhide HF8).put he9 hn9 hg9)
                        clear he9 hg9 HF8 HE8
                        go_wp2_with fail
                        exact ⟨⟨lo2, i, tn + 1, rfl, rfl, by simp, by omega, by omega, by omega, by omega, unhide HF9⟩, by simp [intOf]; omega⟩
                      · go_wp2_with fail
                        refine put_any d n5 top5 sig prec 0 u64_zero' true hn5 _ (unhide HE8) _ ?_
                        intro n9 top9 w9 he9 hn9 hg9
                        have HF9 := hide ((unhide HF8).put he9 hn9 hg9)
                        clear he9 hg9 HF8 HE8
                        go_wp2_with fail
                        exact ⟨⟨lo2, i, tn + 1, rfl, rfl, by simp, by omega, by omega, by omega, by omega, unhide HF9⟩, by simp [intOf]; omega⟩
                    · simp only [hc0, decide_false, Bool.not_false] at e5
                      have hc18 : ¬ i < 18 := fun hh => hcc ⟨hh, hc0⟩
                      clear hcc
                      go_wp2_with fail
                      refine put_any d n5 top5 sig prec c uc true hn5 _ (unhide HE8) _ ?_
                      intro n9 top9 w9 he9 hn9 hg9
                      have HF9 := hide ((unhide HF8).put he9 hn9 hg9)
                      clear he9 hg9 HF8 HE8
                      go_wp2_with fail
                      exact ⟨⟨lo2, i, tn + 1, rfl, rfl, by simp, by omega, by omega, by omega, by omega, unhide HF9⟩, by simp [intOf]; omega⟩
            · clear hb1 hb2 hbel
              obtain ⟨wb, x0, hwb, hB⟩ := boxes0 w3
              have h' : ∀ x : Later wb, Exps x.at_ d n1 top1 sig prec := fun x => by subst hwb; exact he3.kept (hB x)
              have hg' : ∀ x : Later wb, w.grownBy x.at_ (some d) := fun x => by subst hwb; exact grow_trans hf3.g (grow_below (hB x) _)
              subst hwb
              clear he3 hf3
              have hne : Nonempty (Later wb) := ⟨x0⟩
              have k1 := fun x => (h' x).n_
              have f1 := fun x => (h' x).own.2 1441
              have f3 := fun x => (h' x).own.2 n1
              have k3 := fun x => (h' x).dig.cell n1 (by omega)
              have ks1 : ∀ (x : Later wb) u, (x.at_.setCell ⟨d, n1, none⟩ u).cell? ⟨d, 1441, none⟩ = some (.int .i64 n1) := fun x u => by rw [cell_set _ _ _ _ _ _ _ (k1 x), if_neg (by omega)]
              have HE := hide h'
              have HG := hide hg'
              clear h' hg'
              go_wp2_with (first
                | (with_reducible refine Go.Proofs.YgcoaaGreat.NatW.at_reg 14 ?_
                   (repeat (first | (rewrite [Go.Proofs.YgcoaaGreat.NatW.frz_ite]; generalize Go.Proofs.YgcoaaGreat.NatW.frzI _ = x__) | (rewrite [Go.Proofs.YgcoaaGreat.NatW.frz_dec]; generalize Go.Proofs.YgcoaaGreat.NatW.frzB _ = x__) | (rewrite [Go.Proofs.YgcoaaGreat.NatW.frz_beq]; generalize Go.Proofs.YgcoaaGreat.NatW.frzB _ = x__) | (rewrite [Go.Proofs.YgcoaaGreat.NatW.frz_not]; generalize Go.Proofs.YgcoaaGreat.NatW.frzB _ = x__) | (rewrite [Go.Proofs.YgcoaaGreat.NatW.frz_and]; generalize Go.Proofs.YgcoaaGreat.NatW.frzB _ = x__) | (rewrite [Go.Proofs.YgcoaaGreat.NatW.frz_or]; generalize Go.Proofs.YgcoaaGreat.NatW.frzB _ = x__)))
                   (refine region_then _ 8 4 (by kernel_rfl) (by kernel_rfl) (by kernel_rfl) ?_; simp only [List.take, List.drop]; (repeat (first | go_big_quiet_skip | (go_big_quiet_want; go_big_quiet_op; go_big_quiet_on))); refine wpQuiet_nil ?_)
                   intro y
                   obtain ⟨vm, k3y, -⟩ := k3 y))
              refine bodyPost_box rfl ?_; intro r hr; simp [results, Oaag.results411, go_sem] at hr; subst hr; refine ⟨_, rfl, ?_⟩
              exact unhide HK _ _ _ (Exps.push1 (unhide HE _) _ _ (by omega) (n1 + 1) (by simp) (by omega)) (grow_set1 (grow_set1 (unhide HG _) _ _) _ _)
        · have hlh : lo2 = hi := by omega
          subst hlh
          go_wp2_with fail
          obtain ⟨n1, top1, he1, hn1⟩ := (unhide HF).ex
          refine bodyPost_box rfl ?_; intro r hr; simp [results, Oaag.results411, go_sem] at hr; subst hr; refine ⟨_, rfl, ?_⟩
          exact unhide HK _ _ _ he1 (unhide HF).g
  · have er : ((a : Int) % 64 != 0) = true := by simp; omega
    by_cases hc : a / 64 + 1 < 18
    · replace hv2 := fun u => hv2 u hc
      have HV2 := hide hv2
      have hc1 : (a : Int) / 64 + 1 < 18 := by omega
      go_wp2_with fail
      ((first | with_reducible refine Go.Proofs.YgcoaaGreat.NatW.gen_calls ?_ | with_reducible refine Go.Proofs.YgcoaaGreat.NatW.gen_wp ?_ | with_reducible refine Go.Proofs.YgcoaaGreat.NatW.gen_list ?_ | with_reducible refine Go.Proofs.YgcoaaGreat.NatW.gen_body ?_); intro W hW)
      have hf0 : FR w d sig prec W := by rw [← hW]; exact ((unhide HF).setW _ (wr64' _)).setW _ (u64_div _ _ hm)
      have hst : FracR w d sig prec (.int .i64 0) (.int .i64 ((a : Int) / 64 + 1 + 1)) (.int .i64 1) W := ⟨0, (a / 64 + 1 + 1), 1, rfl, by simp, rfl, by omega, by omega, by omega, by omega, hf0⟩
      have HST := hide hst
      clear hst hf0 hW HF k1 f1 f2 HV2 hr er hc hc1 hka ha1 ha2
      go_loopw [8, 9, 10] (FracR w d sig prec) (fun _ _ t10 _ => 201 - (intOf t10).toNat)
      case atStart => exact unhide HST
      case round =>
        clear HST
        obtain ⟨lo, hi, tn, rfl, rfl, rfl, hlo, hhi, ht1, ht2, hf⟩ := hrel
        have HF := hide hf
        clear hf
        go_wp2_with fail
        go_loop [8] (FracL hi) (fun t8 => hi - (intOf t8).toNat)
        case atStart => exact ⟨lo, rfl, hlo⟩
        case round =>
          obtain ⟨lo2, rfl, hlo2⟩ := hrel
          by_cases hlt : lo2 < hi
          · obtain ⟨vl, kl, -⟩ := (unhide HF).b.cell lo2 (by omega)
            have e0 : (vl == 0) = decide (vl = 0) := rfl
            have eh : ((lo2 : Int) == hi) = false := by simp; omega
            by_cases hv0 : vl = 0
            · simp only [hv0, decide_true] at e0
              go_wp2_with fail
              exact ⟨⟨lo2 + 1, by simp, by omega⟩, by simp [intOf]; omega⟩
            · simp only [hv0, decide_false] at e0
              go_wp2_with fail
              obtain ⟨n1, top1, he1, hn1⟩ := (unhide HF).ex
              refine enough_any d n1 top1 sig prec _ ⟨by omega, by omega⟩ wr he1 _ ?_
              intro bb w3 hb1 hb2 hbel
              have hf3 := (unhide HF).later hbel
              have he3 := he1.kept hbel
              clear HF kl he1
              cases bb
              · have hbd : ((tn : Int) - 1) * 18 ≤ prec := by
                  rcases Int.lt_or_le prec (((tn : Int) - 1) * 18) with hh | hh
                  · exact absurd (hb1 hh) (by simp)
                  · exact hh
                clear hb1 hb2 hbel he3
                have HF3 := hide hf3
                clear hf3
                go_wp2_with fail
                go_loopw [11, 12] (FracI w d sig prec hi) (fun _ t12 _ => hi - (intOf t12).toNat)
                case atStart => exact ⟨0, lo2, rfl, u64_zero', rfl, by omega, unhide HF3⟩
                case round =>
                  clear HF3
                  obtain ⟨c, i, rfl, uc, rfl, hi1, hf⟩ := hrel
                  by_cases hih : i < hi
                  · obtain ⟨vi, ki, ui⟩ := hf.b.cell i (by omega)
                    have HF := hide hf
                    clear hf
                    go_wp2_with fail
                    refine (mul64_ret vi 1000000000000000000 ui (by (first | assumption | exact U64.wrap _ | exact U64.bits _ _ _ | exact U64.div (by first | assumption | exact U64.wrap _ | exact U64.bits _ _ _ | exact U64.div (by first | assumption | exact U64.wrap _ | exact U64.bits _ _ _ | exact U64.lit (by omega) (by omega)) _ | exact U64.ediv (by first | assumption | exact U64.wrap _ | exact U64.bits _ _ _ | exact U64.lit (by omega) (by omega)) _ (by omega) | exact U64.lit (by omega) (by omega) | exact U64.one _ (by first | assumption | exact U64.wrap _ | exact U64.bits _ _ _ | exact U64.lit (by omega) (by omega)) (by first | assumption | exact U64.wrap _ | exact U64.bits _ _ _ | exact U64.lit (by omega) (by omega))) _ | exact U64.ediv (by first | assumption | exact U64.wrap _ | exact U64.bits _ _ _ | exact U64.div (by first | assumption | exact U64.wrap _ | exact U64.bits _ _ _ | exact U64.lit (by omega) (by omega)) _ | exact U64.ediv (by first | assumption | exact U64.wrap _ | exact U64.bits _ _ _ | exact U64.lit (by omega) (by omega)) _ (by omega) | exact U64.lit (by omega) (by omega) | exact U64.one _ (by first | assumption | exact U64.wrap _ | exact U64.bits _ _ _ | exact U64.lit (by omega) (by omega)) (by first | assumption | exact U64.wrap _ | exact U64.bits _ _ _ | exact U64.lit (by omega) (by omega))) _ (by omega) | exact U64.lit (by omega) (by omega) | exact U64.one _ (by first | assumption | exact U64.wrap _ | exact U64.bits _ _ _ | exact U64.div (by first | assumption | exact U64.wrap _ | exact U64.bits _ _ _ | exact U64.lit (by omega) (by omega)) _ | exact U64.ediv (by first | assumption | exact U64.wrap _ | exact U64.bits _ _ _ | exact U64.lit (by omega) (by omega)) _ (by omega) | exact U64.lit (by omega) (by omega) | exact U64.one _ (by first | assumption | exact U64.wrap _ | exact U64.bits _ _ _ | exact U64.lit (by omega) (by omega)) (by first | assumption | exact U64.wrap _ | exact U64.bits _ _ _ | exact U64.lit (by omega) (by omega))) (by first | assumption | exact U64.wrap _ | exact U64.bits _ _ _ | exact U64.div (by first | assumption | exact U64.wrap _ | exact U64.bits _ _ _ | exact U64.lit (by omega) (by omega)) _ | exact U64.ediv (by first | assumption | exact U64.wrap _ | exact U64.bits _ _ _ | exact U64.lit (by omega) (by omega)) _ (by omega) | exact U64.lit (by omega) (by omega) | exact U64.one _ (by first | assumption | exact U64.wrap _ | exact U64.bits _ _ _ | exact U64.lit (by omega) (by omega)) (by first | assumption | exact U64.wrap _ | exact U64.bits _ _ _ | exact U64.lit (by omega) (by omega)))))) wr _ ?_
                    rintro _ w4 ⟨h1, l1, rfl, uh1, ul1⟩ hb4
                    have hf := (unhide HF).later hb4
                    have HF4 := hide hf
                    clear hf HF ki hb4
                    go_wp2_with fail
                    refine (wadd_ret h1 l1 0 c uh1 ul1 u64_zero' uc) w4 _ ?_
                    rintro _ w5 ⟨h2, l2, b2, rfl, uh2, ul2⟩ hb5
                    have hf := (unhide HF4).later hb5
                    have HF5 := hide hf
                    clear hf HF4 hb5
                    go_wp2_with fail
                    obtain ⟨pb, hpb⟩ : ∃ pb, w5.heap.size = pb := ⟨_, rfl⟩
                    have hf6 : FR w d sig prec (w5.alloc (.cells #[.int .u64 h2, .int .u64 l2] 47)) := (unhide HF5).later ((Below.refl _ _).alloc (Nat.le_refl _) _)
                    have cp0 : (w5.alloc (.cells #[.int .u64 h2, .int .u64 l2] 47)).cell? ⟨pb, 0, none⟩ = some (.int .u64 h2) := by rw [← hpb, World.cell?_alloc_new]; rfl
                    have cp1 : (w5.alloc (.cells #[.int .u64 h2, .int .u64 l2] 47)).cell? ⟨pb, 1, none⟩ = some (.int .u64 l2) := by rw [← hpb, World.cell?_alloc_new]; rfl
                    have hpS : pb ≠ w.heap.size := by have := (unhide HF5).m.1; omega
                    rw [hpb]
                    ((first | with_reducible refine Go.Proofs.YgcoaaGreat.NatW.gen_calls ?_ | with_reducible refine Go.Proofs.YgcoaaGreat.NatW.gen_wp ?_ | with_reducible refine Go.Proofs.YgcoaaGreat.NatW.gen_list ?_ | with_reducible refine Go.Proofs.YgcoaaGreat.NatW.gen_body ?_); intro W hW)
                    rw [hW] at hf6 cp0 cp1
                    clear hW HF5 hpb
                    obtain ⟨wb, x0, hx, hS, hall⟩ := trunc W w.heap.size (Nat.le_of_lt hf6.m.1)
                    have hI0 : FrI w.heap.size pb h2 l2 x0.at_ := by rw [← hx]; exact ⟨hf6.m, hf6.b, cp0, cp1⟩
                    have HF6 := hide hf6
                    have HALL := hide hall
                    have HI0 := hide hI0
                    clear hf6 cp0 cp1 hall hI0
                    rw [hx]
                    have hne : Nonempty (Later wb) := ⟨x0⟩
                    have HX := hide hx
                    clear hx
                    (repeat (first | (rewrite [Go.Proofs.YgcoaaGreat.NatW.frz_ite]; generalize Go.Proofs.YgcoaaGreat.NatW.frzI _ = x__) | (rewrite [Go.Proofs.YgcoaaGreat.NatW.frz_dec]; generalize Go.Proofs.YgcoaaGreat.NatW.frzB _ = x__) | (rewrite [Go.Proofs.YgcoaaGreat.NatW.frz_beq]; generalize Go.Proofs.YgcoaaGreat.NatW.frzB _ = x__) | (rewrite [Go.Proofs.YgcoaaGreat.NatW.frz_not]; generalize Go.Proofs.YgcoaaGreat.NatW.frzB _ = x__) | (rewrite [Go.Proofs.YgcoaaGreat.NatW.frz_and]; generalize Go.Proofs.YgcoaaGreat.NatW.frzB _ = x__) | (rewrite [Go.Proofs.YgcoaaGreat.NatW.frz_or]; generalize Go.Proofs.YgcoaaGreat.NatW.frzB _ = x__)))
                    refine Go.LaxS.region_stores _ 7 3 [(2, fun v => v = .int .u64 l2), (4, fun v => v = .int .u64 h2)] [6] (FrI w.heap.size pb h2 l2) (by kernel_rfl) (by kernel_rfl) (by kernel_rfl) (by kernel_rfl) (unhide HI0) FrI.later (List.forall_mem_cons.2 ⟨⟨_, rfl⟩, List.forall_mem_cons.2 ⟨⟨_, rfl⟩, fun _ h => by cases h⟩⟩) ?_
                    iterate 2 (refine Go.LaxS.walk_det rfl rfl rfl rfl ?_; go_big_quiet_want; go_big_quiet_op; go_big_quiet_on; refine wpQuiet_nil ?_)
                    refine Go.LaxS.call_atI rfl rfl rfl FrI.later ?_ (fun y K hI hK => by
                      have c1 := hI.c1
                      have HKK := hide hK
                      clear hK hI
                      go_wp2_with fail
                      exact unhide HKK _ _ rfl (Below.refl _ _))
                    rintro v rfl
                    ((try dsimp only); go_big_quiet_want; go_big_quiet_op; go_big_quiet_on; refine wpQuiet_nil ?_)
                    (refine Go.LaxS.walk_det rfl rfl rfl rfl ?_; go_big_quiet_want; go_big_quiet_op; go_big_quiet_on; refine wpQuiet_nil ?_)
                    refine Go.LaxS.call_atI rfl rfl rfl FrI.later ?_ (fun y K hI hK => by
                      have c0 := hI.c0
                      have HKK := hide hK
                      clear hK hI
                      go_wp2_with fail
                      exact unhide HKK _ _ rfl (Below.refl _ _))
                    rintro v rfl
                    ((try dsimp only); go_big_quiet_want; go_big_quiet_op; go_big_quiet_on; refine wpQuiet_nil ?_)
                    (refine Go.LaxS.walk_det rfl rfl rfl rfl ?_; go_big_quiet_want; go_big_quiet_op; go_big_quiet_on; refine wpQuiet_nil ?_)
                    refine Go.LaxS.store_at rfl rfl rfl rfl ?_ (fun y K hI hK2 => by
                      obtain ⟨vi', ki', -⟩ := hI.b.cell i (by omega)
                      have fi := hI.m.2 i
                      have HR := hide hI
                      have HK2 := hide hK2
                      clear hI hK2
                      go_wp2_with fail
                      exact unhide HK2 _ (below_store y.ok (by omega) _) ((unhide HR).set hpS i ul2))
                    refine Go.LaxS.end_at ?_
                    intro y hI hG
                    clear hG
                    have hf7 : FR w d sig prec y.at_ := by
                      have h6 := unhide HF6
                      obtain ⟨q1, q2⟩ := unhide HALL y
                      obtain ⟨n6, t6, e6, hn6⟩ := h6.ex
                      exact ⟨h6.dlt, ⟨n6, t6, e6.same (q1 d h6.dlt), hn6⟩, hI.m, hI.b, q2 w (some d) rfl h6.g⟩
                    have HF7 := hide hf7
                    clear hf7 hI HF6 HALL HI0 HX
                    go_wp2_with fail
                    exact ⟨⟨h2, i + 1, rfl, uh2, by simp, by omega, unhide HF7⟩, by simp [intOf]; omega⟩
                  · have hii : i = hi := by omega
                    subst hii
                    obtain ⟨n5, top5, he5, hn5⟩ := hf.ex
                    have e5 : (c != 0) = !decide (c = 0) := rfl
                    by_cases hcc : i < 18 ∧ ¬ c = 0
                    · obtain ⟨hc18, hc0⟩ := hcc
                      simp only [hc0, decide_false, Bool.not_false] at e5
                      obtain ⟨vh, kh, -⟩ := hf.b.cell i hc18
                      have fh := hf.m.2 i
                      have hf8 := hf.setW i uc
                      have he8 := he5.other (c := w.heap.size) (j := i) (x := .int .u64 c) (by have := hf.dlt; omega)
                      have HF8 := hide hf8
                      have HE8 := hide he8
                      clear hf hf8 he5 he8
                      go_wp2_with fail
                      refine put_any d n5 top5 sig prec 0 u64_zero' true hn5 _ (unhide HE8) _ ?_
                      intro n9 top9 w9 he9 hn9 hg9
                      have HF9 := hide ((unhide HF8).put he9 hn9 hg9)
                      clear he9 hg9 HF8 HE8
                      go_wp2_with fail
                      exact ⟨⟨lo2, i + 1, tn + 1, rfl, by simp, by simp, by omega, by omega, by omega, by omega, unhide HF9⟩, by simp [intOf]; omega⟩
                    · have HF8 := hide hf
                      have HE8 := hide he5
                      clear hf he5
                      by_cases hc0 : c = 0
                      · subst hc0
                        by_cases hc18 : i < 18
                        · go_wp2_with fail
                          refine put_any d n5 top5 sig prec 0 u64_zero' true hn5 _ (unhide HE8) _ ?_
                          intro n9 top9 w9 he9 hn9 hg9
                          have HF9 := hide ((unhide HF8).put he9 hn9 hg9)
                          clear he9 hg9 HF8 HE8
                          go_wp2_with fail
                          exact ⟨⟨lo2, i, tn + 1, rfl, rfl, by simp, by omega, by omega, by omega, by omega, unhide HF9⟩, by simp [intOf]; omega⟩
                        · go_wp2_with fail
                          refine put_any d n5 top5 sig prec 0 u64_zero' true hn5 _ (unhide HE8) _ ?_
                          intro n9 top9 w9 he9 hn9 hg9
                          have HF9 := hide ((unhide HF8).put he9 hn9 hg9)
                          clear he9 hg9 HF8 HE8
                          go_wp2_with fail
                          exact ⟨⟨lo2, i, tn + 1, rfl, rfl, by simp, by omega, by omega, by omega, by omega, unhide HF9⟩, by simp [intOf]; omega⟩
                      · simp only [hc0, decide_false, Bool.not_false] at e5
                        have hc18 : ¬ i < 18 := fun hh => hcc ⟨hh, hc0⟩
                        clear hcc
                        go_wp2_with fail
                        refine put_any d n5 top5 sig prec c uc true hn5 _ (unhide HE8) _ ?_
                        intro n9 top9 w9 he9 hn9 hg9
                        have HF9 := hide ((unhide HF8).put he9 hn9 hg9)
                        clear he9 hg9 HF8 HE8
                        go_wp2_with fail
                        exact ⟨⟨lo2, i, tn + 1, rfl, rfl, by simp, by omega, by omega, by omega, by omega, unhide HF9⟩, by simp [intOf]; omega⟩
              · clear hb1 hb2 hbel
                obtain ⟨wb, x0, hwb, hB⟩ := boxes0 w3
                have h' : ∀ x : Later wb, Exps x.at_ d n1 top1 sig prec := fun x => by subst hwb; exact he3.kept (hB x)
                have hg' : ∀ x : Later wb, w.grownBy x.at_ (some d) := fun x => by subst hwb; exact grow_trans hf3.g (grow_below (hB x) _)
                subst hwb
                clear he3 hf3
                have hne : Nonempty (Later wb) := ⟨x0⟩
                have k1 := fun x => (h' x).n_
                have f1 := fun x => (h' x).own.2 1441
                have f3 := fun x => (h' x).own.2 n1
                have k3 := fun x => (h' x).dig.cell n1 (by omega)
                have ks1 : ∀ (x : Later wb) u, (x.at_.setCell ⟨d, n1, none⟩ u).cell? ⟨d, 1441, none⟩ = some (.int .i64 n1) := fun x u => by rw [cell_set _ _ _ _ _ _ _ (k1 x), if_neg (by omega)]
                have HE := hide h'
                have HG := hide hg'
                clear h' hg'
                go_wp2_with (first
                  | (with_reducible refine Go.Proofs.YgcoaaGreat.NatW.at_reg 14 ?_
                     (repeat (first | (rewrite [Go.Proofs.YgcoaaGreat.NatW.frz_ite]; generalize Go.Proofs.YgcoaaGreat.NatW.frzI _ = x__) | (rewrite [Go.Proofs.YgcoaaGreat.NatW.frz_dec]; generalize Go.Proofs.YgcoaaGreat.NatW.frzB _ = x__) | (rewrite [Go.Proofs.YgcoaaGreat.NatW.frz_beq]; generalize Go.Proofs.YgcoaaGreat.NatW.frzB _ = x__) | (rewrite [Go.Proofs.YgcoaaGreat.NatW.frz_not]; generalize Go.Proofs.YgcoaaGreat.NatW.frzB _ = x__) | (rewrite [Go.Proofs.YgcoaaGreat.NatW.frz_and]; generalize Go.Proofs.YgcoaaGreat.NatW.frzB _ = x__) | (rewrite [Go.Proofs.YgcoaaGreat.NatW.frz_or]; generalize Go.Proofs.YgcoaaGreat.NatW.frzB _ = x__)))
                     (refine region_then _ 8 4 (by kernel_rfl) (by kernel_rfl) (by kernel_rfl) ?_; simp only [List.take, List.drop]; (repeat (first | go_big_quiet_skip | (go_big_quiet_want; go_big_quiet_op; go_big_quiet_on))); refine wpQuiet_nil ?_)
                     intro y
                     obtain ⟨vm, k3y, -⟩ := k3 y))
                refine bodyPost_box rfl ?_; intro r hr; simp [results, Oaag.results411, go_sem] at hr; subst hr; refine ⟨_, rfl, ?_⟩
                exact unhide HK _ _ _ (Exps.push1 (unhide HE _) _ _ (by omega) (n1 + 1) (by simp) (by omega)) (grow_set1 (grow_set1 (unhide HG _) _ _) _ _)
          · have hlh : lo2 = hi := by omega
            subst hlh
            go_wp2_with fail
            obtain ⟨n1, top1, he1, hn1⟩ := (unhide HF).ex
            refine bodyPost_box rfl ?_; intro r hr; simp [results, Oaag.results411, go_sem] at hr; subst hr; refine ⟨_, rfl, ?_⟩
            exact unhide HK _ _ _ he1 (unhide HF).g
    · have HV2 := hide hv2
      clear hv2
      have hc1 : ¬ (a : Int) / 64 + 1 < 18 := by omega
      go_wp2_with fail
      ((first | with_reducible refine Go.Proofs.YgcoaaGreat.NatW.gen_calls ?_ | with_reducible refine Go.Proofs.YgcoaaGreat.NatW.gen_wp ?_ | with_reducible refine Go.Proofs.YgcoaaGreat.NatW.gen_list ?_ | with_reducible refine Go.Proofs.YgcoaaGreat.NatW.gen_body ?_); intro W hW)
      have hf0 : FR w d sig prec W := by rw [← hW]; exact (unhide HF).setW _ (wr64' _)
      have hst : FracR w d sig prec (.int .i64 0) (.int .i64 ((a : Int) / 64 + 1)) (.int .i64 1) W := ⟨0, (a / 64 + 1), 1, rfl, by simp, rfl, by omega, by omega, by omega, by omega, hf0⟩
      have HST := hide hst
      clear hst hf0 hW HF k1 f1 f2 HV2 hr er hc hc1 hka ha1 ha2
      go_loopw [8, 9, 10] (FracR w d sig prec) (fun _ _ t10 _ => 201 - (intOf t10).toNat)
      case atStart => exact unhide HST
      case round =>
        clear HST
        obtain ⟨lo, hi, tn, rfl, rfl, rfl, hlo, hhi, ht1, ht2, hf⟩ := hrel
        have HF := hide hf
        clear hf
        go_wp2_with fail
        go_loop [8] (FracL hi) (fun t8 => hi - (intOf t8).toNat)
        case atStart => exact ⟨lo, rfl, hlo⟩
        case round =>
          obtain ⟨lo2, rfl, hlo2⟩ := hrel
          by_cases hlt : lo2 < hi
          · obtain ⟨vl, kl, -⟩ := (unhide HF).b.cell lo2 (by omega)
            have e0 : (vl == 0) = decide (vl = 0) := rfl
            have eh : ((lo2 : Int) == hi) = false := by simp; omega
            by_cases hv0 : vl = 0
            · simp only [hv0, decide_true] at e0
              go_wp2_with fail
              exact ⟨⟨lo2 + 1, by simp, by omega⟩, by simp [intOf]; omega⟩
            · simp only [hv0, decide_false] at e0
              go_wp2_with fail
              obtain ⟨n1, top1, he1, hn1⟩ := (unhide HF).ex
              refine enough_any d n1 top1 sig prec _ ⟨by omega, by omega⟩ wr he1 _ ?_
              intro bb w3 hb1 hb2 hbel
              have hf3 := (unhide HF).later hbel
              have he3 := he1.kept hbel
              clear HF kl he1
              cases bb
              · have hbd : ((tn : Int) - 1) * 18 ≤ prec := by
                  rcases Int.lt_or_le prec (((tn : Int) - 1) * 18) with hh | hh
                  · exact absurd (hb1 hh) (by simp)
                  · exact hh
                clear hb1 hb2 hbel he3
                have HF3 := hide hf3
                clear hf3
                go_wp2_with fail
                go_loopw [11, 12] (FracI w d sig prec hi) (fun _ t12 _ => hi - (intOf t12).toNat)
                case atStart => exact ⟨0, lo2, rfl, u64_zero', rfl, by omega, unhide HF3⟩
                case round =>
                  clear HF3
                  obtain ⟨c, i, rfl, uc, rfl, hi1, hf⟩ := hrel
                  by_cases hih : i < hi
                  · obtain ⟨vi, ki, ui⟩ := hf.b.cell i (by omega)
                    have HF := hide hf
                    clear hf
                    go_wp2_with fail
                    refine (mul64_ret vi 1000000000000000000 ui (by (first | assumption | exact U64.wrap _ | exact U64.bits _ _ _ | exact U64.div (by first | assumption | exact U64.wrap _ | exact U64.bits _ _ _ | exact U64.div (by first | assumption | exact U64.wrap _ | exact U64.bits _ _ _ | exact U64.lit (by omega) (by omega)) _ | exact U64.ediv (by first | assumption | exact U64.wrap _ | exact U64.bits _ _ _ | exact U64.lit (by omega) (by omega)) _ (by omega) | exact U64.lit (by omega) (by omega) | exact U64.one _ (by first | assumption | exact U64.wrap _ | exact U64.bits _ _ _ | exact U64.lit (by omega) (by omega)) (by first | assumption | exact U64.wrap _ | exact U64.bits _ _ _ | exact U64.lit (by omega) (by omega))) _ | exact U64.ediv (by first | assumption | exact U64.wrap _ | exact U64.bits _ _ _ | exact U64.div (by first | assumption | exact U64.wrap _ | exact U64.bits _ _ _ | exact U64.lit (by omega) (by omega)) _ | exact U64.ediv (by first | assumption | exact U64.wrap _ | exact U64.bits _ _ _ | exact U64.lit (by omega) (by omega)) _ (by omega) | exact U64.lit (by omega) (by omega) | exact U64.one _ (by first | assumption | exact U64.wrap _ | exact U64.bits _ _ _ | exact U64.lit (by omega) (by omega)) (by first | assumption | exact U64.wrap _ | exact U64.bits _ _ _ | exact U64.lit (by omega) (by omega))) _ (by omega) | exact U64.lit (by omega) (by omega) | exact U64.one _ (by first | assumption | exact U64.wrap _ | exact U64.bits _ _ _ | exact U64.div (by first | assumption | exact U64.wrap _ | exact U64.bits _ _ _ | exact U64.lit (by omega) (by omega)) _ | exact U64.ediv (by first | assumption | exact U64.wrap _ | exact U64.bits _ _ _ | exact U64.lit (by omega) (by omega)) _ (by omega) | exact U64.lit (by omega) (by omega) | exact U64.one _ (by first | assumption | exact U64.wrap _ | exact U64.bits _ _ _ | exact U64.lit (by omega) (by omega)) (by first | assumption | exact U64.wrap _ | exact U64.bits _ _ _ | exact U64.lit (by omega) (by omega))) (by first | assumption | exact U64.wrap _ | exact U64.bits _ _ _ | exact U64.div (by first | assumption | exact U64.wrap _ | exact U64.bits _ _ _ | exact U64.lit (by omega) (by omega)) _ | exact U64.ediv (by first | assumption | exact U64.wrap _ | exact U64.bits _ _ _ | exact U64.lit (by omega) (by omega)) _ (by omega) | exact U64.lit (by omega) (by omega) | exact U64.one _ (by first | assumption | exact U64.wrap _ | exact U64.bits _ _ _ | exact U64.lit (by omega) (by omega)) (by first | assumption | exact U64.wrap _ | exact U64.bits _ _ _ | exact U64.lit (by omega) (by omega)))))) wr _ ?_
                    rintro _ w4 ⟨h1, l1, rfl, uh1, ul1⟩ hb4
                    have hf := (unhide HF).later hb4
                    have HF4 := hide hf
                    clear hf HF ki hb4
                    go_wp2_with fail
                    refine (wadd_ret h1 l1 0 c uh1 ul1 u64_zero' uc) w4 _ ?_
                    rintro _ w5 ⟨h2, l2, b2, rfl, uh2, ul2⟩ hb5
                    have hf := (unhide HF4).later hb5
                    have HF5 := hide hf
                    clear hf HF4 hb5
                    go_wp2_with fail
                    obtain ⟨pb, hpb⟩ : ∃ pb, w5.heap.size = pb := ⟨_, rfl⟩
                    have hf6 : FR w d sig prec (w5.alloc (.cells #[.int .u64 h2, .int .u64 l2] 47)) := (unhide HF5).later ((Below.refl _ _).alloc (Nat.le_refl _) _)
                    have cp0 : (w5.alloc (.cells #[.int .u64 h2, .int .u64 l2] 47)).cell? ⟨pb, 0, none⟩ = some (.int .u64 h2) := by rw [← hpb, World.cell?_alloc_new]; rfl
                    have cp1 : (w5.alloc (.cells #[.int .u64 h2, .int .u64 l2] 47)).cell? ⟨pb, 1, none⟩ = some (.int .u64 l2) := by rw [← hpb, World.cell?_alloc_new]; rfl
                    have hpS : pb ≠ w.heap.size := by have := (unhide HF5).m.1; omega
                    rw [hpb]
                    ((first | with_reducible refine Go.Proofs.YgcoaaGreat.NatW.gen_calls ?_ | with_reducible refine Go.Proofs.YgcoaaGreat.NatW.gen_wp ?_ | with_reducible refine Go.Proofs.YgcoaaGreat.NatW.gen_list ?_ | with_reducible refine Go.Proofs.YgcoaaGreat.NatW.gen_body ?_); intro W hW)
                    rw [hW] at hf6 cp0 cp1
                    clear hW HF5 hpb
                    obtain ⟨wb, x0, hx, hS, hall⟩ := trunc W w.heap.size (Nat.le_of_lt hf6.m.1)
                    have hI0 : FrI w.heap.size pb h2 l2 x0.at_ := by rw [← hx]; exact ⟨hf6.m, hf6.b, cp0, cp1⟩
                    have HF6 := hide hf6
                    have HALL := hide hall
                    have HI0 := hide hI0
                    clear hf6 cp0 cp1 hall hI0
                    rw [hx]
                    have hne : Nonempty (Later wb) := ⟨x0⟩
                    have HX := hide hx
                    clear hx
                    (repeat (first | (rewrite [Go.Proofs.YgcoaaGreat.NatW.frz_ite]; generalize Go.Proofs.YgcoaaGreat.NatW.frzI _ = x__) | (rewrite [Go.Proofs.YgcoaaGreat.NatW.frz_dec]; generalize Go.Proofs.YgcoaaGreat.NatW.frzB _ = x__) | (rewrite [Go.Proofs.YgcoaaGreat.NatW.frz_beq]; generalize Go.Proofs.YgcoaaGreat.NatW.frzB _ = x__) | (rewrite [Go.Proofs.YgcoaaGreat.NatW.frz_not]; generalize Go.Proofs.YgcoaaGreat.NatW.frzB _ = x__) | (rewrite [Go.Proofs.YgcoaaGreat.NatW.frz_and]; generalize Go.Proofs.YgcoaaGreat.NatW.frzB _ = x__) | (rewrite [Go.Proofs.YgcoaaGreat.NatW.frz_or]; generalize Go.Proofs.YgcoaaGreat.NatW.frzB _ = x__)))
                    refine Go.LaxS.region_stores _ 7 3 [(2, fun v => v = .int .u64 l2), (4, fun v => v = .int .u64 h2)] [6] (FrI w.heap.size pb h2 l2) (by kernel_rfl) (by kernel_rfl) (by kernel_rfl) (by kernel_rfl) (unhide HI0) FrI.later (List.forall_mem_cons.2 ⟨⟨_, rfl⟩, List.forall_mem_cons.2 ⟨⟨_, rfl⟩, fun _ h => by cases h⟩⟩) ?_
                    iterate 2 (refine Go.LaxS.walk_det rfl rfl rfl rfl ?_; go_big_quiet_want; go_big_quiet_op; go_big_quiet_on; refine wpQuiet_nil ?_)
                    refine Go.LaxS.call_atI rfl rfl rfl FrI.later ?_ (fun y K hI hK => by
                      have c1 := hI.c1
                      have HKK := hide hK
                      clear hK hI
                      go_wp2_with fail
                      exact unhide HKK _ _ rfl (Below.refl _ _))
                    rintro v rfl
                    ((try dsimp only); go_big_quiet_want; go_big_quiet_op; go_big_quiet_on; refine wpQuiet_nil ?_)
                    (refine Go.LaxS.walk_det rfl rfl rfl rfl ?_; go_big_quiet_want; go_big_quiet_op; go_big_quiet_on; refine wpQuiet_nil ?_)
                    refine Go.LaxS.call_atI rfl rfl rfl FrI.later ?_ (fun y K hI hK => by
                      have c0 := hI.c0
                      have HKK := hide hK
                      clear hK hI
                      go_wp2_with fail
                      exact unhide HKK _ _ rfl (Below.refl _ _))
                    rintro v rfl
                    ((try dsimp only); go_big_quiet_want; go_big_quiet_op; go_big_quiet_on; refine wpQuiet_nil ?_)
                    (refine Go.LaxS.walk_det rfl rfl rfl rfl ?_; go_big_quiet_want; go_big_quiet_op; go_big_quiet_on; refine wpQuiet_nil ?_)
                    refine Go.LaxS.store_at rfl rfl rfl rfl ?_ (fun y K hI hK2 => by
                      obtain ⟨vi', ki', -⟩ := hI.b.cell i (by omega)
                      have fi := hI.m.2 i
                      have HR := hide hI
                      have HK2 := hide hK2
                      clear hI hK2
                      go_wp2_with fail
                      exact unhide HK2 _ (below_store y.ok (by omega) _) ((unhide HR).set hpS i ul2))
                    refine Go.LaxS.end_at ?_
                    intro y hI hG
                    clear hG
                    have hf7 : FR w d sig prec y.at_ := by
                      have h6 := unhide HF6
                      obtain ⟨q1, q2⟩ := unhide HALL y
                      obtain ⟨n6, t6, e6, hn6⟩ := h6.ex
                      exact ⟨h6.dlt, ⟨n6, t6, e6.same (q1 d h6.dlt), hn6⟩, hI.m, hI.b, q2 w (some d) rfl h6.g⟩
                    have HF7 := hide hf7
                    clear hf7 hI HF6 HALL HI0 HX
                    go_wp2_with fail
                    exact ⟨⟨h2, i + 1, rfl, uh2, by simp, by omega, unhide HF7⟩, by simp [intOf]; omega⟩
                  · have hii : i = hi := by omega
                    subst hii
                    obtain ⟨n5, top5, he5, hn5⟩ := hf.ex
                    have e5 : (c != 0) = !decide (c = 0) := rfl
                    by_cases hcc : i < 18 ∧ ¬ c = 0
                    · obtain ⟨hc18, hc0⟩ := hcc
                      simp only [hc0, decide_false, Bool.not_false] at e5
                      obtain ⟨vh, kh, -⟩ := hf.b.cell i hc18
                      have fh := hf.m.2 i
                      have hf8 := hf.setW i uc
                      have he8 := he5.other (c := w.heap.size) (j := i) (x := .int .u64 c) (by have := hf.dlt; omega)
                      have HF8 := hide hf8
                      have HE8 := hide he8
                      clear hf hf8 he5 he8
                      go_wp2_with fail
                      refine put_any d n5 top5 sig prec 0 u64_zero' true hn5 _ (unhide HE8) _ ?_
                      intro n9 top9 w9 he9 hn9 hg9
                      have HF9 := hide ((unhide HF8).put he9 hn9 hg9)
                      clear he9 hg9 HF8 HE8
                      go_wp2_with fail
                      exact ⟨⟨lo2, i + 1, tn + 1, rfl, by simp, by simp, by omega, by omega, by omega, by omega, unhide HF9⟩, by simp [intOf]; omega⟩
                    · have HF8 := hide hf
                      have HE8 := hide he5
                      clear hf he5
                      by_cases hc0 : c = 0
                      · subst hc0
                        by_cases hc18 : i < 18
                        · go_wp2_with fail
                          refine put_any d n5 top5 sig prec 0 u64_zero' true hn5 _ (unhide HE8) _ ?_
                          intro n9 top9 w9 he9 hn9 hg9
                          have HF9 := hide ((unhide HF8).put he9 hn9 hg9)
                          clear he9 hg9 HF8 HE8
                          go_wp2_with fail
                          exact ⟨⟨lo2, i, tn + 1, rfl, rfl, by simp, by omega, by omega, by omega, by omega, unhide HF9⟩, by simp [intOf]; omega⟩
                        · go_wp2_with fail
                          refine put_any d n5 top5 sig prec 0 u64_zero' true hn5 _ (unhide HE8) _ ?_
                          intro n9 top9 w9 he9 hn9 hg9
                          have HF9 := hide ((unhide HF8).put he9 hn9 hg9)
                          clear he9 hg9 HF8 HE8
                          go_wp2_with fail
                          exact ⟨⟨lo2, i, tn + 1, rfl, rfl, by simp, by omega, by omega, by omega, by omega, unhide HF9⟩, by simp [intOf]; omega⟩
                      · simp only [hc0, decide_false, Bool.not_false] at e5
                        have hc18 : ¬ i < 18 := fun hh => hcc ⟨hh, hc0⟩
                        clear hcc
                        go_wp2_with fail
                        refine put_any d n5 top5 sig prec c uc true hn5 _ (unhide HE8) _ ?_
                        intro n9 top9 w9 he9 hn9 hg9
                        have HF9 := hide ((unhide HF8).put he9 hn9 hg9)
                        clear he9 hg9 HF8 HE8
                        go_wp2_with fail
                        exact ⟨⟨lo2, i, tn + 1, rfl, rfl, by simp, by omega, by omega, by omega, by omega, unhide HF9⟩, by simp [intOf]; omega⟩
              · clear hb1 hb2 hbel
                obtain ⟨wb, x0, hwb, hB⟩ := boxes0 w3
                have h' : ∀ x : Later wb, Exps x.at_ d n1 top1 sig prec := fun x => by subst hwb; exact he3.kept (hB x)
                have hg' : ∀ x : Later wb, w.grownBy x.at_ (some d) := fun x => by subst hwb; exact grow_trans hf3.g (grow_below (hB x) _)
                subst hwb
                clear he3 hf3
                have hne : Nonempty (Later wb) := ⟨x0⟩
                have k1 := fun x => (h' x).n_
                have f1 := fun x => (h' x).own.2 1441
                have f3 := fun x => (h' x).own.2 n1
                have k3 := fun x => (h' x).dig.cell n1 (by omega)
                have ks1 : ∀ (x : Later wb) u, (x.at_.setCell ⟨d, n1, none⟩ u).cell? ⟨d, 1441, none⟩ = some (.int .i64 n1) := fun x u => by rw [cell_set _ _ _ _ _ _ _ (k1 x), if_neg (by omega)]
                have HE := hide h'
                have HG := hide hg'
                clear h' hg'
                go_wp2_with (first
                  | (with_reducible refine Go.Proofs.YgcoaaGreat.NatW.at_reg 14 ?_
                     (repeat (first | (rewrite [Go.Proofs.YgcoaaGreat.NatW.frz_ite]; generalize Go.Proofs.YgcoaaGreat.NatW.frzI _ = x__) | (rewrite [Go.Proofs.YgcoaaGreat.NatW.frz_dec]; generalize Go.Proofs.YgcoaaGreat.NatW.frzB _ = x__) | (rewrite [Go.Proofs.YgcoaaGreat.NatW.frz_beq]; generalize Go.Proofs.YgcoaaGreat.NatW.frzB _ = x__) | (rewrite [Go.Proofs.YgcoaaGreat.NatW.frz_not]; generalize Go.Proofs.YgcoaaGreat.NatW.frzB _ = x__) | (rewrite [Go.Proofs.YgcoaaGreat.NatW.frz_and]; generalize Go.Proofs.YgcoaaGreat.NatW.frzB _ = x__) | (rewrite [Go.Proofs.YgcoaaGreat.NatW.frz_or]; generalize Go.Proofs.YgcoaaGreat.NatW.frzB _ = x__)))
                     (refine region_then _ 8 4 (by kernel_rfl) (by kernel_rfl) (by kernel_rfl) ?_; simp only [List.take, List.drop]; (repeat (first | go_big_quiet_skip | (go_big_quiet_want; go_big_quiet_op; go_big_quiet_on))); refine wpQuiet_nil ?_)
                     intro y
                     obtain ⟨vm, k3y, -⟩ := k3 y))
                refine bodyPost_box rfl ?_; intro r hr; simp [results, Oaag.results411, go_sem] at hr; subst hr; refine ⟨_, rfl, ?_⟩
                exact unhide HK _ _ _ (Exps.push1 (unhide HE _) _ _ (by omega) (n1 + 1) (by simp) (by omega)) (grow_set1 (grow_set1 (unhide HG _) _ _) _ _)
          · have hlh : lo2 = hi := by omega
            subst hlh
            go_wp2_with fail
            obtain ⟨n1, top1, he1, hn1⟩ := (unhide HF).ex
            refine bodyPost_box rfl ?_; intro r hr; simp [results, Oaag.results411, go_sem] at hr; subst hr; refine ⟨_, rfl, ?_⟩
            exact unhide HK _ _ _ he1 (unhide HF).g

end Go.Proofs.YgcoaaGreat.NatW
