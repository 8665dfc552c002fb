/-
  Package expand: whole.
-/
import Derived.Test.YgcoaaGreatAgg
import Derived.Test.YgcoaaGreatSoftF
set_option linter.unusedVariables false
set_option linter.unusedSimpArgs false
namespace Go.Proofs.YgcoaaGreat.NatW
attribute [local go_sem] Go.Instr.field Go.asAgg
open Go.RowKit

/-- whole's memory: the answer (block S), the limbs (S + 1), the groups (S + 2), of which there are n. -/
structure WR (w wr : World) (n : Nat) : Prop where
  m0 : Mine wr w.heap.size
  m1 : Mine wr (w.heap.size + 1)
  m2 : Mine wr (w.heap.size + 2)
  b0 : Bank wr w.heap.size 0 20 .u64 U64
  b1 : Bank wr (w.heap.size + 1) 0 18 .u64 U64
  b2 : Bank wr (w.heap.size + 2) 0 20 .u64 U64
  c0 : ∃ x, wr.cell? ⟨w.heap.size, 20, none⟩ = some (.int .i64 x)
  c2 : wr.cell? ⟨w.heap.size + 2, 20, none⟩ = some (.int .i64 n)
  bl : Below w.heap.size w wr

theorem WR.later {w wr wr' : World} {n : Nat} (h : WR w wr n) (hb : Below wr.heap.size wr wr') : WR w wr' n :=
  ⟨h.m0.kept hb h.m0.1, h.m1.kept hb h.m1.1, h.m2.kept hb h.m2.1, h.b0.kept hb h.m0.1, h.b1.kept hb h.m1.1, h.b2.kept hb h.m2.1, h.c0.imp fun x hx => (hb.cell (p := ⟨_, 20, none⟩) h.m0.1).trans hx, (hb.cell (p := ⟨_, 20, none⟩) h.m2.1).trans h.c2, h.bl.trans (hb.mono h.bl.size)⟩
theorem WR.setW {w wr : World} {n : Nat} (h : WR w wr n) (i : Nat) {v : Int} (hv : U64 v) : WR w (wr.setCell ⟨w.heap.size + 1, i, none⟩ (.int .u64 v)) n :=
  ⟨h.m0.set _ _, h.m1.set _ _, h.m2.set _ _, h.b0.other (by omega), h.b1.set i hv, h.b2.other (by omega), h.c0.imp fun x hx => by rw [cell_set _ _ _ _ _ _ _ hx, if_neg (by omega)], by rw [cell_set _ _ _ _ _ _ _ h.c2, if_neg (by omega)], below_store h.bl (by omega) _⟩
theorem WR.setG {w wr : World} {n : Nat} (h : WR w wr n) (i : Nat) (hi : i < 20) {v : Int} (hv : U64 v) (m : Nat) {M : Int} (hM : M = (m : Int)) : WR w ((wr.setCell ⟨w.heap.size + 2, i, none⟩ (.int .u64 v)).setCell ⟨w.heap.size + 2, 20, none⟩ (.int .i64 M)) m := by
  subst hM
  refine ⟨(h.m0.set _ _).set _ _, (h.m1.set _ _).set _ _, (h.m2.set _ _).set _ _, (h.b0.other (by omega)).other (by omega), (h.b1.other (by omega)).other (by omega), (h.b2.set i hv).other (by omega), ?_, ?_, below_store (below_store h.bl (by omega) _) (by omega) _⟩
  · obtain ⟨x, hx⟩ := h.c0
    refine ⟨x, ?_⟩
    have a1 := cell_set wr (w.heap.size + 2) i w.heap.size 20 (.int .u64 v) _ hx
    rw [if_neg (by omega)] at a1
    rw [cell_set _ _ _ _ _ _ _ a1, if_neg (by omega)]
  · have a1 := cell_set wr (w.heap.size + 2) i (w.heap.size + 2) 20 (.int .u64 v) _ h.c2
    rw [if_neg (by omega)] at a1
    rw [cell_set _ _ _ _ _ _ _ a1, if_pos ⟨rfl, rfl⟩]

theorem z375 : ((Oaag.prog.info? 375).bind fun i => i.zero.map fun z => z.cells) = some ((Array.replicate 20 (.int .u64 0)).push (.int .i64 0)) := by kernel_rfl
theorem z392 : ((Oaag.prog.info? 392).bind fun i => i.zero.map fun z => z.cells) = some (Array.replicate 18 (.int .u64 0)) := by kernel_rfl

def WholeI (w : World) (n : Nat) (t7 t8 t9 : Value) (wr : World) : Prop := ∃ (r a : Int) (i : Nat), t7 = .int .u64 r ∧ U64 r ∧ t8 = .int .u64 a ∧ U64 a ∧ t9 = .int .i64 ((i : Int) - 1) ∧ i ≤ 18 ∧ WR w wr n
def WholeO (w : World) (wr : World) : Prop := ∃ n, n < 20 ∧ WR w wr n
def nOf (w wr : World) : Nat := match wr.cell? ⟨w.heap.size + 2, 20, none⟩ with | some v => 20 - (intOf v).toNat | none => 0

/-- A value of type groups, n of them. -/
def isGr (n : Nat) (v : Value) : Prop := ∃ cs : List Value, v = .agg cs.toArray ∧ cs.length = 21 ∧ (∀ i, i < 20 → ∃ x, cs[i]? = some (.int .u64 x) ∧ U64 x) ∧ cs[20]? = some (.int .i64 n)
def isGroups (v : Value) : Prop := ∃ n, n ≤ 20 ∧ isGr n v

theorem und375 : ∃ f, Oaag.prog.underlying 375 = some (.struct f) := ⟨_, Oaag.underlying375⟩
theorem size375 : (Oaag.prog.info? 375).map (·.size) = some 21 := by kernel_rfl

theorem gr_load (w : World) (b n : Nat) (hb : Bank w b 0 20 .u64 U64) (hn : w.cell? ⟨b, 20, none⟩ = some (.int .i64 n)) : ∃ cs : List Value, cs.length = 21 ∧ (∀ j v, cs[j]? = some v → w.cell? ⟨b, j, none⟩ = some v) ∧ isGr n (.agg cs.toArray) ∧ ∀ v ∈ cs, v.oneCell' = true := by
  have ha : ∀ i, i < 21 → ∃ k x, w.cell? ⟨b, i, none⟩ = some (.int k x) := fun i hi => by
    by_cases h : i < 20
    · obtain ⟨v, hv, _⟩ := hb.cell i h; exact ⟨_, _, hv⟩
    · have : i = 20 := by omega
      subst this; exact ⟨_, _, hn⟩
  let cs : List Value := (List.range 21).map fun i => (w.cell? ⟨b, i, none⟩).getD undef
  have hl : cs.length = 21 := by simp [cs]
  have hg : ∀ j, j < 21 → cs[j]? = w.cell? ⟨b, j, none⟩ := fun j hj => by
    obtain ⟨k, x, hx⟩ := ha j hj
    simp [cs, hj, hx]
  have hlt : ∀ j v, cs[j]? = some v → j < 21 := fun j v h => by
    have := (List.getElem?_eq_some_iff.1 h).1
    omega
  refine ⟨cs, hl, fun j v h => by rw [← hg j (hlt j v h)]; exact h, ⟨cs, rfl, hl, fun i hi => ?_, by rw [hg 20 (by omega)]; exact hn⟩, fun v hv => ?_⟩
  · obtain ⟨v, hv, hu⟩ := hb.cell i hi
    exact ⟨v, by rw [hg i (by omega)]; exact hv, hu⟩
  · obtain ⟨j, hj, rfl⟩ := List.getElem_of_mem hv
    have h1 : cs[j]? = some cs[j] := List.getElem?_eq_getElem hj
    rw [hg j (by omega)] at h1
    obtain ⟨k, x, hx⟩ := ha j (by omega)
    rw [hx] at h1
    simp at h1
    rw [← h1]; rfl

theorem getz (n : Nat) (x : Value) (y : Value) (i : Nat) (hi : i < n) : ((Array.replicate n x).push y)[i]? = some x := by
  rw [Array.getElem?_push, if_neg (by simp; omega), Array.getElem?_replicate, if_pos hi]

theorem WR.start {w X : World} (hb : Below w.heap.size w X) (hz : X.heap.size = w.heap.size + 2) (m0 : Mine X w.heap.size) (m1 : Mine X (w.heap.size + 1)) (b0 : Bank X w.heap.size 0 20 .u64 U64) (b1 : Bank X (w.heap.size + 1) 0 18 .u64 U64) (c0 : ∃ x, X.cell? ⟨w.heap.size, 20, none⟩ = some (.int .i64 x)) : WR w (X.alloc (.cells ((Array.replicate 20 (.int .u64 0)).push (.int .i64 0)) 375)) 0 := by
  have hbX : Below X.heap.size X (X.alloc (.cells ((Array.replicate 20 (.int .u64 0)).push (.int .i64 0)) 375)) := (Below.refl _ _).alloc (Nat.le_refl _) _
  refine ⟨m0.alloc _, m1.alloc _, ?_, b0.kept hbX m0.1, b1.kept hbX m1.1, ?_, c0.imp fun x hx => (hbX.cell (p := ⟨_, 20, none⟩) m0.1).trans hx, ?_, hb.alloc (by omega) _⟩
  · rw [← hz]; exact Mine.new X _ _
  · rw [← hz]; exact Bank.new X _ _ _ _ _ _ fun i hi => ⟨0, by rw [Nat.zero_add]; exact getz 20 _ _ i hi, by decide, by decide⟩
  · rw [← hz, World.cell?_alloc_new]; rfl

structure W2s (w X : World) : Prop where
  hb : Below w.heap.size w X
  hz : X.heap.size = w.heap.size + 2
  m0 : Mine X w.heap.size
  m1 : Mine X (w.heap.size + 1)
  b0 : Bank X w.heap.size 0 20 .u64 U64
  b1 : Bank X (w.heap.size + 1) 0 18 .u64 U64
  c0 : ∃ x, X.cell? ⟨w.heap.size, 20, none⟩ = some (.int .i64 x)
theorem W2s.set {w X : World} (h : W2s w X) (i : Nat) {v : Int} (hv : U64 v) : W2s w (X.setCell ⟨w.heap.size + 1, i, none⟩ (.int .u64 v)) :=
  ⟨below_store h.hb (by omega) _, by rw [World.size_setCell]; exact h.hz, h.m0.set _ _, h.m1.set _ _, h.b0.other (by omega), h.b1.set i hv, h.c0.imp fun x hx => by rw [cell_set _ _ _ _ _ _ _ hx, if_neg (by omega)]⟩
theorem W2s.start {w X : World} (h : W2s w X) : WR w (X.alloc (.cells ((Array.replicate 20 (.int .u64 0)).push (.int .i64 0)) 375)) 0 := WR.start h.hb h.hz h.m0 h.m1 h.b0 h.b1 h.c0
theorem wr64' (x : Int) : U64 (IntKind.u64.wrap x) := by
  constructor <;> simp [IntKind.wrap, IntKind.bits, IntKind.signed] <;> omega
theorem u64_zero' : U64 0 := ⟨by decide, by decide⟩
theorem u64_or (a b : Int) : U64 (bits .or .u64 a b) := wr64' _
theorem u64_div (m k : Nat) (h : m < 18446744073709551616) : U64 ((m : Int) / 2 ^ k) := by
  have e : ((m : Int) / 2 ^ k) = ((m / 2 ^ k : Nat) : Int) := by simp
  have := Nat.div_le_self m (2 ^ k)
  rw [e]
  generalize m / 2 ^ k = q at this
  exact ⟨by omega, by omega⟩

set_option maxRecDepth 20000 in
set_option maxHeartbeats 4000000 in
theorem whole_any (m e : Nat) (hm : m < 18446744073709551616) (he : e ≤ 1023) : Ret 409 #[.int .u64 m, .int .i16 e] isGroups := by
  intro w K hK
  have HK := hide hK
  clear hK
  go_enter Oaag.func409, Oaag.ntmps409
  go_wp2_with (first
    | (refine wpList_newc 375 _ z375 rfl rfl ?_)
    | (refine wpList_newc 392 _ z392 rfl rfl ?_; refine unhide ?_))
  obtain ⟨w2, hw2⟩ : ∃ w2, w2 = (w.alloc (.cells ((Array.replicate 20 (.int .u64 0)).push (.int .i64 0)) 375)).alloc (.cells (Array.replicate 18 (.int .u64 0)) 392) := ⟨_, rfl⟩
  have hz : w2.heap.size = w.heap.size + 2 := by rw [hw2]; simp
  have hb : Below w.heap.size w w2 := by rw [hw2]; exact ((Below.refl _ _).alloc (Nat.le_refl _) _).alloc (by simp) _
  have m0 : Mine w2 w.heap.size := by rw [hw2]; exact (Mine.new w _ _).alloc _
  have m1 : Mine w2 (w.heap.size + 1) := by
    have := Mine.new (w.alloc (.cells ((Array.replicate 20 (.int .u64 0)).push (.int .i64 0)) 375)) (Array.replicate 18 (.int .u64 0)) 392
    rw [hw2]; simpa using this
  have b0 : Bank w2 w.heap.size 0 20 .u64 U64 := by
    rw [hw2]
    exact (Bank.new w _ _ _ _ _ _ fun i hi => ⟨0, by rw [Nat.zero_add]; exact getz 20 _ _ i hi, by decide, by decide⟩).alloc _ (by simp)
  have b1 : Bank w2 (w.heap.size + 1) 0 18 .u64 U64 := by
    have := Bank.new (w.alloc (.cells ((Array.replicate 20 (.int .u64 0)).push (.int .i64 0)) 375)) (Array.replicate 18 (.int .u64 0)) 392 0 18 .u64 U64 (fun i hi => ⟨0, by rw [Nat.zero_add, Array.getElem?_replicate, if_pos hi], by decide, by decide⟩)
    rw [hw2]; simpa using this
  have c0 : ∃ x, w2.cell? ⟨w.heap.size, 20, none⟩ = some (.int .i64 x) := by
    refine ⟨0, ?_⟩
    rw [hw2, World.cell?_alloc_old (h := by simp), World.cell?_alloc_new]; rfl
  rw [← hw2]
  clear hw2
  refine hide ?_
  obtain ⟨v1, k1, -⟩ := b1.cell (e / 64) (by omega)
  have f1 := m1.2 (e / 64)
  have f2 := m1.2 (e / 64 + 1)
  have k2 : ∀ u, ∃ v, (w2.setCell ⟨w.heap.size + 1, e / 64, none⟩ u).cell? ⟨w.heap.size + 1, e / 64 + 1, none⟩ = some v := fun u => by
    obtain ⟨v, h, -⟩ := b1.cell (e / 64 + 1) (by omega)
    exact ⟨_, cell_set _ _ _ _ _ _ _ h⟩
  obtain ⟨v2, hv2⟩ := Classical.axiomOfChoice k2
  clear k2
  have HX := hide (⟨hb, hz, m0, m1, b0, b1, c0⟩ : W2s w w2)
  clear m0 m1 b0 b1 c0 hb
  go_wp2_with (refine wpList_newc 375 _ z375 rfl rfl ?_; refine unhide ?_)
  · refine hide ?_
    ((first | with_reducible refine Go.Proofs.YgcoaaGreat.NatW.gen_calls ?_ | with_reducible refine Go.Proofs.YgcoaaGreat.NatW.gen_wp ?_ | with_reducible refine Go.Proofs.YgcoaaGreat.NatW.gen_list ?_ | with_reducible refine Go.Proofs.YgcoaaGreat.NatW.gen_body ?_); intro W hW)
    have hWR : WR w W 0 := by rw [← hW]; exact (((unhide HX).set _ (wr64' _)).set _ (u64_div _ _ hm)).start
    have HWR := hide hWR
    clear hWR hW
    go_wp2_with fail
    go_loopw [7] (fun _ wr => WholeO w wr) (fun _ wr => nOf w wr)
    case atStart => exact ⟨0, by omega, unhide HWR⟩
    case round =>
      clear HWR
      obtain ⟨n, hn, hwr⟩ := hrel
      have hno : nOf w wr = 20 - n := by unfold nOf; rw [hwr.c2]; simp [intOf]
      have HNO := hide hno
      have HWR := hide hwr
      clear hwr hno
      go_wp2_with fail
      go_loopw [7, 8, 9] (WholeI w n) (fun _ _ t9 _ => (intOf t9 + 1).toNat)
      case atStart => exact ⟨0, 0, 18, rfl, u64_zero', rfl, u64_zero', rfl, by omega, unhide HWR⟩
      case round =>
        clear HWR
        obtain ⟨r, a, i, rfl, ur, rfl, ua, rfl, hi, hwr⟩ := hrel
        rcases Nat.eq_zero_or_pos i with hi0 | hi0
        · subst hi0
          have k2 := hwr.c2
          have fn := hwr.m2.2 20
          obtain ⟨vn, kn, -⟩ := hwr.b2.cell n hn
          have fnn := hwr.m2.2 n
          have kn2 : ∀ u, (wr.setCell ⟨w.heap.size + 2, n, none⟩ u).cell? ⟨w.heap.size + 2, 20, none⟩ = some (.int .i64 n) := fun u => by rw [cell_set _ _ _ _ _ _ _ k2, if_neg (by omega)]
          have k2' := k2
          have kn2' : ∀ u v, ((wr.setCell ⟨w.heap.size + 2, n, none⟩ u).setCell ⟨w.heap.size + 2, 20, none⟩ v).cell? ⟨w.heap.size + 2, 20, none⟩ = some v := fun u v => by rw [cell_set _ _ _ _ _ _ _ (kn2 u), if_pos ⟨rfl, rfl⟩]
          have HWR := hide hwr
          clear hwr
          go_wp2_with (first
              | ((first | with_reducible refine Go.Proofs.YgcoaaGreat.NatW.at_load 375 ?_ | with_reducible refine Go.Proofs.YgcoaaGreat.NatW.at_store 375 ?_)
                 ((first | with_reducible refine Go.Proofs.YgcoaaGreat.NatW.gen_calls ?_ | with_reducible refine Go.Proofs.YgcoaaGreat.NatW.gen_wp ?_ | with_reducible refine Go.Proofs.YgcoaaGreat.NatW.gen_list ?_ | with_reducible refine Go.Proofs.YgcoaaGreat.NatW.gen_body ?_); intro W hW)
                 have hwr : WR w W (n + 1) := by rw [← hW]; exact (unhide HWR).setG n hn ur (n + 1) (by simp)
                 clear hW HWR k2 kn kn2 fn fnn
                 obtain ⟨cs, hl, hc, hgr, h1c⟩ := gr_load W (w.heap.size + 2) (n + 1) hwr.b2 hwr.c2
                 obtain ⟨fl, hfl⟩ := und375
                 refine wpList_ldA rfl 375 _ rfl (w.heap.size + 2) rfl (.agg cs.toArray) (load_agg W 375 21 _ hfl rfl size375 _ cs hl hc) ?_
                 have hold : ∀ j, j < 21 → ∃ v, W.cell? ⟨w.heap.size, j, none⟩ = some v := fun j hj => by
                   by_cases h : j < 20
                   · obtain ⟨v, hv, _⟩ := hwr.b0.cell j h; exact ⟨_, hv⟩
                   · have : j = 20 := by omega
                     subst this
                     obtain ⟨x, hx⟩ := hwr.c0
                     exact ⟨_, hx⟩
                 have hsto := store_agg W 375 21 size375 w.heap.size cs hl hold hwr.m0.2 h1c
                 have hld := load_agg (W.setCells w.heap.size 0 cs) 375 21 _ hfl rfl size375 w.heap.size cs hl (fun j v hj => setCells_at _ cs W (fun j hj => hold j (by omega)) j v hj)
                 have hbl : Below w.heap.size w (W.setCells w.heap.size 0 cs) := by
                   have hg := setCells_grow w.heap.size cs 0 W
                   exact ⟨hg.os.trans hwr.bl.os, hg.tape.trans hwr.bl.tape, hg.output.trans hwr.bl.output, Nat.le_trans hwr.bl.size hg.size, fun k hk => (hg.block k (Nat.lt_of_lt_of_le hk hwr.bl.size) (by simp; omega)).trans (hwr.bl.block k hk)⟩
                 have HST := hide hsto
                 have HLD := hide hld
                 have HBL := hide hbl
                 have HGR := hide hgr
                 clear hwr hc hl hgr h1c hold hsto hld hbl hfl)
              | ((first | with_reducible refine Go.Proofs.YgcoaaGreat.NatW.at_load 375 ?_ | with_reducible refine Go.Proofs.YgcoaaGreat.NatW.at_store 375 ?_)
                 refine wpList_stA rfl rfl 375 _ _ rfl w.heap.size rfl (.agg cs.toArray) rfl (unhide HST) ?_))
          all_goals first
            | (rename_i hq
               have hq2 := hq.2
               simp at hq2
               with_reducible refine And.intro ?_ ?_
               · exact ⟨n + 1, by omega, (unhide HWR).setG n hn ur (n + 1) (by simp)⟩
               · rw [unhide HNO]; unfold nOf; rw [kn2']; simp [intOf]; omega)
            | (refine bodyPost_ret (v := .agg cs.toArray) (by simp [results, Oaag.results409, Act.put, asAddr, unhide HLD]) rfl ?_
               exact unhide HK _ _ ⟨n + 1, by omega, unhide HGR⟩ (unhide HBL))
            | skip
        · obtain ⟨j, rfl⟩ : ∃ j, i = j + 1 := ⟨i - 1, by omega⟩
          obtain ⟨vj, kj, uj⟩ := hwr.b1.cell j (by omega)
          have HWR := hide hwr
          clear hwr
          go_wp2_with fail
          refine (div_ret r vj 1000000000000000000 ur uj (by (first | assumption | exact U64.wrap _ | exact U64.bits _ _ _ | exact U64.div (by first | assumption | exact U64.wrap _ | exact U64.bits _ _ _ | exact U64.div (by first | assumption | exact U64.wrap _ | exact U64.bits _ _ _ | exact U64.lit (by omega) (by omega)) _ | exact U64.ediv (by first | assumption | exact U64.wrap _ | exact U64.bits _ _ _ | exact U64.lit (by omega) (by omega)) _ (by omega) | exact U64.lit (by omega) (by omega) | exact U64.one _ (by first | assumption | exact U64.wrap _ | exact U64.bits _ _ _ | exact U64.lit (by omega) (by omega)) (by first | assumption | exact U64.wrap _ | exact U64.bits _ _ _ | exact U64.lit (by omega) (by omega))) _ | exact U64.ediv (by first | assumption | exact U64.wrap _ | exact U64.bits _ _ _ | exact U64.div (by first | assumption | exact U64.wrap _ | exact U64.bits _ _ _ | exact U64.lit (by omega) (by omega)) _ | exact U64.ediv (by first | assumption | exact U64.wrap _ | exact U64.bits _ _ _ | exact U64.lit (by omega) (by omega)) _ (by omega) | exact U64.lit (by omega) (by omega) | exact U64.one _ (by first | assumption | exact U64.wrap _ | exact U64.bits _ _ _ | exact U64.lit (by omega) (by omega)) (by first | assumption | exact U64.wrap _ | exact U64.bits _ _ _ | exact U64.lit (by omega) (by omega))) _ (by omega) | exact U64.lit (by omega) (by omega) | exact U64.one _ (by first | assumption | exact U64.wrap _ | exact U64.bits _ _ _ | exact U64.div (by first | assumption | exact U64.wrap _ | exact U64.bits _ _ _ | exact U64.lit (by omega) (by omega)) _ | exact U64.ediv (by first | assumption | exact U64.wrap _ | exact U64.bits _ _ _ | exact U64.lit (by omega) (by omega)) _ (by omega) | exact U64.lit (by omega) (by omega) | exact U64.one _ (by first | assumption | exact U64.wrap _ | exact U64.bits _ _ _ | exact U64.lit (by omega) (by omega)) (by first | assumption | exact U64.wrap _ | exact U64.bits _ _ _ | exact U64.lit (by omega) (by omega))) (by first | assumption | exact U64.wrap _ | exact U64.bits _ _ _ | exact U64.div (by first | assumption | exact U64.wrap _ | exact U64.bits _ _ _ | exact U64.lit (by omega) (by omega)) _ | exact U64.ediv (by first | assumption | exact U64.wrap _ | exact U64.bits _ _ _ | exact U64.lit (by omega) (by omega)) _ (by omega) | exact U64.lit (by omega) (by omega) | exact U64.one _ (by first | assumption | exact U64.wrap _ | exact U64.bits _ _ _ | exact U64.lit (by omega) (by omega)) (by first | assumption | exact U64.wrap _ | exact U64.bits _ _ _ | exact U64.lit (by omega) (by omega)))))) wr _ ?_
          rintro _ w5 ⟨q, r', b', rfl, uq, ur'⟩ hb5
          have hwr := (unhide HWR).later hb5
          obtain ⟨vj', kj', uj'⟩ := hwr.b1.cell j (by omega)
          have fj := hwr.m1.2 j
          have HWR5 := hide hwr
          clear hwr HWR kj hb5
          go_wp2_with fail
          refine ⟨⟨_, _, j, rfl, ur', rfl, u64_or _ _, ?_, by omega, (unhide HWR5).setW _ uq⟩, ?_⟩
          · congr 1; try omega
          · simp [intOf]; try omega
  · refine hide ?_
    ((first | with_reducible refine Go.Proofs.YgcoaaGreat.NatW.gen_calls ?_ | with_reducible refine Go.Proofs.YgcoaaGreat.NatW.gen_wp ?_ | with_reducible refine Go.Proofs.YgcoaaGreat.NatW.gen_list ?_ | with_reducible refine Go.Proofs.YgcoaaGreat.NatW.gen_body ?_); intro W hW)
    have hWR : WR w W 0 := by rw [← hW]; exact ((unhide HX).set _ (wr64' _)).start
    have HWR := hide hWR
    clear hWR hW
    go_wp2_with fail
    go_loopw [7] (fun _ wr => WholeO w wr) (fun _ wr => nOf w wr)
    case atStart => exact ⟨0, by omega, unhide HWR⟩
    case round =>
      clear HWR
      obtain ⟨n, hn, hwr⟩ := hrel
      have hno : nOf w wr = 20 - n := by unfold nOf; rw [hwr.c2]; simp [intOf]
      have HNO := hide hno
      have HWR := hide hwr
      clear hwr hno
      go_wp2_with fail
      go_loopw [7, 8, 9] (WholeI w n) (fun _ _ t9 _ => (intOf t9 + 1).toNat)
      case atStart => exact ⟨0, 0, 18, rfl, u64_zero', rfl, u64_zero', rfl, by omega, unhide HWR⟩
      case round =>
        clear HWR
        obtain ⟨r, a, i, rfl, ur, rfl, ua, rfl, hi, hwr⟩ := hrel
        rcases Nat.eq_zero_or_pos i with hi0 | hi0
        · subst hi0
          have k2 := hwr.c2
          have fn := hwr.m2.2 20
          obtain ⟨vn, kn, -⟩ := hwr.b2.cell n hn
          have fnn := hwr.m2.2 n
          have kn2 : ∀ u, (wr.setCell ⟨w.heap.size + 2, n, none⟩ u).cell? ⟨w.heap.size + 2, 20, none⟩ = some (.int .i64 n) := fun u => by rw [cell_set _ _ _ _ _ _ _ k2, if_neg (by omega)]
          have k2' := k2
          have kn2' : ∀ u v, ((wr.setCell ⟨w.heap.size + 2, n, none⟩ u).setCell ⟨w.heap.size + 2, 20, none⟩ v).cell? ⟨w.heap.size + 2, 20, none⟩ = some v := fun u v => by rw [cell_set _ _ _ _ _ _ _ (kn2 u), if_pos ⟨rfl, rfl⟩]
          have HWR := hide hwr
          clear hwr
          go_wp2_with (first
              | ((first | with_reducible refine Go.Proofs.YgcoaaGreat.NatW.at_load 375 ?_ | with_reducible refine Go.Proofs.YgcoaaGreat.NatW.at_store 375 ?_)
                 ((first | with_reducible refine Go.Proofs.YgcoaaGreat.NatW.gen_calls ?_ | with_reducible refine Go.Proofs.YgcoaaGreat.NatW.gen_wp ?_ | with_reducible refine Go.Proofs.YgcoaaGreat.NatW.gen_list ?_ | with_reducible refine Go.Proofs.YgcoaaGreat.NatW.gen_body ?_); intro W hW)
                 have hwr : WR w W (n + 1) := by rw [← hW]; exact (unhide HWR).setG n hn ur (n + 1) (by simp)
                 clear hW HWR k2 kn kn2 fn fnn
                 obtain ⟨cs, hl, hc, hgr, h1c⟩ := gr_load W (w.heap.size + 2) (n + 1) hwr.b2 hwr.c2
                 obtain ⟨fl, hfl⟩ := und375
                 refine wpList_ldA rfl 375 _ rfl (w.heap.size + 2) rfl (.agg cs.toArray) (load_agg W 375 21 _ hfl rfl size375 _ cs hl hc) ?_
                 have hold : ∀ j, j < 21 → ∃ v, W.cell? ⟨w.heap.size, j, none⟩ = some v := fun j hj => by
                   by_cases h : j < 20
                   · obtain ⟨v, hv, _⟩ := hwr.b0.cell j h; exact ⟨_, hv⟩
                   · have : j = 20 := by omega
                     subst this
                     obtain ⟨x, hx⟩ := hwr.c0
                     exact ⟨_, hx⟩
                 have hsto := store_agg W 375 21 size375 w.heap.size cs hl hold hwr.m0.2 h1c
                 have hld := load_agg (W.setCells w.heap.size 0 cs) 375 21 _ hfl rfl size375 w.heap.size cs hl (fun j v hj => setCells_at _ cs W (fun j hj => hold j (by omega)) j v hj)
                 have hbl : Below w.heap.size w (W.setCells w.heap.size 0 cs) := by
                   have hg := setCells_grow w.heap.size cs 0 W
                   exact ⟨hg.os.trans hwr.bl.os, hg.tape.trans hwr.bl.tape, hg.output.trans hwr.bl.output, Nat.le_trans hwr.bl.size hg.size, fun k hk => (hg.block k (Nat.lt_of_lt_of_le hk hwr.bl.size) (by simp; omega)).trans (hwr.bl.block k hk)⟩
                 have HST := hide hsto
                 have HLD := hide hld
                 have HBL := hide hbl
                 have HGR := hide hgr
                 clear hwr hc hl hgr h1c hold hsto hld hbl hfl)
              | ((first | with_reducible refine Go.Proofs.YgcoaaGreat.NatW.at_load 375 ?_ | with_reducible refine Go.Proofs.YgcoaaGreat.NatW.at_store 375 ?_)
                 refine wpList_stA rfl rfl 375 _ _ rfl w.heap.size rfl (.agg cs.toArray) rfl (unhide HST) ?_))
          all_goals first
            | (rename_i hq
               have hq2 := hq.2
               simp at hq2
               with_reducible refine And.intro ?_ ?_
               · exact ⟨n + 1, by omega, (unhide HWR).setG n hn ur (n + 1) (by simp)⟩
               · rw [unhide HNO]; unfold nOf; rw [kn2']; simp [intOf]; omega)
            | (refine bodyPost_ret (v := .agg cs.toArray) (by simp [results, Oaag.results409, Act.put, asAddr, unhide HLD]) rfl ?_
               exact unhide HK _ _ ⟨n + 1, by omega, unhide HGR⟩ (unhide HBL))
            | skip
        · obtain ⟨j, rfl⟩ : ∃ j, i = j + 1 := ⟨i - 1, by omega⟩
          obtain ⟨vj, kj, uj⟩ := hwr.b1.cell j (by omega)
          have HWR := hide hwr
          clear hwr
          go_wp2_with fail
          refine (div_ret r vj 1000000000000000000 ur uj (by (first | assumption | exact U64.wrap _ | exact U64.bits _ _ _ | exact U64.div (by first | assumption | exact U64.wrap _ | exact U64.bits _ _ _ | exact U64.div (by first | assumption | exact U64.wrap _ | exact U64.bits _ _ _ | exact U64.lit (by omega) (by omega)) _ | exact U64.ediv (by first | assumption | exact U64.wrap _ | exact U64.bits _ _ _ | exact U64.lit (by omega) (by omega)) _ (by omega) | exact U64.lit (by omega) (by omega) | exact U64.one _ (by first | assumption | exact U64.wrap _ | exact U64.bits _ _ _ | exact U64.lit (by omega) (by omega)) (by first | assumption | exact U64.wrap _ | exact U64.bits _ _ _ | exact U64.lit (by omega) (by omega))) _ | exact U64.ediv (by first | assumption | exact U64.wrap _ | exact U64.bits _ _ _ | exact U64.div (by first | assumption | exact U64.wrap _ | exact U64.bits _ _ _ | exact U64.lit (by omega) (by omega)) _ | exact U64.ediv (by first | assumption | exact U64.wrap _ | exact U64.bits _ _ _ | exact U64.lit (by omega) (by omega)) _ (by omega) | exact U64.lit (by omega) (by omega) | exact U64.one _ (by first | assumption | exact U64.wrap _ | exact U64.bits _ _ _ | exact U64.lit (by omega) (by omega)) (by first | assumption | exact U64.wrap _ | exact U64.bits _ _ _ | exact U64.lit (by omega) (by omega))) _ (by omega) | exact U64.lit (by omega) (by omega) | exact U64.one _ (by first | assumption | exact U64.wrap _ | exact U64.bits _ _ _ | exact U64.div (by first | assumption | exact U64.wrap _ | exact U64.bits _ _ _ | exact U64.lit (by omega) (by omega)) _ | exact U64.ediv (by first | assumption | exact U64.wrap _ | exact U64.bits _ _ _ | exact U64.lit (by omega) (by omega)) _ (by omega) | exact U64.lit (by omega) (by omega) | exact U64.one _ (by first | assumption | exact U64.wrap _ | exact U64.bits _ _ _ | exact U64.lit (by omega) (by omega)) (by first | assumption | exact U64.wrap _ | exact U64.bits _ _ _ | exact U64.lit (by omega) (by omega))) (by first | assumption | exact U64.wrap _ | exact U64.bits _ _ _ | exact U64.div (by first | assumption | exact U64.wrap _ | exact U64.bits _ _ _ | exact U64.lit (by omega) (by omega)) _ | exact U64.ediv (by first | assumption | exact U64.wrap _ | exact U64.bits _ _ _ | exact U64.lit (by omega) (by omega)) _ (by omega) | exact U64.lit (by omega) (by omega) | exact U64.one _ (by first | assumption | exact U64.wrap _ | exact U64.bits _ _ _ | exact U64.lit (by omega) (by omega)) (by first | assumption | exact U64.wrap _ | exact U64.bits _ _ _ | exact U64.lit (by omega) (by omega)))))) wr _ ?_
          rintro _ w5 ⟨q, r', b', rfl, uq, ur'⟩ hb5
          have hwr := (unhide HWR).later hb5
          obtain ⟨vj', kj', uj'⟩ := hwr.b1.cell j (by omega)
          have fj := hwr.m1.2 j
          have HWR5 := hide hwr
          clear hwr HWR kj hb5
          go_wp2_with fail
          refine ⟨⟨_, _, j, rfl, ur', rfl, u64_or _ _, ?_, by omega, (unhide HWR5).setW _ uq⟩, ?_⟩
          · congr 1; try omega
          · simp [intOf]; try omega

end Go.Proofs.YgcoaaGreat.NatW
