/-
  Package expand: put, enough.
-/
import Derived.Test.YgcoaaGreatApp
set_option linter.unusedVariables false
set_option linter.unusedSimpArgs false
namespace Go.Proofs.YgcoaaGreat.NatW
attribute [local go_sem] Go.Instr.field Go.asAgg
open Go.RowKit

theorem grow_trans {w w1 w2 : World} {r : Option Nat} (h : w.grownBy w1 r) (k : w1.grownBy w2 r) : w.grownBy w2 r :=
  ⟨k.os.trans h.os, k.tape.trans h.tape, k.output.trans h.output, Nat.le_trans h.size k.size, fun i hi hr => (k.block i (Nat.lt_of_lt_of_le hi h.size) hr).trans (h.block i hi hr)⟩
theorem grow_refl (w : World) (r : Option Nat) : w.grownBy w r := ⟨rfl, rfl, rfl, Nat.le_refl _, fun _ _ _ => rfl⟩
theorem grow_below {w w' : World} (h : Below w.heap.size w w') (r : Option Nat) : w.grownBy w' r := ⟨h.os, h.tape, h.output, h.size, fun i hi _ => h.block i hi⟩
theorem grow_set (w : World) (d i : Nat) (v : Value) : w.grownBy (w.setCell ⟨d, i, none⟩ v) (some d) :=
  ⟨rfl, rfl, rfl, by simp, fun k _ hk => Below.heap_setCell _ _ _ _ (by intro e; apply hk; simpa using congrArg some e)⟩
theorem grow_drew (w : World) (r : Option Nat) : w.grownBy w.drew r := grow_below (Below.refl _ _).drew r

/-- A region that draws: n0 operations that read, in any order; then the stores. -/
theorem region_then {P : Program} {id : Nat} {Q : Exit → Act → World → Prop} {a : Act} {wb : World} (x : Later wb) {l : List Oper} (n0 f : Nat) (hm : P.follows .mixedOrders = true) (hB : Mix.shapeB l.toArray n0 f = true)
    (hin : ((List.range n0).all fun i => match Mix.dst l.toArray i with | some t => decide (t < a.tmps.size) | none => true) = true)
    (h : wpQuiet P l.toArray (fun w' => ∃ x : Later wb, w' = x.at_) (fun a' => ∀ y : Later wb, wpList P l.toArray Q (l.drop n0) a' y.at_) (l.take n0) a) : (Code.region id l.toArray true).wp P Q a x.at_ :=
  Mix.wp_region_quiet_then (C := fun w' => ∃ x : Later wb, w' = x.at_) n0 f hm hB hin ⟨⟨_, x.ok.drew⟩, rfl⟩ (by
    have e : (fun a' => ∀ w', (∃ x : Later wb, w' = x.at_) → wpList P l.toArray Q (l.drop n0) a' w') = (fun a' => ∀ y : Later wb, wpList P l.toArray Q (l.drop n0) a' y.at_) := by
      funext a'
      apply propext
      exact ⟨fun h y => h _ ⟨y, rfl⟩, fun h w' ⟨y, hy⟩ => by rw [hy]; exact h y⟩
    rw [e]
    exact h)


def I64 (x : Int) : Prop := -9223372036854775808 ≤ x ∧ x ≤ 9223372036854775807
theorem wri64 (x : Int) : I64 (IntKind.i64.wrap x) := by
  constructor <;> simp [IntKind.wrap, IntKind.bits, IntKind.signed] <;> omega

theorem wr64i (x : Int) : I64 (wrap64 x) := by
  constructor <;> simp only [wrap64] <;> omega

/-- Block d is an expansion of n digits. -/
structure Exps (w : World) (d : Nat) (n : Nat) (top sig prec : Int) : Prop where
  own : Mine w d
  dig : Bank w d 0 1441 .u8 (fun _ => True)
  n_ : w.cell? ⟨d, 1441, none⟩ = some (.int .i64 n)
  top_ : w.cell? ⟨d, 1442, none⟩ = some (.int .i64 top)
  sig_ : w.cell? ⟨d, 1443, none⟩ = some (.int .i64 sig)
  prec_ : w.cell? ⟨d, 1444, none⟩ = some (.int .i64 prec)
  le : n ≤ 1441
  top64 : I64 top
  sig64 : I64 sig
  prec64 : I64 prec

theorem Exps.kept {w w' : World} {d n : Nat} {top sig prec : Int} (h : Exps w d n top sig prec) (hb : Below w.heap.size w w') : Exps w' d n top sig prec :=
  ⟨h.own.kept hb h.own.1, h.dig.kept hb h.own.1, (hb.cell (p := ⟨d, 1441, none⟩) h.own.1).trans h.n_, (hb.cell (p := ⟨d, 1442, none⟩) h.own.1).trans h.top_, (hb.cell (p := ⟨d, 1443, none⟩) h.own.1).trans h.sig_, (hb.cell (p := ⟨d, 1444, none⟩) h.own.1).trans h.prec_, h.le, h.top64, h.sig64, h.prec64⟩
theorem Exps.setTop {w : World} {d n : Nat} {top sig prec : Int} (h : Exps w d n top sig prec) {t : Int} (ht : I64 t) : Exps (w.setCell ⟨d, 1442, none⟩ (.int .i64 t)) d n t sig prec :=
  ⟨h.own.set _ _, h.dig.other (by omega), by rw [cell_set _ _ _ _ _ _ _ h.n_, if_neg (by omega)], by rw [cell_set _ _ _ _ _ _ _ h.top_, if_pos ⟨rfl, rfl⟩], by rw [cell_set _ _ _ _ _ _ _ h.sig_, if_neg (by omega)], by rw [cell_set _ _ _ _ _ _ _ h.prec_, if_neg (by omega)], h.le, ht, h.sig64, h.prec64⟩
theorem Exps.push {w : World} {d n : Nat} {top sig prec : Int} (h : Exps w d n top sig prec) (c : Int) (i : Nat) (hi : i < 1441) {m : Nat} (hm : m ≤ 1441) : Exps ((w.setCell ⟨d, i, none⟩ (.int .u8 c)).setCell ⟨d, 1441, none⟩ (.int .i64 m)) d m top sig prec :=
  have a1 := fun {x : Nat} {v : Value} (hx : w.cell? ⟨d, x, none⟩ = some v) (hne : x ≠ i) => (cell_set w d i d x (.int .u8 c) v hx).trans (by rw [if_neg (by omega)])
  ⟨(h.own.set _ _).set _ _, (h.dig.set i (v := c) trivial).other (by omega), by rw [cell_set _ _ _ _ _ _ _ (a1 h.n_ (by omega)), if_pos ⟨rfl, rfl⟩], by rw [cell_set _ _ _ _ _ _ _ (a1 h.top_ (by omega)), if_neg (by omega)], by rw [cell_set _ _ _ _ _ _ _ (a1 h.sig_ (by omega)), if_neg (by omega)], by rw [cell_set _ _ _ _ _ _ _ (a1 h.prec_ (by omega)), if_neg (by omega)], hm, h.top64, h.sig64, h.prec64⟩

set_option maxRecDepth 20000 in
set_option maxHeartbeats 1000000 in
theorem enough_any (d n : Nat) (top sig prec pl : Int) (hpl : I64 pl) (w : World) (h : Exps w d n top sig prec) (K : Ending → World → Prop) (hK : ∀ b w', (prec < pl → b = true) → (b = false → (n : Int) ≤ sig) → Below w.heap.size w w' → K (.returned (.bool b)) w') : Calls Oaag.prog 439 #[.pointer (some ⟨d, 0, none⟩), .int .i64 pl] w K := by
  have HK := hide hK
  clear hK
  obtain ⟨wb, x0, hwb, hB⟩ := boxes0 w
  have h' : ∀ x : Later wb, Exps x.at_ d n top sig prec := fun x => by subst hwb; exact h.kept (hB x)
  subst hwb
  have hne : Nonempty (Later wb) := ⟨x0⟩
  have k1 := fun x => (h' x).n_
  have k2 := fun x => (h' x).sig_
  have k3 := fun x => (h' x).prec_
  have h1 := h.le
  have h2 := h.sig64
  have h3 := h.prec64
  clear h h'
  unfold I64 at *
  go_enter Oaag.func439, Oaag.ntmps439
  by_cases q1 : sig < n
  · go_wp2_with (refine Go.Lax.region_reads _ (by kernel_rfl) (by kernel_rfl) ?_; (repeat (first | go_big_quiet_skip | (go_big_quiet_want; go_big_quiet_op; go_big_quiet_on))); refine wpQuiet_nil ?_; intro y__)
    exact unhide HK _ _ (fun _ => by simp; try omega) (fun hb => by simp at hb; try omega) (hB _)
  · go_wp2_with (refine Go.Lax.region_reads _ (by kernel_rfl) (by kernel_rfl) ?_; (repeat (first | go_big_quiet_skip | (go_big_quiet_want; go_big_quiet_op; go_big_quiet_on))); refine wpQuiet_nil ?_; intro y__)
    exact unhide HK _ _ (fun _ => by simp; try omega) (fun hb => by omega) (hB _)

theorem put_c (v p : Int) (h : 0 ≤ v) (hp : 0 ≤ p) : ∃ c, (v / p).tmod 10 = c ∧ 0 ≤ c ∧ c ≤ 9 := by
  have h1 : 0 ≤ v / p := Int.ediv_nonneg h hp
  refine ⟨_, rfl, ?_, ?_⟩
  · rw [Int.tmod_eq_emod_of_nonneg h1]; omega
  · rw [Int.tmod_eq_emod_of_nonneg h1]; omega

/-- The state of put's loop. -/
def PutR (w : World) (d : Nat) (sig prec : Int) (t6 t25 : Value) (wr : World) : Prop := ∃ (p : Int) (i m : Nat) (tp : Int), t6 = .int .u64 p ∧ 1 ≤ p ∧ p ≤ 100000000000000000 ∧ t25 = .int .i64 i ∧ i ≤ 18 ∧ Exps wr d m tp sig prec ∧ m ≤ 1440 ∧ w.grownBy wr (some d)

theorem PutR.of {w wr : World} {d i m : Nat} {sig prec p tp : Int} (hp1 : 1 ≤ p) (hp2 : p ≤ 100000000000000000) (hi : i < 18) (h : Exps wr d m tp sig prec) (hm : m ≤ 1440) (hg : w.grownBy wr (some d)) : PutR w d sig prec (.int .u64 p) (.int .i64 ((i : Int) + 1)) wr :=
  ⟨p, i + 1, m, tp, rfl, hp1, hp2, by simp, by omega, h, hm, hg⟩
theorem Exps.push1 {w : World} {d n : Nat} {top sig prec : Int} (h : Exps w d n top sig prec) (c : Int) (i : Nat) (hi : i < 1441) {M : Int} (m : Nat) (hM : M = (m : Int)) (hm : m ≤ 1441) : Exps ((w.setCell ⟨d, i, none⟩ (.int .u8 c)).setCell ⟨d, 1441, none⟩ (.int .i64 M)) d m top sig prec := by
  subst hM; exact h.push c i hi hm
theorem grow_set1 {w w' : World} {d : Nat} (h : w.grownBy w' (some d)) (i : Nat) (v : Value) : w.grownBy (w'.setCell ⟨d, i, none⟩ v) (some d) := grow_trans h (grow_set _ _ _ _)

set_option maxRecDepth 20000 in
set_option maxHeartbeats 2000000 in
theorem put_any (d n : Nat) (top sig prec v : Int) (uv : U64 v) (behind : Bool) (hn : n ≤ 1440) (w : World) (h : Exps w d n top sig prec) (K : Ending → World → Prop)
    (hK : ∀ n' top' w', Exps w' d n' top' sig prec → n' ≤ 1440 → w.grownBy w' (some d) → K (.returned (.tuple #[])) w') : Calls Oaag.prog 410 #[.pointer (some ⟨d, 0, none⟩), .int .u64 v, .bool behind] w K := by
  have HK := hide hK
  clear hK
  have uv0 := uv.1
  have uv1 := uv.2
  go_enter Oaag.func410, Oaag.ntmps410
  have k1 := h.n_
  have k2 := h.top_
  have f2 := h.own.2 1442
  have ht := h.top64
  have H := hide h
  clear h
  have e0 : ((n : Int) == 0) = decide ((n : Int) = 0) := rfl
  by_cases hz : v = 0 ∧ n = 0
  · obtain ⟨rfl, rfl⟩ := hz
    cases behind
    all_goals go_wp2_with fail
    · refine bodyPost_box rfl ?_; intro r hr; simp [results, Oaag.results410, go_sem] at hr; subst hr; refine ⟨_, rfl, ?_⟩
      exact unhide HK _ _ _ (unhide H) hn (grow_refl _ _)
    · refine bodyPost_box rfl ?_; intro r hr; simp [results, Oaag.results410, go_sem] at hr; subst hr; refine ⟨_, rfl, ?_⟩
      exact unhide HK _ _ _ ((unhide H).setTop (wr64i _)) hn (grow_set _ _ _ _)
  · have hst : PutR w d sig prec (.int .u64 100000000000000000) (.int .i64 0) w := ⟨_, 0, n, top, rfl, by omega, by omega, rfl, by omega, unhide H, hn, grow_refl _ _⟩
    have HS := hide hst
    clear hst
    have ez : (v == 0 && ((n : Int) == 0)) = false := by
      cases hv : v == 0
      · rfl
      · simp at hv; simp [hv]; omega
    cases hvb : (v == 0)
    · go_wp2_with fail
      clear k1 k2 f2 ht e0 ez H hz
      go_loopw [6, 25] (PutR w d sig prec) (fun t6 t25 _ => 18 - (intOf t25).toNat)
      case atStart => exact unhide HS
      case round => 
        clear HS
        obtain ⟨p, i, m, tp, rfl, hp1, hp2, rfl, hi, h, hm, hg⟩ := hrel
        obtain ⟨wb, x0, hwb, hB⟩ := boxes0 wr
        have h' : ∀ x : Later wb, Exps x.at_ d m tp sig prec := fun x => by subst hwb; exact h.kept (hB x)
        have hg' : ∀ x : Later wb, w.grownBy x.at_ (some d) := fun x => by subst hwb; exact grow_trans hg (grow_below (hB x) _)
        subst hwb
        clear h hg
        have hne : Nonempty (Later wb) := ⟨x0⟩
        have k1 := fun x => (h' x).n_
        have k2 := fun x => (h' x).top_
        have f1 := fun x => (h' x).own.2 1441
        have f2 := fun x => (h' x).own.2 1442
        have f3 := fun x => (h' x).own.2 m
        have k3 := fun x => (h' x).dig.cell m (by omega)
        have ks1 : ∀ (x : Later wb) u, m < 1440 → (x.at_.setCell ⟨d, m, none⟩ u).cell? ⟨d, 1441, none⟩ = some (.int .i64 m) := fun x u hm => by rw [cell_set _ _ _ _ _ _ _ (k1 x), if_neg (by omega)]
        have ks2 : ∀ (x : Later wb) u, m < 1440 → (x.at_.setCell ⟨d, m, none⟩ u).cell? ⟨d, 1442, none⟩ = some (.int .i64 tp) := fun x u hm => by rw [cell_set _ _ _ _ _ _ _ (k2 x), if_neg (by omega)]
        have HE := hide h'
        have HG := hide hg'
        clear h' hg'
        obtain ⟨c, hc, hc0, hc9⟩ := put_c v p uv0 (by omega)
        have mp : ∃ p', (if p / 10 < 1 then 1 else p / 10) = p' ∧ 1 ≤ p' ∧ p' ≤ 100000000000000000 := ⟨_, rfl, by split <;> omega, by split <;> omega⟩
        obtain ⟨p', ep, hp1', hp2'⟩ := mp
        have e0 : ((m : Int) == 0) = decide ((m : Int) = 0) := rfl
        by_cases hi18 : i < 18
        · by_cases hm14 : m < 1440
          · replace ks1 := fun x u => ks1 x u hm14
            replace ks2 := fun x u => ks2 x u hm14
            rcases Nat.eq_zero_or_pos m with hm0 | hm0
            · subst hm0
              simp only [Int.ofNat_zero, decide_true, Int.natCast_zero] at *
              go_wp2_with (first
                | (with_reducible refine Go.Proofs.YgcoaaGreat.NatW.at_reg 12 ?_
                   (repeat (first | (rewrite [Go.Proofs.YgcoaaGreat.NatW.frz_ite]; generalize Go.Proofs.YgcoaaGreat.NatW.frzI _ = x__) | (rewrite [Go.Proofs.YgcoaaGreat.NatW.frz_dec]; generalize Go.Proofs.YgcoaaGreat.NatW.frzB _ = x__) | (rewrite [Go.Proofs.YgcoaaGreat.NatW.frz_beq]; generalize Go.Proofs.YgcoaaGreat.NatW.frzB _ = x__) | (rewrite [Go.Proofs.YgcoaaGreat.NatW.frz_not]; generalize Go.Proofs.YgcoaaGreat.NatW.frzB _ = x__) | (rewrite [Go.Proofs.YgcoaaGreat.NatW.frz_and]; generalize Go.Proofs.YgcoaaGreat.NatW.frzB _ = x__) | (rewrite [Go.Proofs.YgcoaaGreat.NatW.frz_or]; generalize Go.Proofs.YgcoaaGreat.NatW.frzB _ = x__)))
                   (refine region_then _ 11 4 (by kernel_rfl) (by kernel_rfl) (by kernel_rfl) ?_; simp only [List.take, List.drop]; (repeat (first | go_big_quiet_skip | (go_big_quiet_want; go_big_quiet_op; go_big_quiet_on))); refine wpQuiet_nil ?_)
                   intro y
                   obtain ⟨vm, k3y, -⟩ := k3 y))
              all_goals first
                | (with_reducible refine And.intro (PutR.of hp1' hp2' hi18 (Exps.setTop (unhide HE _) (wr64i _)) ?_ ?_) ?_
                   · omega
                   · (repeat (with_reducible refine grow_set1 ?_ _ _)); exact unhide HG _
                   · simp [intOf]; omega)
                | (with_reducible refine And.intro (PutR.of hp1' hp2' hi18 (unhide HE _) ?_ ?_) ?_
                   · omega
                   · exact unhide HG _
                   · simp [intOf]; omega)
                | (with_reducible refine And.intro (PutR.of hp1' hp2' hi18 (Exps.setTop (Exps.push1 (unhide HE _) _ _ ?_ (0 + 1) ?_ ?_) (wr64i _)) ?_ ?_) ?_
                   · omega
                   · simp
                   · omega
                   · omega
                   · (repeat (with_reducible refine grow_set1 ?_ _ _)); exact unhide HG _
                   · simp [intOf]; omega)
                | (with_reducible refine And.intro (PutR.of hp1' hp2' hi18 (Exps.push1 (unhide HE _) _ _ ?_ (0 + 1) ?_ ?_) ?_ ?_) ?_
                   · omega
                   · simp
                   · omega
                   · omega
                   · (repeat (with_reducible refine grow_set1 ?_ _ _)); exact unhide HG _
                   · simp [intOf]; omega)
                | skip
            · have e1 : ((m : Int) == 0) = false := by simp; omega
              clear e0
              go_wp2_with (first
                | (with_reducible refine Go.Proofs.YgcoaaGreat.NatW.at_reg 12 ?_
                   (repeat (first | (rewrite [Go.Proofs.YgcoaaGreat.NatW.frz_ite]; generalize Go.Proofs.YgcoaaGreat.NatW.frzI _ = x__) | (rewrite [Go.Proofs.YgcoaaGreat.NatW.frz_dec]; generalize Go.Proofs.YgcoaaGreat.NatW.frzB _ = x__) | (rewrite [Go.Proofs.YgcoaaGreat.NatW.frz_beq]; generalize Go.Proofs.YgcoaaGreat.NatW.frzB _ = x__) | (rewrite [Go.Proofs.YgcoaaGreat.NatW.frz_not]; generalize Go.Proofs.YgcoaaGreat.NatW.frzB _ = x__) | (rewrite [Go.Proofs.YgcoaaGreat.NatW.frz_and]; generalize Go.Proofs.YgcoaaGreat.NatW.frzB _ = x__) | (rewrite [Go.Proofs.YgcoaaGreat.NatW.frz_or]; generalize Go.Proofs.YgcoaaGreat.NatW.frzB _ = x__)))
                   (refine region_then _ 11 4 (by kernel_rfl) (by kernel_rfl) (by kernel_rfl) ?_; simp only [List.take, List.drop]; (repeat (first | go_big_quiet_skip | (go_big_quiet_want; go_big_quiet_op; go_big_quiet_on))); refine wpQuiet_nil ?_)
                   intro y
                   obtain ⟨vm, k3y, -⟩ := k3 y))
              all_goals first
                | (with_reducible refine And.intro (PutR.of hp1' hp2' hi18 (Exps.setTop (unhide HE _) (wr64i _)) ?_ ?_) ?_
                   · omega
                   · (repeat (with_reducible refine grow_set1 ?_ _ _)); exact unhide HG _
                   · simp [intOf]; omega)
                | (with_reducible refine And.intro (PutR.of hp1' hp2' hi18 (unhide HE _) ?_ ?_) ?_
                   · omega
                   · exact unhide HG _
                   · simp [intOf]; omega)
                | (with_reducible refine And.intro (PutR.of hp1' hp2' hi18 (Exps.setTop (Exps.push1 (unhide HE _) _ _ ?_ (m + 1) ?_ ?_) (wr64i _)) ?_ ?_) ?_
                   · omega
                   · simp
                   · omega
                   · omega
                   · (repeat (with_reducible refine grow_set1 ?_ _ _)); exact unhide HG _
                   · simp [intOf]; omega)
                | (with_reducible refine And.intro (PutR.of hp1' hp2' hi18 (Exps.push1 (unhide HE _) _ _ ?_ (m + 1) ?_ ?_) ?_ ?_) ?_
                   · omega
                   · simp
                   · omega
                   · omega
                   · (repeat (with_reducible refine grow_set1 ?_ _ _)); exact unhide HG _
                   · simp [intOf]; omega)
                | skip
          · go_wp2_with fail
            all_goals first
              | (with_reducible refine And.intro (PutR.of hp1' hp2' hi18 (Exps.setTop (unhide HE _) (wr64i _)) ?_ ?_) ?_
                 · omega
                 · (repeat (with_reducible refine grow_set1 ?_ _ _)); exact unhide HG _
                 · simp [intOf]; omega)
              | (with_reducible refine And.intro (PutR.of hp1' hp2' hi18 (unhide HE _) ?_ ?_) ?_
                 · omega
                 · exact unhide HG _
                 · simp [intOf]; omega)
              | (with_reducible refine And.intro (PutR.of hp1' hp2' hi18 (Exps.setTop (Exps.push1 (unhide HE _) _ _ ?_ (m + 1) ?_ ?_) (wr64i _)) ?_ ?_) ?_
                 · omega
                 · simp
                 · omega
                 · omega
                 · (repeat (with_reducible refine grow_set1 ?_ _ _)); exact unhide HG _
                 · simp [intOf]; omega)
              | (with_reducible refine And.intro (PutR.of hp1' hp2' hi18 (Exps.push1 (unhide HE _) _ _ ?_ (m + 1) ?_ ?_) ?_ ?_) ?_
                 · omega
                 · simp
                 · omega
                 · omega
                 · (repeat (with_reducible refine grow_set1 ?_ _ _)); exact unhide HG _
                 · simp [intOf]; omega)
              | skip
        · go_wp2_with fail
          refine bodyPost_box rfl ?_; intro r hr; simp [results, Oaag.results410, go_sem] at hr; subst hr; refine ⟨_, rfl, ?_⟩
          exact unhide HK _ _ _ (unhide HE _) hm (unhide HG _)
    · have hnz : ((n : Int) == 0) = false := by simp at hvb; simp; omega
      clear e0
      go_wp2_with fail
      clear k1 k2 f2 ht ez H hz hnz
      go_loopw [6, 25] (PutR w d sig prec) (fun t6 t25 _ => 18 - (intOf t25).toNat)
      case atStart => exact unhide HS
      case round => 
        clear HS
        obtain ⟨p, i, m, tp, rfl, hp1, hp2, rfl, hi, h, hm, hg⟩ := hrel
        obtain ⟨wb, x0, hwb, hB⟩ := boxes0 wr
        have h' : ∀ x : Later wb, Exps x.at_ d m tp sig prec := fun x => by subst hwb; exact h.kept (hB x)
        have hg' : ∀ x : Later wb, w.grownBy x.at_ (some d) := fun x => by subst hwb; exact grow_trans hg (grow_below (hB x) _)
        subst hwb
        clear h hg
        have hne : Nonempty (Later wb) := ⟨x0⟩
        have k1 := fun x => (h' x).n_
        have k2 := fun x => (h' x).top_
        have f1 := fun x => (h' x).own.2 1441
        have f2 := fun x => (h' x).own.2 1442
        have f3 := fun x => (h' x).own.2 m
        have k3 := fun x => (h' x).dig.cell m (by omega)
        have ks1 : ∀ (x : Later wb) u, m < 1440 → (x.at_.setCell ⟨d, m, none⟩ u).cell? ⟨d, 1441, none⟩ = some (.int .i64 m) := fun x u hm => by rw [cell_set _ _ _ _ _ _ _ (k1 x), if_neg (by omega)]
        have ks2 : ∀ (x : Later wb) u, m < 1440 → (x.at_.setCell ⟨d, m, none⟩ u).cell? ⟨d, 1442, none⟩ = some (.int .i64 tp) := fun x u hm => by rw [cell_set _ _ _ _ _ _ _ (k2 x), if_neg (by omega)]
        have HE := hide h'
        have HG := hide hg'
        clear h' hg'
        obtain ⟨c, hc, hc0, hc9⟩ := put_c v p uv0 (by omega)
        have mp : ∃ p', (if p / 10 < 1 then 1 else p / 10) = p' ∧ 1 ≤ p' ∧ p' ≤ 100000000000000000 := ⟨_, rfl, by split <;> omega, by split <;> omega⟩
        obtain ⟨p', ep, hp1', hp2'⟩ := mp
        have e0 : ((m : Int) == 0) = decide ((m : Int) = 0) := rfl
        by_cases hi18 : i < 18
        · by_cases hm14 : m < 1440
          · replace ks1 := fun x u => ks1 x u hm14
            replace ks2 := fun x u => ks2 x u hm14
            rcases Nat.eq_zero_or_pos m with hm0 | hm0
            · subst hm0
              simp only [Int.ofNat_zero, decide_true, Int.natCast_zero] at *
              go_wp2_with (first
                | (with_reducible refine Go.Proofs.YgcoaaGreat.NatW.at_reg 12 ?_
                   (repeat (first | (rewrite [Go.Proofs.YgcoaaGreat.NatW.frz_ite]; generalize Go.Proofs.YgcoaaGreat.NatW.frzI _ = x__) | (rewrite [Go.Proofs.YgcoaaGreat.NatW.frz_dec]; generalize Go.Proofs.YgcoaaGreat.NatW.frzB _ = x__) | (rewrite [Go.Proofs.YgcoaaGreat.NatW.frz_beq]; generalize Go.Proofs.YgcoaaGreat.NatW.frzB _ = x__) | (rewrite [Go.Proofs.YgcoaaGreat.NatW.frz_not]; generalize Go.Proofs.YgcoaaGreat.NatW.frzB _ = x__) | (rewrite [Go.Proofs.YgcoaaGreat.NatW.frz_and]; generalize Go.Proofs.YgcoaaGreat.NatW.frzB _ = x__) | (rewrite [Go.Proofs.YgcoaaGreat.NatW.frz_or]; generalize Go.Proofs.YgcoaaGreat.NatW.frzB _ = x__)))
                   (refine region_then _ 11 4 (by kernel_rfl) (by kernel_rfl) (by kernel_rfl) ?_; simp only [List.take, List.drop]; (repeat (first | go_big_quiet_skip | (go_big_quiet_want; go_big_quiet_op; go_big_quiet_on))); refine wpQuiet_nil ?_)
                   intro y
                   obtain ⟨vm, k3y, -⟩ := k3 y))
              all_goals first
                | (with_reducible refine And.intro (PutR.of hp1' hp2' hi18 (Exps.setTop (unhide HE _) (wr64i _)) ?_ ?_) ?_
                   · omega
                   · (repeat (with_reducible refine grow_set1 ?_ _ _)); exact unhide HG _
                   · simp [intOf]; omega)
                | (with_reducible refine And.intro (PutR.of hp1' hp2' hi18 (unhide HE _) ?_ ?_) ?_
                   · omega
                   · exact unhide HG _
                   · simp [intOf]; omega)
                | (with_reducible refine And.intro (PutR.of hp1' hp2' hi18 (Exps.setTop (Exps.push1 (unhide HE _) _ _ ?_ (0 + 1) ?_ ?_) (wr64i _)) ?_ ?_) ?_
                   · omega
                   · simp
                   · omega
                   · omega
                   · (repeat (with_reducible refine grow_set1 ?_ _ _)); exact unhide HG _
                   · simp [intOf]; omega)
                | (with_reducible refine And.intro (PutR.of hp1' hp2' hi18 (Exps.push1 (unhide HE _) _ _ ?_ (0 + 1) ?_ ?_) ?_ ?_) ?_
                   · omega
                   · simp
                   · omega
                   · omega
                   · (repeat (with_reducible refine grow_set1 ?_ _ _)); exact unhide HG _
                   · simp [intOf]; omega)
                | skip
            · have e1 : ((m : Int) == 0) = false := by simp; omega
              clear e0
              go_wp2_with (first
                | (with_reducible refine Go.Proofs.YgcoaaGreat.NatW.at_reg 12 ?_
                   (repeat (first | (rewrite [Go.Proofs.YgcoaaGreat.NatW.frz_ite]; generalize Go.Proofs.YgcoaaGreat.NatW.frzI _ = x__) | (rewrite [Go.Proofs.YgcoaaGreat.NatW.frz_dec]; generalize Go.Proofs.YgcoaaGreat.NatW.frzB _ = x__) | (rewrite [Go.Proofs.YgcoaaGreat.NatW.frz_beq]; generalize Go.Proofs.YgcoaaGreat.NatW.frzB _ = x__) | (rewrite [Go.Proofs.YgcoaaGreat.NatW.frz_not]; generalize Go.Proofs.YgcoaaGreat.NatW.frzB _ = x__) | (rewrite [Go.Proofs.YgcoaaGreat.NatW.frz_and]; generalize Go.Proofs.YgcoaaGreat.NatW.frzB _ = x__) | (rewrite [Go.Proofs.YgcoaaGreat.NatW.frz_or]; generalize Go.Proofs.YgcoaaGreat.NatW.frzB _ = x__)))
                   (refine region_then _ 11 4 (by kernel_rfl) (by kernel_rfl) (by kernel_rfl) ?_; simp only [List.take, List.drop]; (repeat (first | go_big_quiet_skip | (go_big_quiet_want; go_big_quiet_op; go_big_quiet_on))); refine wpQuiet_nil ?_)
                   intro y
                   obtain ⟨vm, k3y, -⟩ := k3 y))
              all_goals first
                | (with_reducible refine And.intro (PutR.of hp1' hp2' hi18 (Exps.setTop (unhide HE _) (wr64i _)) ?_ ?_) ?_
                   · omega
                   · (repeat (with_reducible refine grow_set1 ?_ _ _)); exact unhide HG _
                   · simp [intOf]; omega)
                | (with_reducible refine And.intro (PutR.of hp1' hp2' hi18 (unhide HE _) ?_ ?_) ?_
                   · omega
                   · exact unhide HG _
                   · simp [intOf]; omega)
                | (with_reducible refine And.intro (PutR.of hp1' hp2' hi18 (Exps.setTop (Exps.push1 (unhide HE _) _ _ ?_ (m + 1) ?_ ?_) (wr64i _)) ?_ ?_) ?_
                   · omega
                   · simp
                   · omega
                   · omega
                   · (repeat (with_reducible refine grow_set1 ?_ _ _)); exact unhide HG _
                   · simp [intOf]; omega)
                | (with_reducible refine And.intro (PutR.of hp1' hp2' hi18 (Exps.push1 (unhide HE _) _ _ ?_ (m + 1) ?_ ?_) ?_ ?_) ?_
                   · omega
                   · simp
                   · omega
                   · omega
                   · (repeat (with_reducible refine grow_set1 ?_ _ _)); exact unhide HG _
                   · simp [intOf]; omega)
                | skip
          · go_wp2_with fail
            all_goals first
              | (with_reducible refine And.intro (PutR.of hp1' hp2' hi18 (Exps.setTop (unhide HE _) (wr64i _)) ?_ ?_) ?_
                 · omega
                 · (repeat (with_reducible refine grow_set1 ?_ _ _)); exact unhide HG _
                 · simp [intOf]; omega)
              | (with_reducible refine And.intro (PutR.of hp1' hp2' hi18 (unhide HE _) ?_ ?_) ?_
                 · omega
                 · exact unhide HG _
                 · simp [intOf]; omega)
              | (with_reducible refine And.intro (PutR.of hp1' hp2' hi18 (Exps.setTop (Exps.push1 (unhide HE _) _ _ ?_ (m + 1) ?_ ?_) (wr64i _)) ?_ ?_) ?_
                 · omega
                 · simp
                 · omega
                 · omega
                 · (repeat (with_reducible refine grow_set1 ?_ _ _)); exact unhide HG _
                 · simp [intOf]; omega)
              | (with_reducible refine And.intro (PutR.of hp1' hp2' hi18 (Exps.push1 (unhide HE _) _ _ ?_ (m + 1) ?_ ?_) ?_ ?_) ?_
                 · omega
                 · simp
                 · omega
                 · omega
                 · (repeat (with_reducible refine grow_set1 ?_ _ _)); exact unhide HG _
                 · simp [intOf]; omega)
              | skip
        · go_wp2_with fail
          refine bodyPost_box rfl ?_; intro r hr; simp [results, Oaag.results410, go_sem] at hr; subst hr; refine ⟨_, rfl, ?_⟩
          exact unhide HK _ _ _ (unhide HE _) hm (unhide HG _)

end Go.Proofs.YgcoaaGreat.NatW
