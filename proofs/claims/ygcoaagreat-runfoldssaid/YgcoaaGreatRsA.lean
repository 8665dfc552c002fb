/-
  Package ryu: Shortest with tape zero, at the built table.
-/
import Derived.Test.YgcoaaGreatSzC
import Derived.Test.YgcoaaGreatRsH
set_option linter.unusedVariables false
set_option linter.unusedSimpArgs false
set_option maxRecDepth 20000
namespace Go.Proofs.YgcoaaGreat.NatW
open Go.RowKit
open Go.Proofs.YgcoaaGreat.Det
attribute [local go_sem] Go.Instr.field Go.asAgg


theorem scale_run {w : World} {tb : Nat} {m e : Int} {K : Ending → World → Prop} (ho : On tb w) (hm : U64 m) (h1 : -32768 ≤ e) (h2 : e ≤ 32767) (hK : ∀ v b w', U64 v → Below w.heap.size w w' → K (.returned (.tuple #[.int .u64 v, .bool b])) w') :
    Calls Oaag.prog 192 #[.pointer (some ⟨tb, 0, none⟩), .int .u64 m, .int .i16 e] w K := by
  obtain ⟨v, hv, hD⟩ := detS [.tab, .v (.int .u64 m), .v (.int .i16 e)] _ _ 3 (by decide) rfl (by kernel_rfl) (by kernel_rfl) (by kernel_rfl) (by simp [Arg.ok, selfV, selfC]) SfZ.con192 (args_cons tab_one (args_cons ⟨m, rfl, hm.1, by have := hm.2; omega⟩ (args_cons ⟨e, rfl, h1, h2⟩ args_nil)))
  obtain ⟨xs, rfl, hs, hc⟩ := hv
  obtain ⟨_, ha, x, rfl, x0, x1⟩ := hc 0 _ rfl
  obtain ⟨_, hb, b, rfl, _⟩ := hc 1 _ rfl
  obtain rfl : xs = #[.int .u64 x, .bool b] := by
    have hs' : xs.size = 2 := hs
    apply Array.ext (by simpa using hs')
    intro i hi hj
    match i, hj with
    | 0, _ => have := (Array.getElem?_eq_some_iff.1 ha).2; simpa using this
    | 1, _ => have := (Array.getElem?_eq_some_iff.1 hb).2; simpa using this
  exact hD w tb K ho fun w' hb => hK x b w' ⟨x0, by omega⟩ hb

theorem wrap64_bd (x : Int) : -9223372036854775808 ≤ wrap64 x ∧ wrap64 x ≤ 9223372036854775807 := by unfold wrap64; omega

theorem canonZ : Canon ⟨#[]⟩ 0 := by first | exact .inl ⟨rfl, rfl⟩ | exact .inr ⟨rfl, rfl⟩ | decide

/-- A decimal, canonical. -/
def DecR (v : Value) : Prop := ∃ n d e, v = .agg #[.bool n, .string d, .int .i16 e] ∧ Canon d e

/-- The boxes of Shortest: the format's, the answer's, still empty. -/
structure RsB (tb n0 : Nat) (E M : Nat) (W : World) : Prop where
  on : On tb W
  tape : W.tape = fun _ _ => 0
  lt : n0 + 2 ≤ W.heap.size
  h0 : W.heap[n0]? = some (.cells #[.int .u8 E, .int .u8 M] 23 (0, 0))
  h1 : W.heap[n0 + 1]? = some (.cells #[.bool false, .string ⟨#[]⟩, .int .i16 0] 74 (0, 0))
  tlt : tb < n0
theorem RsB.later {tb n0 E M : Nat} {W W' : World} (h : RsB tb n0 E M W) (hb : Below W.heap.size W W') : RsB tb n0 E M W' :=
  ⟨h.on.later hb, hb.tape.trans h.tape, Nat.le_trans h.lt hb.size, (hb.block _ (by have := h.lt; omega)).trans h.h0, (hb.block _ (by have := h.lt; omega)).trans h.h1, h.tlt⟩
theorem RsB.drew {tb n0 E M : Nat} {W : World} (h : RsB tb n0 E M W) : RsB tb n0 E M W.drew := h.later ⟨rfl, rfl, rfl, Nat.le_refl _, fun _ _ => rfl⟩
theorem RsB.new {tb E M : Nat} {w : World} (ho : On tb w) (ht : w.tape = fun _ _ => 0) : RsB tb w.heap.size E M ((w.alloc (.cells #[.int .u8 E, .int .u8 M] 23)).alloc (.cells #[.bool false, .string ⟨#[]⟩, .int .i16 0] 74)) :=
  ⟨ho.later (((Below.refl _ _).alloc (Nat.le_refl _) _).alloc (by rw [size_new]; omega) _), ht, by rw [size_new, size_new]; omega, row_old (row_new _ _ _ rfl), row_new _ _ _ (size_new _ _), ho.lt⟩
/-- The same with the span. -/
structure RsS (tb n0 nb : Nat) (E M : Nat) (a0 a1 a2 : Int) (b3 b4 b5 : Bool) (W : World) : Prop where
  b : RsB tb n0 E M W
  nlt : n0 + 2 ≤ nb
  lt : nb < W.heap.size
  h : W.heap[nb]? = some (.cells #[.int .u64 a0, .int .u64 a1, .int .u64 a2, .bool b3, .bool b4, .bool b5, .int .u64 0] 286 (0, 0))
  u0 : U64 a0
  u1 : U64 a1
  u2 : U64 a2
theorem RsS.later {tb n0 nb E M : Nat} {a0 a1 a2 : Int} {b3 b4 b5 : Bool} {W W' : World} (h : RsS tb n0 nb E M a0 a1 a2 b3 b4 b5 W) (hb : Below W.heap.size W W') : RsS tb n0 nb E M a0 a1 a2 b3 b4 b5 W' :=
  ⟨h.b.later hb, h.nlt, Nat.lt_of_lt_of_le h.lt hb.size, (hb.block _ h.lt).trans h.h, h.u0, h.u1, h.u2⟩
theorem RsB.set {tb n0 nb E M : Nat} {W : World} (h : RsB tb n0 E M W) (hn : n0 + 2 ≤ nb) (i : Nat) (v : Value) : RsB tb n0 E M (W.setCell ⟨nb, i, none⟩ v) := by
  have h3 := h.tlt
  refine ⟨⟨h.on.pos, ?_⟩, h.tape, by rw [World.size_setCell]; exact h.lt, ?_, ?_, h3⟩
  · rw [heap_set, if_neg (by omega)]; exact h.on.row
  · rw [heap_set, if_neg (by omega)]; exact h.h0
  · rw [heap_set, if_neg (by omega)]; exact h.h1
theorem RsS.new {tb n0 E M : Nat} {W : World} (h : RsB tb n0 E M W) : RsS tb n0 W.heap.size E M 0 0 0 false false false (W.alloc (.cells #[.int .u64 0, .int .u64 0, .int .u64 0, .bool false, .bool false, .bool false, .int .u64 0] 286)) :=
  ⟨h.later ((Below.refl _ _).alloc (Nat.le_refl _) _), h.lt, by rw [size_new]; omega, row_new _ _ _ rfl, u64_zero, u64_zero, u64_zero⟩
theorem RsS.set0 {tb n0 nb E M : Nat} {a0 a1 a2 : Int} {b3 b4 b5 : Bool} {W : World} (h : RsS tb n0 nb E M a0 a1 a2 b3 b4 b5 W) (x : Int) (hx : U64 x) : RsS tb n0 nb E M x a1 a2 b3 b4 b5 (W.setCell ⟨nb, 0, none⟩ (.int .u64 x)) :=
  ⟨h.b.set h.nlt _ _, h.nlt, by rw [World.size_setCell]; exact h.lt, by rw [heap_set, if_pos rfl, h.h]; rfl, hx, h.u1, h.u2⟩
theorem RsS.set1 {tb n0 nb E M : Nat} {a0 a1 a2 : Int} {b3 b4 b5 : Bool} {W : World} (h : RsS tb n0 nb E M a0 a1 a2 b3 b4 b5 W) (x : Int) (hx : U64 x) : RsS tb n0 nb E M a0 x a2 b3 b4 b5 (W.setCell ⟨nb, 1, none⟩ (.int .u64 x)) :=
  ⟨h.b.set h.nlt _ _, h.nlt, by rw [World.size_setCell]; exact h.lt, by rw [heap_set, if_pos rfl, h.h]; rfl, h.u0, hx, h.u2⟩
theorem RsS.set2 {tb n0 nb E M : Nat} {a0 a1 a2 : Int} {b3 b4 b5 : Bool} {W : World} (h : RsS tb n0 nb E M a0 a1 a2 b3 b4 b5 W) (x : Int) (hx : U64 x) : RsS tb n0 nb E M a0 a1 x b3 b4 b5 (W.setCell ⟨nb, 2, none⟩ (.int .u64 x)) :=
  ⟨h.b.set h.nlt _ _, h.nlt, by rw [World.size_setCell]; exact h.lt, by rw [heap_set, if_pos rfl, h.h]; rfl, h.u0, h.u1, hx⟩
theorem RsS.set3 {tb n0 nb E M : Nat} {a0 a1 a2 : Int} {b3 b4 b5 : Bool} {W : World} (h : RsS tb n0 nb E M a0 a1 a2 b3 b4 b5 W) (x : Bool) : RsS tb n0 nb E M a0 a1 a2 x b4 b5 (W.setCell ⟨nb, 3, none⟩ (.bool x)) :=
  ⟨h.b.set h.nlt _ _, h.nlt, by rw [World.size_setCell]; exact h.lt, by rw [heap_set, if_pos rfl, h.h]; rfl, h.u0, h.u1, h.u2⟩
theorem RsS.set4 {tb n0 nb E M : Nat} {a0 a1 a2 : Int} {b3 b4 b5 : Bool} {W : World} (h : RsS tb n0 nb E M a0 a1 a2 b3 b4 b5 W) (x : Bool) : RsS tb n0 nb E M a0 a1 a2 b3 x b5 (W.setCell ⟨nb, 4, none⟩ (.bool x)) :=
  ⟨h.b.set h.nlt _ _, h.nlt, by rw [World.size_setCell]; exact h.lt, by rw [heap_set, if_pos rfl, h.h]; rfl, h.u0, h.u1, h.u2⟩
theorem RsS.set5 {tb n0 nb E M : Nat} {a0 a1 a2 : Int} {b3 b4 b5 : Bool} {W : World} (h : RsS tb n0 nb E M a0 a1 a2 b3 b4 b5 W) (x : Bool) : RsS tb n0 nb E M a0 a1 a2 b3 b4 x (W.setCell ⟨nb, 5, none⟩ (.bool x)) :=
  ⟨h.b.set h.nlt _ _, h.nlt, by rw [World.size_setCell]; exact h.lt, by rw [heap_set, if_pos rfl, h.h]; rfl, h.u0, h.u1, h.u2⟩

def spanG (nb : Nat) : Sf.Gam := fun b o => if b = nb then (match o with | 0 => some (.int .u64 0 18446744073709551615) | 1 => some (.int .u64 0 18446744073709551615) | 2 => some (.int .u64 0 18446744073709551615) | 3 => some (.bool none) | 4 => some (.bool none) | 5 => some (.bool none) | 6 => some (.int .u64 0 18446744073709551615) | _ => none) else none
theorem RsS.wt {tb n0 nb E M : Nat} {a0 a1 a2 : Int} {b3 b4 b5 : Bool} {W : World} (h : RsS tb n0 nb E M a0 a1 a2 b3 b4 b5 W) : Sf.Wt (spanG nb) W := by
  refine ⟨fun b o d hd => ?_, h.b.tape⟩
  unfold spanG at hd
  split at hd
  · rename_i e
    subst e
    match o, hd with
    | 0, hd => cases hd; exact ⟨_, _, _, _, h.h, rfl, by simp, u64c h.u0.1 (by have := h.u0.2; omega)⟩
    | 1, hd => cases hd; exact ⟨_, _, _, _, h.h, rfl, by simp, u64c h.u1.1 (by have := h.u1.2; omega)⟩
    | 2, hd => cases hd; exact ⟨_, _, _, _, h.h, rfl, by simp, u64c h.u2.1 (by have := h.u2.2; omega)⟩
    | 3, hd => cases hd; exact ⟨_, _, _, _, h.h, rfl, by simp, boolc _⟩
    | 4, hd => cases hd; exact ⟨_, _, _, _, h.h, rfl, by simp, boolc _⟩
    | 5, hd => cases hd; exact ⟨_, _, _, _, h.h, rfl, by simp, boolc _⟩
    | 6, hd => cases hd; exact ⟨_, _, _, _, h.h, rfl, by simp, u64c (by omega) (by omega)⟩
  · cases hd
theorem spanG_t (nb : Nat) : SpanT (spanG nb) nb 0 := ⟨by simp [spanG], by simp [spanG], by simp [spanG], by simp [spanG], by simp [spanG], by simp [spanG], by simp [spanG]⟩
theorem RsS.digits {tb n0 nb E M : Nat} {a0 a1 a2 : Int} {b3 b4 b5 : Bool} {W : World} {K : Ending → World → Prop} (h : RsS tb n0 nb E M a0 a1 a2 b3 b4 b5 W) (hK : ∀ (n : Int) (d : Nat) W', U64 n → d ≤ 19 → RsB tb n0 E M W' → K (.returned (.tuple #[.int .u64 n, .int .i16 d])) W') :
    Calls Oaag.prog 307 #[.pointer (some ⟨nb, 0, none⟩)] W K := by
  refine (digits_zero (spanG nb) W h.wt nb 0 (spanG_t nb)).mono ?_
  rintro e W' ⟨n, d, rfl, hn0, hn1, hd, hx⟩
  refine hK n d W' ⟨hn0, by omega⟩ hd ?_
  have h1 := h.nlt
  have h2 := h.lt
  have h3 := h.b.tlt
  have hold : ∀ b, b < nb → W'.heap[b]? = W.heap[b]? := fun b hb => hx.old b (by omega) fun o => by simp [spanG]; omega
  exact ⟨⟨h.b.on.pos, (hold _ (by omega)).trans h.b.on.row⟩, hx.wt.tape, by have := hx.size; omega, (hold _ (by omega)).trans h.b.h0, (hold _ (by omega)).trans h.b.h1, h3⟩

set_option maxHeartbeats 2500000 in
theorem shortest_run (w : World) (tb E M : Nat) (hf : fok E M = true) (X : Nat) (hX : X < 18446744073709551616) (ho : On tb w) (ht : w.tape = fun _ _ => 0) :
    Calls Oaag.prog 171 #[.pointer (some ⟨tb, 0, none⟩), fmt E M, .int .u64 (X : Nat)] w (fun e w' => ∃ v, e = .returned v ∧ DecR v) := by
  obtain ⟨g1, g2, g3, g4⟩ := fok_bd hf
  have q1 := mask_int E (by omega)
  have q2 := fE_int E M X (by omega) hX
  have q3 := fM_int M X (by omega) hX
  have HO := hide ho
  have HT := hide ht
  clear ho ht
  go_enter Oaag.func171, Oaag.ntmps171
  go_wp2_with (first
    | (with_reducible refine at_fn 67 ?_
       refine gen_calls ?_
       intro W hW
       have S : RsB tb w.heap.size E M W := by rw [← hW]; exact RsB.new (unhide HO) (unhide HT)
       clear hW
       refine (fmtOk_ret E M hf) W _ ?_
       rintro _ W2 rfl hb
       replace S := S.later hb
       clear hb
       have k0 := cellr S.h0 0 _ rfl
       have k1 := cellr S.h0 1 _ rfl)
    | (with_reducible refine at_fn 104 ?_
       refine (signBit_ret E M hf) _ _ ?_
       rintro _ W3 rfl hb
       replace S := S.later hb
       clear hb k0 k1
       have k0 := cellr S.h0 0 _ rfl
       have k1 := cellr S.h0 1 _ rfl
       have r0 := cellr S.h1 0 _ rfl
       have r1 := cellr S.h1 1 _ rfl
       have r2 := cellr S.h1 2 _ rfl
       have fr := frzr S.h1)
    | (with_reducible refine at_reg 10 ?_
       refine wp_region_zero_list S.tape (by kernel_rfl) ?_)
    | (with_reducible refine at_fn 117 ?_
       refine (bias_ret E M hf) _ _ ?_
       rintro _ W4 rfl hb
       replace S := S.drew.later hb
       clear hb k0 k1 r0 r1 r2 fr
       have k0 := cellr S.h0 0 _ rfl
       have k1 := cellr S.h0 1 _ rfl)
    | (with_reducible refine at_fn 192 ?_
       refine gen_calls ?_
       intro W hW
       have S1 : RsS tb w.heap.size W4.heap.size E M 0 0 0 false false false W := by rw [← hW]; with_reducible exact RsS.new S
       clear hW
       refine scale_run S1.b.on (by first | with_reducible exact wr64 _ | exact u64_zero | exact ⟨by decide, by decide⟩) (wr16 _).1 (wr16 _).2 ?_
       intro v1 b1 W5 hv1 hb
       replace S1 := S1.later hb
       clear hb S k0 k1
       have c0 := cellr S1.h 0 _ rfl
       have c1 := cellr S1.h 1 _ rfl
       have c2 := cellr S1.h 2 _ rfl
       have c3 := cellr S1.h 3 _ rfl
       have c4 := cellr S1.h 4 _ rfl
       have c5 := cellr S1.h 5 _ rfl
       have fz := frzr S1.h)
    | (with_reducible refine at_fn 192 ?_
       refine gen_calls ?_
       intro W hW
       have S2 : RsS tb w.heap.size W4.heap.size E M 0 v1 0 false b1 false W := by rw [← hW]; with_reducible exact (S1.set1 v1 hv1).set4 b1
       clear hW S1 c0 c1 c2 c3 c4 c5 fz
       refine scale_run S2.b.on (by first | with_reducible exact wr64 _ | exact u64_zero | exact ⟨by decide, by decide⟩) (wr16 _).1 (wr16 _).2 ?_
       intro v2 b2 W6 hv2 hb
       replace S2 := S2.later hb
       clear hb
       have c0 := cellr S2.h 0 _ rfl
       have c1 := cellr S2.h 1 _ rfl
       have c2 := cellr S2.h 2 _ rfl
       have c3 := cellr S2.h 3 _ rfl
       have c4 := cellr S2.h 4 _ rfl
       have c5 := cellr S2.h 5 _ rfl
       have fz := frzr S2.h)
    | (with_reducible refine at_fn 192 ?_
       refine gen_calls ?_
       intro W hW
       have S3 : RsS tb w.heap.size W4.heap.size E M 0 v1 v2 false b1 false W := by rw [← hW]; with_reducible exact S2.set2 v2 hv2
       clear hW S2 c0 c1 c2 c3 c4 c5 fz
       refine scale_run S3.b.on (by first | with_reducible exact wr64 _ | exact u64_zero | exact ⟨by decide, by decide⟩) (wr16 _).1 (wr16 _).2 ?_
       intro v0 b3 W7 hv0 hb
       replace S3 := S3.later hb
       clear hb
       have c0 := cellr S3.h 0 _ rfl
       have c1 := cellr S3.h 1 _ rfl
       have c2 := cellr S3.h 2 _ rfl
       have c3 := cellr S3.h 3 _ rfl
       have c4 := cellr S3.h 4 _ rfl
       have c5 := cellr S3.h 5 _ rfl
       have fz := frzr S3.h)
    | (with_reducible refine at_fn 307 ?_
       refine gen_calls ?_
       intro W hW
       have hS4 : ∃ a2 b5, RsS tb w.heap.size W4.heap.size E M v0 v1 a2 b3 b1 b5 W := by
         rw [← hW]
         first
           | with_reducible exact ⟨_, _, ((S3.set0 v0 hv0).set3 b3).set5 _⟩
           | with_reducible exact ⟨_, _, (((S3.set0 v0 hv0).set3 b3).set5 _).set2 _ (wr64 _)⟩
       obtain ⟨a2, b5, S4⟩ := hS4
       clear hW S3 c0 c1 c2 c3 c4 c5 fz
       refine S4.digits ?_
       intro nn dd W8 hnn hdd S
       clear S4
       have r0 := cellr S.h1 0 _ rfl
       have r1 := cellr S.h1 1 _ rfl
       have r2 := cellr S.h1 2 _ rfl
       have fr := frzr S.h1)
    | (with_reducible refine at_fn 36 ?_
       refine (itoa_ret _ (wrap64_bd _).1 (wrap64_bd _).2) _ _ ?_
       rintro _ W9 ⟨sn, rfl, hsn⟩ hb
       replace S := S.later hb
       clear hb r0 r1 r2 fr)
    | (with_reducible refine at_fn 308 ?_
       refine (log10_ret _ (wr16 _).1 (wr16 _).2) _ _ ?_
       rintro _ W10 ⟨lg, rfl, hl1, hl2⟩ hb
       replace S := S.later hb
       clear hb)
    | (with_reducible refine at_fn 35 ?_
       refine (make_ret _ sn _ (by have := wr16 (IntKind.i16.wrap (lg - 1) + dd); omega) (by have := wr16 (IntKind.i16.wrap (lg - 1) + dd); omega) (by omega)) _ _ ?_
       rintro _ W11 ⟨n', d', e', ok, rfl, hcan⟩ hb
       replace S := S.later hb
       clear hb
       have hx : (W11.alloc (.cells #[.bool n', .string d', .int .i16 e'] 74)).heap[w.heap.size + 1]? = _ := row_old S.h1
       have r0 := cellr hx 0 _ rfl
       have r1 := cellr hx 1 _ rfl
       have r2 := cellr hx 2 _ rfl
       have fr := frzr hx
       clear hx)
    | fail)
  all_goals
    refine bodyPost_box rfl ?_
    intro r hr
    simp [results, Oaag.results171, go_sem, r0, r1, r2] at hr
    subst hr
    first
      | exact ⟨_, rfl, _, rfl, ⟨_, _, _, rfl, hcan⟩⟩
      | exact ⟨_, rfl, _, rfl, ⟨_, _, _, rfl, canonZ⟩⟩

/-- RYU.SHORTEST: one answer in every memory. -/
theorem shortest_x (E M : Nat) (hf : fok E M = true) (x : Int) (hx : U64 x) : ∃ v, DecR v ∧ DR 171 (argsAt [.tab, .v (fmt E M), .v (.int .u64 x)]) v := by
  obtain ⟨X, rfl, hX⟩ := hx.nat
  exact detP [.tab, .v (fmt E M), .v (.int .u64 (X : Nat))] 3 (by decide) rfl (by kernel_rfl) (by kernel_rfl) (by simp [Arg.ok, selfV, selfC, fmt]) (shortest_run w0 1 E M hf X hX ⟨by omega, w0_row⟩ rfl) (by rintro _ ⟨_, _, _, rfl, _⟩; rfl)
end Go.Proofs.YgcoaaGreat.NatW
