/-
  Package hexa: Bits, BitsFlags: one answer in every memory.
-/
import Derived.Test.YgcoaaGreatRsH
import Derived.Test.YgcoaaGreatHxA
set_option linter.unusedVariables false
set_option linter.unusedSimpArgs false
set_option maxRecDepth 20000
namespace Go.Proofs.YgcoaaGreat.NatW
open Go.RowKit
open Go.Proofs.YgcoaaGreat.Det
attribute [local go_sem] Go.Instr.field Go.asAgg

set_option maxHeartbeats 2000000 in
theorem pack_ret (E M : Nat) (hf : fok E M = true) (m : Int) (neg : Bool) (x s : Int) (hx0 : -32768 ≤ x) (hx1 : x ≤ 32767) (hs : U64 s) : Ret 316 #[fmt E M, .int .u8 m, .bool neg, .int .i16 x, .int .u64 s] (fun v => ∃ r f, v = .tuple #[.int .u64 r, .int .u8 f] ∧ Snd E M r) := by
  intro w K hK
  have HK := hide hK
  clear hK
  have HU := hide hs
  clear hs
  go_enter Oaag.func316, Oaag.ntmps316
  go_wp2_with (first
    | (with_reducible refine at_fn 67 ?_
       refine gen_calls ?_
       intro W hW
       have hrow : W.heap[w.heap.size]? = some (.cells #[.int .u8 E, .int .u8 M] 23 (0, 0)) := by rw [← hW]; exact row_new _ _ _ rfl
       have hB : Below w.heap.size w W := by rw [← hW]; exact (Below.refl _ _).alloc (Nat.le_refl _) _
       clear hW
       refine (fmtOk_ret E M hf) W _ ?_
       rintro _ W2 rfl hb
       have hlt : w.heap.size < W.heap.size := (Array.getElem?_eq_some_iff.1 hrow).1
       have hrow2 := (hb.block _ hlt).trans hrow
       have k0 := cellr hrow2 0 _ rfl
       have k1 := cellr hrow2 1 _ rfl
       replace hB := hB.trans (hb.mono (by omega))
       have HB := hide hB
       clear hB hb hrow hrow2 hlt)
    | (with_reducible refine at_fn 340 ?_
       refine (roundPack_ret E M hf m neg _ s ?_ ?_ (unhide HU)) _ _ ?_
       · omega
       · omega
       rintro _ W3 ⟨r, f, rfl, hr⟩ hb
       have HB2 := hide ((unhide HB).trans (hb.mono (unhide HB).size))
       clear hb)
    | fail)
  all_goals exact unhide HK _ _ ⟨_, _, rfl, hr⟩ (unhide HB2)

theorem or64 (x y : Int) : U64 (bits .or .u64 x y) := by
  unfold bits
  exact wr64 _

structure BtS (tb n0 E M : Nat) (n : Bool) (d : ByteArray) (e : Int) (W : World) : Prop where
  on : On tb W
  tape : W.tape = fun _ _ => 0
  lt : n0 + 2 ≤ W.heap.size
  h0 : W.heap[n0]? = some (.cells #[.int .u8 E, .int .u8 M] 23 (0, 0))
  h1 : W.heap[n0 + 1]? = some (.cells #[.bool n, .string d, .int .i16 e] 198 (0, 0))
theorem BtS.later {tb n0 E M : Nat} {n : Bool} {d : ByteArray} {e : Int} {W W' : World} (h : BtS tb n0 E M n d e W) (hb : Below W.heap.size W W') : BtS tb n0 E M n d e W' :=
  ⟨h.on.later hb, hb.tape.trans h.tape, Nat.le_trans h.lt hb.size, (hb.block _ (by have := h.lt; omega)).trans h.h0, (hb.block _ (by have := h.lt; omega)).trans h.h1⟩
theorem BtS.drew {tb n0 E M : Nat} {n : Bool} {d : ByteArray} {e : Int} {W : World} (h : BtS tb n0 E M n d e W) : BtS tb n0 E M n d e W.drew := h.later ⟨rfl, rfl, rfl, Nat.le_refl _, fun _ _ => rfl⟩
theorem BtS.new {tb E M : Nat} (n : Bool) (d : ByteArray) (e : Int) {w : World} (ho : On tb w) (ht : w.tape = fun _ _ => 0) : BtS tb w.heap.size E M n d e ((w.alloc (.cells #[.int .u8 E, .int .u8 M] 23)).alloc (.cells #[.bool n, .string d, .int .i16 e] 198)) :=
  ⟨ho.later (((Below.refl _ _).alloc (Nat.le_refl _) _).alloc (by rw [size_new]; omega) _), ht, by rw [size_new, size_new]; omega, row_old (row_new _ _ _ rfl), row_new _ _ _ (size_new _ _)⟩

/-- A pattern and its exceptions. -/
def PatR (v : Value) : Prop := ∃ r f, v = .tuple #[.int .u64 r, .int .u8 f] ∧ U64 r
def BtR (tb n0 E M : Nat) (n : Bool) (d : ByteArray) (e : Int) (t10 t11 t12 : Value) (wr : World) : Prop :=
  ∃ (s x : Int) (i : Nat), t10 = .int .u64 s ∧ U64 s ∧ t11 = .int .i16 x ∧ -32768 ≤ x ∧ x ≤ 32767 ∧ t12 = .int .i64 i ∧ i ≤ d.size ∧ BtS tb n0 E M n d e wr

set_option maxHeartbeats 4000000 in
theorem bits_run (w : World) (tb E M : Nat) (hf : fok E M = true) (m : Int) (n : Bool) (d : ByteArray) (hd : d.size ≤ 1000000) (e : Int) (h1 : -32768 ≤ e) (h2 : e ≤ 32767) (ho : On tb w) (ht : w.tape = fun _ _ => 0) :
    Calls Oaag.prog 338 #[fmt E M, .int .u8 m, .agg #[.bool n, .string d, .int .i16 e]] w (fun z w' => ∃ v, z = .returned v ∧ PatR v) := by
  have HO := hide ho
  have HT := hide ht
  clear ho ht
  go_enter Oaag.func338, Oaag.ntmps338
  go_wp2_with (first
    | (with_reducible refine at_fn 371 ?_
       refine gen_calls ?_
       intro W hW
       have S : BtS tb w.heap.size E M n d e W := by rw [← hW]; exact BtS.new n d e (unhide HO) (unhide HT)
       clear hW
       refine (hmake_ret n d e (by omega) (by omega) hd) _ _ ?_
       rintro _ W2 ⟨n', d', e', ok, rfl, hd', he1, he2⟩ hb
       replace S := S.later hb
       clear hb
       have hx : (W2.alloc (.cells #[.bool n', .string d', .int .i16 e'] 198)).heap[w.heap.size]? = _ := row_old S.h0
       have hy : (W2.alloc (.cells #[.bool n', .string d', .int .i16 e'] 198)).heap[w.heap.size + 1]? = _ := row_old S.h1
       have hz : (W2.alloc (.cells #[.bool n', .string d', .int .i16 e'] 198)).heap[W2.heap.size]? = _ := row_new _ _ _ rfl
       have k0 := cellr hx 0 _ rfl
       have k1 := cellr hx 1 _ rfl
       clear hx)
    | (with_reducible refine at_fn 67 ?_
       refine gen_calls ?_
       intro W hW
       rw [hW] at hy hz
       replace S : BtS tb w.heap.size E M n d e W := by rw [← hW]; exact S.later ((Below.refl _ _).alloc (Nat.le_refl _) _)
       have hl2 : W2.heap.size < W.heap.size := (Array.getElem?_eq_some_iff.1 hz).1
       clear hW k0 k1
       refine (fmtOk_ret E M hf) W _ ?_
       rintro _ W3 rfl hb
       replace S := S.later hb
       replace hz := (hb.block _ hl2).trans hz
       clear hb hy hl2
       have k0 := cellr S.h0 0 _ rfl
       have k1 := cellr S.h0 1 _ rfl
       have c0 := cellr S.h1 0 _ rfl
       have c1 := cellr S.h1 1 _ rfl
       have c2 := cellr S.h1 2 _ rfl
       have j0 := cellr hz 0 _ rfl
       have j1 := cellr hz 1 _ rfl
       have j2 := cellr hz 2 _ rfl
       clear hz)
    | (with_reducible refine at_reg 4 ?_
       refine wp_region_zero_list S.tape (by kernel_rfl) ?_)
    | fail)
  all_goals first
    | (go_ret2; exact ⟨_, rfl, ⟨_, _, rfl, u64_zero⟩⟩)
    | skip
  have HS := hide S.drew
  clear S k0 k1 c0 c1 c2 j0 j1 j2
  go_loopw [10, 11, 12, 13] (fun t10 t11 t12 _ wr => BtR tb w.heap.size E M n d e t10 t11 t12 wr) (fun t10 t11 t12 _ wr => d.size - (intOf t12).toNat)
  case atStart => exact ⟨0, e, 0, rfl, u64_zero, rfl, h1, h2, rfl, by omega, unhide HS⟩
  case round =>
    obtain ⟨s, x, i, rfl, us, rfl, x1, x2, rfl, hi, S2⟩ := hrel
    clear HS
    have k0 := cellr S2.h0 0 _ rfl
    have k1 := cellr S2.h0 1 _ rfl
    have c0 := cellr S2.h1 0 _ rfl
    have c1 := cellr S2.h1 1 _ rfl
    have c2 := cellr S2.h1 2 _ rfl
    have HS := hide S2
    have HU := hide us
    clear S2 us
    by_cases hl : i < d.size
    · have hix := index_str d i i rfl hl
      have hb := byt_lt d i
      obtain ⟨q0, hq0⟩ : ∃ q : Int, (byt d i : Int) = q := ⟨_, rfl⟩
      rw [hq0] at hix
      have hq1 : 0 ≤ q0 ∧ q0 < 256 := by omega
      clear hb hq0
      go_wp2_with (first
        | (with_reducible refine at_fn 378 ?_
           obtain ⟨_, ⟨v, rfl, hv0, hv1⟩, hD⟩ := det378 q0 (by omega) (by omega)
           refine hD _ tb _ (unhide HS).on ?_
           intro W5 hbb
           have HS2 := hide ((unhide HS).later hbb)
           clear hD hbb HS k0 k1 c0 c1 c2)
        | fail)
      · exact ⟨⟨_, _, i + 1, rfl, or64 _ _, rfl, x1, x2, by simp, by omega, unhide HS2⟩, by simp [intOf]; omega⟩
      · exact ⟨⟨_, _, i + 1, rfl, or64 _ _, rfl, (wr16 _).1, (wr16 _).2, by simp, by omega, unhide HS2⟩, by simp [intOf]; omega⟩
      · exact ⟨⟨_, _, i + 1, rfl, unhide HU, rfl, (wr16 _).1, (wr16 _).2, by simp, by omega, unhide HS2⟩, by simp [intOf]; omega⟩
    · go_wp2_with (first
        | (with_reducible refine at_fn 316 ?_
           refine (pack_ret E M hf m n x s x1 x2 (unhide HU)) _ _ ?_
           rintro _ W5 ⟨r, f, rfl, hr⟩ hbb)
        | fail)
      go_ret2
      exact ⟨_, rfl, ⟨_, _, rfl, Snd.u64 hf hr⟩⟩

/-- HEXA.BITSFLAGS: one answer in every memory. -/
theorem bitsFlags_x (E M : Nat) (hf : fok E M = true) (m : Int) (n : Bool) (d : ByteArray) (hd : d.size ≤ 1000000) (e : Int) (h1 : -32768 ≤ e) (h2 : e ≤ 32767) : ∃ v, PatR v ∧ DR 338 (argsAt [.v (fmt E M), .v (.int .u8 m), .v (.agg #[.bool n, .string d, .int .i16 e])]) v :=
  detP [.v (fmt E M), .v (.int .u8 m), .v (.agg #[.bool n, .string d, .int .i16 e])] 3 (by decide) rfl (by kernel_rfl) (by kernel_rfl) (by simp [Arg.ok, selfV, selfC, fmt]) (bits_run w0 1 E M hf m n d hd e h1 h2 ⟨by omega, w0_row⟩ rfl) (by rintro _ ⟨_, _, rfl, _⟩; rfl)
end Go.Proofs.YgcoaaGreat.NatW
