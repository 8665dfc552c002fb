/-
  Package exact: RoundHexFlags, RoundHex: one answer in every memory.
-/
import Derived.Test.YgcoaaGreatBtA
import Derived.Test.YgcoaaGreatSwC
import Derived.Test.YgcoaaGreatExK
set_option linter.unusedVariables false
set_option linter.unusedSimpArgs false
set_option maxRecDepth 20000
namespace Go.Proofs.YgcoaaGreat.NatW
open Go.RowKit
open Go.Proofs.YgcoaaGreat.Det
open Go.Proofs.YgcoaaGreat.Limbs Go.Proofs.YgcoaaGreat.Bits
attribute [local go_sem] Go.Instr.field Go.asAgg

theorem tup2_g {Γ : Sf.Gam} {a b : Sf.D} {v : Value} (h : Sf.val Γ (.tup (.cons a (.cons b .nil))) v) : ∃ x y, v = .tuple #[x, y] ∧ Sf.one Γ a x ∧ Sf.one Γ b y := by
  obtain ⟨xs, rfl, hs, hc⟩ := h
  obtain ⟨x, ha, hx⟩ := hc 0 _ rfl
  obtain ⟨y, hb, hy⟩ := hc 1 _ rfl
  refine ⟨x, y, ?_, hx, hy⟩
  congr 1
  have hs' : xs.size = 2 := hs
  apply Array.ext (by simpa using hs')
  intro i hi hj
  match i, hj with
  | 0, _ => have := (Array.getElem?_eq_some_iff.1 ha).2; simpa using this
  | 1, _ => have := (Array.getElem?_eq_some_iff.1 hb).2; simpa using this
theorem len_shl4 (x n : Nat) (hx : (lim x).length ≤ n) : (lim (x * 2 ^ 4)).length ≤ n + 1 := by
  refine lim_length_le _ _ ?_
  have h1 := Nat.lt_of_lt_of_le (lt_of_lim_length x) (Nat.pow_le_pow_right (by decide : 0 < 4294967296) hx)
  rw [Nat.pow_succ]
  omega
theorem shl4_r (w : World) {B : Nat} {a : Option Addr} {cap x : Nat} (h : Res B w a cap x) (hx : (lim x).length ≤ 1000000) :
    Calls Oaag.prog 63 #[.slice a (lim x).length cap, .int .u16 4] w fun e w' => ∃ a' cap', e = .returned (.slice a' (lim (x * 2 ^ 4)).length cap') ∧ Res w.heap.size w' a' cap' (x * 2 ^ 4) ∧ Below w.heap.size w w' :=
  shl_any w a cap (lim x) x (val_lim x) h.sl 4 (by omega) (by omega)

theorem u8_64 (x : Int) : U64 (IntKind.u8.wrap x) := ⟨(wr8 x).1, by have := (wr8 x).2; omega⟩

structure RhS (tb n0 E M : Nat) (w W : World) : Prop where
  on : On tb W
  tape : W.tape = fun _ _ => 0
  lt : n0 + 1 ≤ W.heap.size
  h0 : W.heap[n0]? = some (.cells #[.int .u8 E, .int .u8 M] 23 (0, 0))
  below : Below n0 w W
theorem RhS.later {tb n0 E M : Nat} {w W W' : World} (h : RhS tb n0 E M w W) (hb : Below W.heap.size W W') : RhS tb n0 E M w W' :=
  ⟨h.on.later hb, hb.tape.trans h.tape, Nat.le_trans h.lt hb.size, (hb.block _ (by have := h.lt; omega)).trans h.h0, h.below.trans (hb.mono (by have := h.lt; omega))⟩
theorem RhS.drew {tb n0 E M : Nat} {w W : World} (h : RhS tb n0 E M w W) : RhS tb n0 E M w W.drew := h.later ⟨rfl, rfl, rfl, Nat.le_refl _, fun _ _ => rfl⟩
theorem RhS.new {tb E M : Nat} {w : World} (ho : On tb w) (ht : w.tape = fun _ _ => 0) : RhS tb w.heap.size E M w (w.alloc (.cells #[.int .u8 E, .int .u8 M] 23)) :=
  ⟨ho.later ((Below.refl _ _).alloc (Nat.le_refl _) _), ht, by rw [size_new]; omega, row_new _ _ _ rfl, (Below.refl _ _).alloc (Nat.le_refl _) _⟩
def RhR (tb E M : Nat) (w : World) (d : ByteArray) (t12 t13 : Value) (wr : World) : Prop :=
  ∃ (i n : Nat) (a : Option Addr) (cap : Nat), i ≤ d.size ∧ t13 = .int .i64 i ∧ t12 = .slice a (lim n).length cap ∧ Res w.heap.size wr a cap n ∧ (lim n).length ≤ 2 * i + 2 ∧ RhS tb w.heap.size E M w wr

set_option maxHeartbeats 4000000 in
theorem roundHex_run (w : World) (tb E M : Nat) (hf : fok E M = true) (m : Int) (hm0 : 0 ≤ m) (hm1 : m ≤ 255) (n : Bool) (d : ByteArray) (hd : d.size ≤ 1000) (e : Int) (h1 : -32768 ≤ e) (h2 : e ≤ 32767) (ho : On tb w) (ht : w.tape = fun _ _ => 0) :
    Calls Oaag.prog 337 #[fmt E M, .int .u8 m, .bool n, .string d, .int .i16 e] w (fun z w' => ∃ v, z = .returned v ∧ PatR v) := by
  have S0 : RhS tb w.heap.size E M w (w.alloc (.cells #[.int .u8 E, .int .u8 M] 23)) := RhS.new ho ht
  have HS0 := hide S0
  clear S0 ho ht
  go_enter Oaag.func337, Oaag.ntmps337
  go_wp2_with fail
  go_loopw [12, 13, 14, 15] (fun t12 t13 _ _ wr => RhR tb E M w d t12 t13 wr) (fun t12 t13 _ _ wr => d.size - (intOf t13).toNat)
  case atStart => exact ⟨0, 0, none, 0, by omega, rfl, rfl, Res.nil, by decide, unhide HS0⟩
  case round =>
    obtain ⟨i, x, a, cap, hi, rfl, rfl, hR, hlen, S⟩ := hrel
    clear HS0
    have HR := hide hR
    have HS := hide S
    clear hR S
    by_cases hl : i < d.size
    · have hix := index_str d i i rfl hl
      have hb := byt_lt d i
      obtain ⟨q0, hq0⟩ : ∃ q : Int, (byt d i : Int) = q := ⟨_, rfl⟩
      rw [hq0] at hix
      have hq1 : 0 ≤ q0 ∧ q0 < 256 := by omega
      clear hb hq0
      go_wp2_with (first
        | (with_reducible refine at_reg 5 ?_
           refine wp_region_zero_list (unhide HS).tape (by kernel_rfl) ?_
           have HR1 := hide ((unhide HR).later (w' := wr.drew) ⟨rfl, rfl, rfl, Nat.le_refl _, fun _ _ => rfl⟩)
           have HS1 := hide (unhide HS).drew
           clear HR HS)
        | (with_reducible refine at_fn 63 ?_
           refine (shl4_r _ (unhide HR1) (by omega)).mono ?_
           rintro _ w1 ⟨a1, cp1, rfl, hr1, hb1⟩
           have L1 := len_shl4 x (2 * i + 2) hlen
           have HS2 := hide ((unhide HS1).later hb1)
           have HR2 := hide hr1
           have HZ2 := hide hb1.size
           clear hr1 hb1 HR1)
        | (with_reducible refine at_fn 25 ?_
           refine (fromU64_i _ _ ?_).mono ?_
           · first
              | with_reducible exact wr64 _
              | exact u8_64 _
              | exact ⟨by omega, by omega⟩
           rintro _ w2 ⟨V, a2, cp2, -, hV, rfl, hr2, hb2⟩
           have L2 := len_small V hV
           have HS3 := hide ((unhide HS2).later hb2)
           have HR3 := hide ((unhide HR2).later hb2)
           have HV3 := hide hr2
           clear hr2 hb2 HS2 HR2)
        | (with_reducible refine at_fn 80 ?_
           refine (add_r _ (unhide HR3) (unhide HV3) (by omega) (by omega)).mono ?_
           rintro _ w3 ⟨a3, cp3, rfl, hr3, hb3⟩
           have L3 := len_add (x * 2 ^ 4) V (2 * i + 3) (by omega) (by omega)
           have HS4 := hide ((unhide HS3).later hb3)
           have HR4 := hide (hr3.lower (unhide HS3).below.size)
           clear hr3 hb3 HS3 HR3 HV3)
        | fail)
      all_goals first
        | exact ⟨⟨i + 1, _, _, _, by omega, by simp, rfl, unhide HR4, by omega, unhide HS4⟩, by simp [intOf]; omega⟩
        | (go_ret2; exact ⟨_, rfl, ⟨_, _, rfl, u64_zero⟩⟩)
        | fail
    · have k0 := cellr (unhide HS).h0 0 _ rfl
      have k1 := cellr (unhide HS).h0 1 _ rfl
      go_wp2_with (first
        | (with_reducible refine at_reg 14 ?_
           refine wp_region_zero_list (unhide HS).tape (by kernel_rfl) ?_)
        | (with_reducible refine at_fn 70 ?_
           have hdr : Below wr.heap.size wr wr.drew := ⟨rfl, rfl, rfl, Nat.le_refl _, fun _ _ => rfl⟩
           obtain ⟨Γ2, q1, _, q3⟩ := SfW.nex_res (n := 4096) (SfW.nex_below (Γ := fun _ _ => none) (w := w) ⟨fun b o d hd => (by cases hd), (unhide HS).below.tape.symm.trans (unhide HS).tape⟩ (unhide HS).drew.below) ((unhide HR).later hdr) (by omega)
           have hwt := q1.ex.wt
           clear q1 hdr
           refine (Sf2.con70 Γ2 _ _ hwt (args_cons ⟨n, rfl, fun c hc => by cases hc⟩ (args_cons q3 (args_cons ⟨e, rfl, by omega, by omega⟩ args_nil)))).mono ?_
           rintro _ w4 ⟨vv, Γ3, rfl, hx, hv⟩
           clear hwt q3)
        | (with_reducible refine at_fn 205 ?_
           refine (Sf2.con205 Γ3 _ _ hx.wt (args_cons (fmt_one hf) (args_cons ⟨m, rfl, hm0, hm1⟩ (args_cons hv args_nil)))).mono ?_
           rintro _ w5 ⟨_, Γ4, rfl, hx2, hv2⟩
           obtain ⟨_, _, rfl, ⟨r, rfl, r0, r1⟩, f, rfl, f0, f1⟩ := tup2_g hv2)
        | fail)
      all_goals
        go_ret2
        exact ⟨_, rfl, ⟨_, _, rfl, ⟨r0, by omega⟩⟩⟩

/-- EXACT.ROUNDHEXFLAGS: one answer in every memory. -/
theorem roundHexFlags_x (E M : Nat) (hf : fok E M = true) (m : Int) (hm0 : 0 ≤ m) (hm1 : m ≤ 255) (n : Bool) (d : ByteArray) (hd : d.size ≤ 1000) (e : Int) (h1 : -32768 ≤ e) (h2 : e ≤ 32767) : ∃ v, PatR v ∧ DR 337 (argsAt [.v (fmt E M), .v (.int .u8 m), .v (.bool n), .v (.string d), .v (.int .i16 e)]) v :=
  detP [.v (fmt E M), .v (.int .u8 m), .v (.bool n), .v (.string d), .v (.int .i16 e)] 5 (by decide) rfl (by kernel_rfl) (by kernel_rfl) (by simp [Arg.ok, selfV, selfC, fmt]) (roundHex_run w0 1 E M hf m hm0 hm1 n d hd e h1 h2 ⟨by omega, w0_row⟩ rfl) (by rintro _ ⟨_, _, rfl, _⟩; rfl)

set_option maxHeartbeats 2000000 in
/-- EXACT.ROUNDHEX. -/
theorem roundHex_x (E M : Nat) (hf : fok E M = true) (m : Int) (hm0 : 0 ≤ m) (hm1 : m ≤ 255) (n : Bool) (d : ByteArray) (hd : d.size ≤ 1000) (e : Int) (h1 : -32768 ≤ e) (h2 : e ≤ 32767) : ∃ r, U64 r ∧ DF 183 #[fmt E M, .int .u8 m, .bool n, .string d, .int .i16 e] (.int .u64 r) := by
  obtain ⟨_, ⟨r, f, rfl, hr⟩, hD⟩ := roundHexFlags_x E M hf m hm0 hm1 n d hd e h1 h2
  refine ⟨r, hr, ?_⟩
  intro w tb K ho hK
  have HO := hide ho
  have HK := hide hK
  clear ho hK
  go_enter Oaag.func183, Oaag.ntmps183
  go_wp2_with (first
    | (with_reducible refine at_fn 337 ?_
       refine gen_calls ?_
       intro W hW
       have hB : Below w.heap.size w W := by rw [← hW]; exact (Below.refl _ _).alloc (Nat.le_refl _) _
       clear hW
       refine hD W tb _ ((unhide HO).later hB) ?_
       intro W2 hb
       have HB := hide (hB.trans (hb.mono hB.size))
       clear hB hb)
    | fail)
  all_goals exact unhide HK _ (unhide HB)
end Go.Proofs.YgcoaaGreat.NatW
