/-
  Package slow: SlowFlags.
-/
import Derived.Test.YgcoaaGreatSlO
import Derived.Test.YgcoaaGreatSlM
import Derived.Test.YgcoaaGreatSlD
import Derived.Test.YgcoaaGreatSlE
import Derived.Test.YgcoaaGreatDecE
set_option linter.unusedVariables false
set_option linter.unusedSimpArgs false
set_option maxRecDepth 20000
namespace Go.Proofs.YgcoaaGreat.NatW
open Go.RowKit
open Go.Proofs.YgcoaaGreat.Det
open Go.Proofs.YgcoaaGreat.Limbs Go.Proofs.YgcoaaGreat.Bits
attribute [local go_sem] Go.Instr.field Go.asAgg


def bigZ : Array Value := (Value.int .i64 0 :: List.replicate 52 (Value.int .u64 0)).toArray
theorem z222 : ((Oaag.prog.info? 222).bind fun i => i.zero.map fun z => z.cells) = some bigZ := by kernel_rfl
theorem bigZ0 : bigZ[0]? = some (.int .i64 0) := rfl
theorem bigZs (i : Nat) (h : i < 52) : bigZ[1 + i]? = some (.int .u64 0) := by
  unfold bigZ
  rw [List.getElem?_toArray, Nat.add_comm, List.getElem?_cons_succ, List.getElem?_replicate, if_pos h]
theorem BigX.new (w : World) : BigX w.heap.size 0 (fun _ => 0) (w.alloc (.cells bigZ 222)) := by
  have hr : (w.alloc (.cells bigZ 222)).heap[w.heap.size]? = some (.cells bigZ 222 (0, 0)) := row_new _ _ _ rfl
  refine ⟨Mine.new w _ _, ?_, fun i hi => ?_, fun _ => by decide, by decide⟩
  · rw [cell_of_row _ _ _ _ _ _ hr, bigZ0]; rfl
  · rw [cell_of_row _ _ _ _ _ _ hr, bigZs i hi]; rfl
structure SfgS (w : World) (E M : Nat) (n : Bool) (d : ByteArray) (e : Int) (W : World) : Prop where
  tape : W.tape = fun _ _ => 0
  h0 : W.heap[w.heap.size]? = some (.cells #[.int .u8 E, .int .u8 M] 23 (0, 0))
  h1 : W.heap[w.heap.size + 1]? = some (.cells #[.bool n, .string d, .int .i16 e] 74 (0, 0))
  below : Below w.heap.size w W
theorem SfgS.later {w : World} {E M : Nat} {n : Bool} {d : ByteArray} {e : Int} {W W' : World} (h : SfgS w E M n d e W) (hb : Below W.heap.size W W') : SfgS w E M n d e W' :=
  ⟨hb.tape.trans h.tape, (hb.block _ (Array.getElem?_eq_some_iff.1 h.h0).1).trans h.h0, (hb.block _ (Array.getElem?_eq_some_iff.1 h.h1).1).trans h.h1, h.below.trans (hb.mono h.below.size)⟩
theorem SfgS.new (E M : Nat) (n : Bool) (d : ByteArray) (e : Int) {w : World} (ht : w.tape = fun _ _ => 0) : SfgS w E M n d e ((w.alloc (.cells #[.int .u8 E, .int .u8 M] 23)).alloc (.cells #[.bool n, .string d, .int .i16 e] 74)) :=
  ⟨ht, row_old (row_new _ _ _ rfl), row_new _ _ _ (size_new _ _), ((Below.refl _ _).alloc (Nat.le_refl _) _).alloc (by rw [size_new]; omega) _⟩
theorem le_two (w : World) (E M : Nat) (n : Bool) (d : ByteArray) (e : Int) {W : World} (h : SfgS w E M n d e W) : w.heap.size + 2 ≤ W.heap.size := (Array.getElem?_eq_some_iff.1 h.h1).1

set_option maxHeartbeats 2000000 in
theorem sflags_no (w : World) (E M : Nat) (hf : fok E M = true) (m : Int) (n : Bool) (d : ByteArray) (e : Int) (h1 : -32768 ≤ e) (h2 : e ≤ 32767) (hd : d.size ≤ 1000000) (hc : ¬ Canon d e) (ht : w.tape = fun _ _ => 0) :
    Calls Oaag.prog 111 #[fmt E M, .int .u8 m, .agg #[.bool n, .string d, .int .i16 e]] w fun z w' => ∃ v, z = .returned v ∧ PatR v := by
  have te := toList_empty d
  have HT := hide ht
  clear ht
  go_enter Oaag.func111, Oaag.ntmps111
  go_wp2_with (first
    | (with_reducible refine at_fn 67 ?_
       refine gen_calls ?_
       intro W hW
       have S : SfgS w E M n d e W := by rw [← hW]; exact SfgS.new E M n d e (unhide HT)
       clear hW HT
       refine (fmtOk_ret E M hf) W _ ?_
       rintro _ W2 rfl hb
       have S2 := S.later hb
       clear S hb
       have j0 := cellr S2.h1 0 _ rfl
       have j1 := cellr S2.h1 1 _ rfl
       have j2 := cellr S2.h1 2 _ rfl)
    | (with_reducible refine at_fn 39 ?_
       refine (decOk_ret n d e h1 h2 hd) _ _ ?_
       rintro _ W3 ⟨b, rfl, hb3⟩ hb
       have S3 := S2.later hb
       obtain rfl : b = false := by cases b; rfl; exact absurd (hb3.1 rfl) hc
       clear S2 hb j0 j1 j2 hb3
       have k0 := cellr S3.h0 0 _ rfl
       have k1 := cellr S3.h0 1 _ rfl
       have j0 := cellr S3.h1 0 _ rfl
       have j1 := cellr S3.h1 1 _ rfl
       have j2 := cellr S3.h1 2 _ rfl)
    | fail)
  all_goals first
    | (go_ret2; exact ⟨_, rfl, ⟨_, _, rfl, ur⟩⟩)
    | (go_ret2; exact ⟨_, rfl, ⟨_, _, rfl, u64_zero⟩⟩)
    | fail

set_option maxHeartbeats 2000000 in
theorem sflags_z (w : World) (E M : Nat) (hf : fok E M = true) (m : Int) (n : Bool) (d : ByteArray) (e : Int) (h1 : -32768 ≤ e) (h2 : e ≤ 32767) (hd : d.size ≤ 1000000) (hc : Canon d e) (hz : d.size = 0) (ht : w.tape = fun _ _ => 0) :
    Calls Oaag.prog 111 #[fmt E M, .int .u8 m, .agg #[.bool n, .string d, .int .i16 e]] w fun z w' => ∃ v, z = .returned v ∧ PatR v := by
  have te := toList_empty d
  simp only [hz, decide_true] at te
  have HT := hide ht
  clear ht
  go_enter Oaag.func111, Oaag.ntmps111
  go_wp2_with (first
    | (with_reducible refine at_fn 67 ?_
       refine gen_calls ?_
       intro W hW
       have S : SfgS w E M n d e W := by rw [← hW]; exact SfgS.new E M n d e (unhide HT)
       clear hW HT
       refine (fmtOk_ret E M hf) W _ ?_
       rintro _ W2 rfl hb
       have S2 := S.later hb
       clear S hb
       have j0 := cellr S2.h1 0 _ rfl
       have j1 := cellr S2.h1 1 _ rfl
       have j2 := cellr S2.h1 2 _ rfl)
    | (with_reducible refine at_fn 39 ?_
       refine (decOk_ret n d e h1 h2 hd) _ _ ?_
       rintro _ W3 ⟨b, rfl, hb3⟩ hb
       have S3 := S2.later hb
       obtain rfl : b = true := hb3.2 hc
       clear S2 hb j0 j1 j2 hb3
       have k0 := cellr S3.h0 0 _ rfl
       have k1 := cellr S3.h0 1 _ rfl
       have j0 := cellr S3.h1 0 _ rfl
       have j1 := cellr S3.h1 1 _ rfl
       have j2 := cellr S3.h1 2 _ rfl)
    | (with_reducible refine at_fn 206 ?_
       refine (round_run _ E M hf m n _ _ (by first | exact u64_zero | exact ⟨by decide, by decide⟩) (by omega) (by omega) S3.tape).mono ?_
       rintro _ W9 ⟨_, rfl, ⟨r, f, rfl, ur⟩, -⟩)
    | fail)
  all_goals first
    | (go_ret2; exact ⟨_, rfl, ⟨_, _, rfl, ur⟩⟩)
    | (go_ret2; exact ⟨_, rfl, ⟨_, _, rfl, u64_zero⟩⟩)
    | fail

structure SfgQ (w : World) (E M : Nat) (n : Bool) (d : ByteArray) (e : Int) (B : Nat) (W : World) : Prop where
  tape : W.tape = fun _ _ => 0
  h0 : W.heap[w.heap.size]? = some (.cells #[.int .u8 E, .int .u8 M] 23 (0, 0))
  h1 : W.heap[w.heap.size + 1]? = some (.cells #[.bool n, .string d, .int .i16 e] 74 (0, 0))
theorem SfgQ.keep {w : World} {E M : Nat} {n : Bool} {d : ByteArray} {e : Int} {B g : Nat} {W W' : World} (h : SfgQ w E M n d e B W) (hk : Keep g W W') (ht : W'.tape = fun _ _ => 0) (hg : w.heap.size + 2 ≤ g) : SfgQ w E M n d e B W' :=
  ⟨ht, (hk.block _ (Array.getElem?_eq_some_iff.1 h.h0).1 (by omega)).trans h.h0, (hk.block _ (Array.getElem?_eq_some_iff.1 h.h1).1 (by omega)).trans h.h1⟩
set_option maxHeartbeats 2000000 in
theorem sflags_b (w : World) (E M : Nat) (hf : fok E M = true) (m : Int) (n : Bool) (d : ByteArray) (e : Int) (h1 : -32768 ≤ e) (h2 : e ≤ 32767) (hd : d.size ≤ 1000000) (hc : Canon d e) (hz : ¬ d.size = 0) (ht : w.tape = fun _ _ => 0) :
    Calls Oaag.prog 111 #[fmt E M, .int .u8 m, .agg #[.bool n, .string d, .int .i16 e]] w fun z w' => ∃ v, z = .returned v ∧ PatR v := by
  have te := toList_empty d
  simp only [hz, decide_false] at te
  have hsz : d.size ≤ 800 := by rcases hc with h | h <;> omega
  have he1 : -2000 ≤ e ∧ e ≤ 2000 := by rcases hc with h | h <;> omega
  have HT := hide ht
  clear ht
  go_enter Oaag.func111, Oaag.ntmps111
  go_wp2_with (first
    | (with_reducible refine at_fn 67 ?_
       refine gen_calls ?_
       intro W hW
       have S : SfgS w E M n d e W := by rw [← hW]; exact SfgS.new E M n d e (unhide HT)
       clear hW HT
       refine (fmtOk_ret E M hf) W _ ?_
       rintro _ W2 rfl hb
       have S2 := S.later hb
       clear S hb
       have j0 := cellr S2.h1 0 _ rfl
       have j1 := cellr S2.h1 1 _ rfl
       have j2 := cellr S2.h1 2 _ rfl)
    | (with_reducible refine at_fn 39 ?_
       refine (decOk_ret n d e h1 h2 hd) _ _ ?_
       rintro _ W3 ⟨b, rfl, hb3⟩ hb
       have S3 := S2.later hb
       obtain rfl : b = true := hb3.2 hc
       have j9 := cellr (S3.later (((Below.refl W3.heap.size W3).alloc (Nat.le_refl _) (.cells bigZ 222)).alloc (by rw [size_new]; omega) (.cells bigZ 222))).h1 1 _ rfl
       clear S2 hb j0 j1 j2 hb3
       have k0 := cellr S3.h0 0 _ rfl
       have k1 := cellr S3.h0 1 _ rfl
       have j0 := cellr S3.h1 0 _ rfl
       have j1 := cellr S3.h1 1 _ rfl
       have j2 := cellr S3.h1 2 _ rfl)
    | (with_reducible refine at_fn 206 ?_
       refine (round_run _ E M hf m n _ _ (by first | exact u64_zero | exact ⟨by decide, by decide⟩) (by omega) (by omega) S3.tape).mono ?_
       rintro _ W9 ⟨_, rfl, ⟨r, f, rfl, ur⟩, -⟩)
    | (with_reducible refine at_fn 207 ?_
       refine gen_calls ?_
       intro W hW
       have hb : Below W3.heap.size W3 W := by rw [← hW]; exact ((Below.refl _ _).alloc (Nat.le_refl _) _).alloc (by rw [size_new]; omega) _
       have S4 := S3.later hb
       have X4 : BigX W3.heap.size 0 (fun _ => 0) W := by rw [← hW]; exact (BigX.new W3).later ((Below.refl _ _).alloc (Nat.le_refl _) _)
       have Y4 : BigX (W3.heap.size + 1) 0 (fun _ => 0) W := by
         have := BigX.new (W3.alloc (.cells bigZ 222))
         rw [size_new] at this
         rw [← hW]
         exact this
       have h23 := le_two w E M n d e S3
       clear hW hb S3 k0 k1 j0 j1 j2 j9
       refine (read_run W _ _ d (by omega) X4 (fun _ => rfl) S4.tape).mono ?_
       rintro _ W5 ⟨rfl, nx, cx, X5, hnx, hzx, t5, K5⟩
       have Y5 := Y4.keep K5 (by omega)
       have M1 : True := trivial
       have Q5 : SfgQ w E M n d e W3.heap.size W5 := ⟨t5, (K5.block _ (by have := S4.h0; exact (Array.getElem?_eq_some_iff.1 this).1) (by omega)).trans S4.h0, (K5.block _ (Array.getElem?_eq_some_iff.1 S4.h1).1 (by omega)).trans S4.h1⟩
       have j2 := cellr Q5.h1 2 _ rfl
       clear X4 Y4 S4 K5 t5)
    | (with_reducible refine at_fn 208 ?_
       refine (mulAdd_run W5 _ _ _ 0 1 (by decide) (by decide) Y5 (by omega) (fun _ _ => rfl) Q5.tape).mono ?_
       rintro _ W6 ⟨rfl, ny, cy, Y6, hny0, hny, hzy, hnz, t6, K6⟩
       have X6 := X5.keep K6 (by omega)
       have N6 := hnz (.inr rfl) (.inr ⟨rfl, by decide⟩)
       have Q6 := Q5.keep K6 t6 (by omega)
       clear hnz X5 Y5 Q5 K6 t6 j2
       have j2 := cellr Q6.h1 2 _ rfl)
    | (with_reducible refine at_fn 209 ?_
       obtain ⟨K0, hK0⟩ : ∃ K0 : Nat, -e = (K0 : Int) := ⟨(-e).toNat, by omega⟩
       rw [hK0]
       refine (mulPow5_run W6 _ ny K0 cy (by omega) Y6 hzy Q6.tape).mono ?_
       rintro _ W7 ⟨rfl, ny2, cy2, Y7, hny2, hzy2, hnz2, t7, K7⟩
       have X7 := X6.keep K7 (by omega)
       have N7 := hnz2 N6
       have nx7 : nx ≤ 51 := by omega
       have Q7 := Q6.keep K7 t7 (by omega)
       clear X6 Y6 Q6 hnz2 N6 K7 t7 j2 hzy)
    | (with_reducible refine at_fn 209 ?_
       obtain ⟨K0, hK0⟩ : ∃ K0 : Nat, e = (K0 : Int) := ⟨e.toNat, by omega⟩
       rw [hK0]
       refine (mulPow5_run W6 _ nx K0 cx (by omega) X6 hzx Q6.tape).mono ?_
       rintro _ W7 ⟨rfl, nx2, cx2, X7, nx7, hzx2, hnz2, t7, K7⟩
       have Y7 := Y6.keep K7 (by omega)
       have N7 := N6
       have hzy2 := hzy
       have hny2 : ny ≤ 51 := by omega
       have Q7 := Q6.keep K7 t7 (by omega)
       clear X6 Y6 Q6 hnz2 N6 K7 t7 j2 hzy)
    | (with_reducible refine at_fn 210 ?_
       refine (quot_run W7 _ _ _ _ _ _ X7 Y7 (by omega) nx7 hny2 N7 hzy2 Q7.tape).mono ?_
       rintro _ W8 ⟨_, rfl, ⟨q, ee, rfl, uq, q1, q2⟩, K8, t8⟩
       have Q8 : SfgQ w E M n d e W3.heap.size W8 := ⟨t8, (K8.block _ (Array.getElem?_eq_some_iff.1 Q7.h0).1 (by omega) (by omega)).trans Q7.h0, (K8.block _ (Array.getElem?_eq_some_iff.1 Q7.h1).1 (by omega) (by omega)).trans Q7.h1⟩
       clear X7 Y7 Q7 K8 t8
       have k0 := cellr Q8.h0 0 _ rfl
       have k1 := cellr Q8.h0 1 _ rfl
       have j0 := cellr Q8.h1 0 _ rfl
       have j2 := cellr Q8.h1 2 _ rfl)
    | (with_reducible refine at_fn 206 ?_
       refine (round_run _ E M hf m n _ _ uq (by omega) (by omega) Q8.tape).mono ?_
       rintro _ W9 ⟨_, rfl, ⟨r, f, rfl, ur⟩, -⟩)
    | (with_reducible refine wpList_newc 222 _ z222 rfl rfl ?_)
    | fail)
  all_goals first
    | (go_ret2; exact ⟨_, rfl, ⟨_, _, rfl, ur⟩⟩)
    | (go_ret2; exact ⟨_, rfl, ⟨_, _, rfl, u64_zero⟩⟩)
    | fail

end Go.Proofs.YgcoaaGreat.NatW
