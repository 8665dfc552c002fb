/-
  The top: calc.Step, law.engineStep: over the engines' steps.
-/
import Derived.Test.YgcoaaGreatRsH
import Derived.Test.YgcoaaGreatMxB
set_option linter.unusedVariables false
set_option linter.unusedSimpArgs false
set_option maxRecDepth 20000
namespace Go.Proofs.YgcoaaGreat.NatW
open Go.RowKit
open Go.Proofs.YgcoaaGreat.Det
attribute [local go_sem] Go.Instr.field Go.asAgg

/-- A step of an engine that is named. -/
def SXc (g : FuncId) (eng : Int) (E M : Nat) (md kd kD kA kB imm : Int) (text : ByteArray) (R : Nat → Int) (L : List Value) (R' : Nat → Int) (L' : List Value) : Prop :=
  ∀ (tb mb : Nat) (w : World) (K : Ending → World → Prop), tb < mb → On tb w → MX mb R L w → (∀ w', MX mb R' L' w' → Below mb w w' → K (.returned (.tuple #[])) w') →
    Calls Oaag.prog g #[.pointer (some ⟨tb, 0, none⟩), .int .u8 eng, fmt E M, .int .u8 md, .pointer (some ⟨mb, 0, none⟩), .agg #[.int .u8 kd, .int .u8 kD, .int .u8 kA, .int .u8 kB, .int .u64 imm, .string text]] w K

/-- The boxes: the format's and the operation's. -/
structure TpS (tb n0 E M : Nat) (kd kD kA kB imm : Int) (text : ByteArray) (w W : World) : Prop where
  on : On tb W
  lt : n0 + 2 ≤ W.heap.size
  h0 : W.heap[n0]? = some (.cells #[.int .u8 E, .int .u8 M] 23 (0, 0))
  h1 : W.heap[n0 + 1]? = some (.cells #[.int .u8 kd, .int .u8 kD, .int .u8 kA, .int .u8 kB, .int .u64 imm, .string text] 91 (0, 0))
  below : Below n0 w W
theorem TpS.later {tb n0 E M : Nat} {kd kD kA kB imm : Int} {text : ByteArray} {w W W' : World} (h : TpS tb n0 E M kd kD kA kB imm text w W) (hb : Below W.heap.size W W') : TpS tb n0 E M kd kD kA kB imm text w W' :=
  ⟨h.on.later hb, Nat.le_trans h.lt hb.size, (hb.block _ (by have := h.lt; omega)).trans h.h0, (hb.block _ (by have := h.lt; omega)).trans h.h1, h.below.trans (hb.mono (by have := h.lt; omega))⟩
theorem TpS.new {tb E M : Nat} (kd kD kA kB imm : Int) (text : ByteArray) {w : World} (ho : On tb w) : TpS tb w.heap.size E M kd kD kA kB imm text w ((w.alloc (.cells #[.int .u8 E, .int .u8 M] 23)).alloc (.cells #[.int .u8 kd, .int .u8 kD, .int .u8 kA, .int .u8 kB, .int .u64 imm, .string text] 91)) :=
  have hb := ((Below.refl w.heap.size w).alloc (Nat.le_refl _) (.cells #[.int .u8 E, .int .u8 M] 23)).alloc (by rw [size_new]; omega) (.cells #[.int .u8 kd, .int .u8 kD, .int .u8 kA, .int .u8 kB, .int .u64 imm, .string text] 91)
  ⟨ho.later hb, by rw [size_new, size_new]; omega, row_old (row_new _ _ _ rfl), row_new _ _ _ (size_new _ _), hb⟩

set_option maxHeartbeats 2000000 in
theorem cs_86_0 (eng : Int) (E M : Nat) (md kd kD kA kB imm : Int) (text : ByteArray) (R R' : Nat → Int) (L L' : List Value) (he : eng = 0) (hA : ∀ tb, DFT tb 159 #[.pointer (some ⟨tb, 0, none⟩), .int .u8 eng, fmt E M, .int .u8 md] (.bool true)) (hD : SX 81 E M md kd kD kA kB imm text R L R' L') : SXc 86 eng E M md kd kD kA kB imm text R L R' L' := by
  intro tb mb w K htb ho h hK
  have HK := hide hK
  have HO := hide ho
  have HX := hide h
  have hml := h.own.1
  clear hK ho h
  subst he
  have HA := hide hA
  have HD := hide hD
  clear hA hD
  go_enter Oaag.func86, Oaag.ntmps86
  go_wp2_with (first
    | (with_reducible refine at_fn 159 ?_
       refine gen_calls ?_
       intro W hW
       have S : TpS tb w.heap.size E M kd kD kA kB imm text w W := by rw [← hW]; exact TpS.new kd kD kA kB imm text (unhide HO)
       clear hW
       refine (unhide HA) tb W _ S.on ?_
       intro W2 hb
       replace S := S.later hb
       clear hb
       have k0 := cellr S.h0 0 _ rfl
       have k1 := cellr S.h0 1 _ rfl
       have j0 := cellr S.h1 0 _ rfl
       have j1 := cellr S.h1 1 _ rfl
       have j2 := cellr S.h1 2 _ rfl
       have j3 := cellr S.h1 3 _ rfl
       have j4 := cellr S.h1 4 _ rfl
       have j5 := cellr S.h1 5 _ rfl)
    | (with_reducible refine at_fn 81 ?_
       refine (unhide HD) tb mb _ _ htb S.on ((unhide HX).later S.below) ?_
       intro w9 hm9 hb9
       have HM9 := hide hm9
       have HB9 := hide ((S.below.mono (by omega)).trans hb9)
       clear hm9 hb9)
    | fail)
  all_goals first
    | exact unhide HK _ (unhide HM9) (unhide HB9)
    | (refine bodyPost_nor (v := .tuple #[]) (by simp [results, Oaag.results86, go_sem]) rfl ?_
       exact unhide HK _ (unhide HM9) (unhide HB9))
    | fail

set_option maxHeartbeats 2000000 in
theorem cs_43_0 (eng : Int) (E M : Nat) (md kd kD kA kB imm : Int) (text : ByteArray) (R R' : Nat → Int) (L L' : List Value) (he : eng = 0) (hD : SX 81 E M md kd kD kA kB imm text R L R' L') : SXc 43 eng E M md kd kD kA kB imm text R L R' L' := by
  intro tb mb w K htb ho h hK
  have HK := hide hK
  have HO := hide ho
  have HX := hide h
  have hml := h.own.1
  clear hK ho h
  subst he
  have HD := hide hD
  clear hD
  go_enter Oaag.func43, Oaag.ntmps43
  go_wp2_with (first
    | (with_reducible refine at_fn 81 ?_
       refine gen_calls ?_
       intro W hW
       have S : TpS tb w.heap.size E M kd kD kA kB imm text w W := by rw [← hW]; exact TpS.new kd kD kA kB imm text (unhide HO)
       clear hW
       refine (unhide HD) tb mb _ _ htb S.on ((unhide HX).later S.below) ?_
       intro w9 hm9 hb9
       have HM9 := hide hm9
       have HB9 := hide ((S.below.mono (by omega)).trans hb9)
       clear hm9 hb9)
    | fail)
  all_goals first
    | exact unhide HK _ (unhide HM9) (unhide HB9)
    | (refine bodyPost_nor (v := .tuple #[]) (by simp [results, Oaag.results43, go_sem]) rfl ?_
       exact unhide HK _ (unhide HM9) (unhide HB9))
    | fail

set_option maxHeartbeats 2000000 in
theorem cs_86_1 (eng : Int) (E M : Nat) (md kd kD kA kB imm : Int) (text : ByteArray) (R R' : Nat → Int) (L L' : List Value) (he : eng = 1) (hA : ∀ tb, DFT tb 159 #[.pointer (some ⟨tb, 0, none⟩), .int .u8 eng, fmt E M, .int .u8 md] (.bool true)) (hD : SX 82 E M md kd kD kA kB imm text R L R' L') : SXc 86 eng E M md kd kD kA kB imm text R L R' L' := by
  intro tb mb w K htb ho h hK
  have HK := hide hK
  have HO := hide ho
  have HX := hide h
  have hml := h.own.1
  clear hK ho h
  subst he
  have HA := hide hA
  have HD := hide hD
  clear hA hD
  go_enter Oaag.func86, Oaag.ntmps86
  go_wp2_with (first
    | (with_reducible refine at_fn 159 ?_
       refine gen_calls ?_
       intro W hW
       have S : TpS tb w.heap.size E M kd kD kA kB imm text w W := by rw [← hW]; exact TpS.new kd kD kA kB imm text (unhide HO)
       clear hW
       refine (unhide HA) tb W _ S.on ?_
       intro W2 hb
       replace S := S.later hb
       clear hb
       have k0 := cellr S.h0 0 _ rfl
       have k1 := cellr S.h0 1 _ rfl
       have j0 := cellr S.h1 0 _ rfl
       have j1 := cellr S.h1 1 _ rfl
       have j2 := cellr S.h1 2 _ rfl
       have j3 := cellr S.h1 3 _ rfl
       have j4 := cellr S.h1 4 _ rfl
       have j5 := cellr S.h1 5 _ rfl)
    | (with_reducible refine at_fn 82 ?_
       refine (unhide HD) tb mb _ _ htb S.on ((unhide HX).later S.below) ?_
       intro w9 hm9 hb9
       have HM9 := hide hm9
       have HB9 := hide ((S.below.mono (by omega)).trans hb9)
       clear hm9 hb9)
    | fail)
  all_goals first
    | exact unhide HK _ (unhide HM9) (unhide HB9)
    | (refine bodyPost_nor (v := .tuple #[]) (by simp [results, Oaag.results86, go_sem]) rfl ?_
       exact unhide HK _ (unhide HM9) (unhide HB9))
    | fail

set_option maxHeartbeats 2000000 in
theorem cs_43_1 (eng : Int) (E M : Nat) (md kd kD kA kB imm : Int) (text : ByteArray) (R R' : Nat → Int) (L L' : List Value) (he : eng = 1) (hD : SX 82 E M md kd kD kA kB imm text R L R' L') : SXc 43 eng E M md kd kD kA kB imm text R L R' L' := by
  intro tb mb w K htb ho h hK
  have HK := hide hK
  have HO := hide ho
  have HX := hide h
  have hml := h.own.1
  clear hK ho h
  subst he
  have HD := hide hD
  clear hD
  go_enter Oaag.func43, Oaag.ntmps43
  go_wp2_with (first
    | (with_reducible refine at_fn 82 ?_
       refine gen_calls ?_
       intro W hW
       have S : TpS tb w.heap.size E M kd kD kA kB imm text w W := by rw [← hW]; exact TpS.new kd kD kA kB imm text (unhide HO)
       clear hW
       refine (unhide HD) tb mb _ _ htb S.on ((unhide HX).later S.below) ?_
       intro w9 hm9 hb9
       have HM9 := hide hm9
       have HB9 := hide ((S.below.mono (by omega)).trans hb9)
       clear hm9 hb9)
    | fail)
  all_goals first
    | exact unhide HK _ (unhide HM9) (unhide HB9)
    | (refine bodyPost_nor (v := .tuple #[]) (by simp [results, Oaag.results43, go_sem]) rfl ?_
       exact unhide HK _ (unhide HM9) (unhide HB9))
    | fail

set_option maxHeartbeats 2000000 in
theorem cs_86_2 (eng : Int) (E M : Nat) (md kd kD kA kB imm : Int) (text : ByteArray) (R R' : Nat → Int) (L L' : List Value) (he : eng = 2) (hA : ∀ tb, DFT tb 159 #[.pointer (some ⟨tb, 0, none⟩), .int .u8 eng, fmt E M, .int .u8 md] (.bool true)) (hD : SX 83 E M md kd kD kA kB imm text R L R' L') : SXc 86 eng E M md kd kD kA kB imm text R L R' L' := by
  intro tb mb w K htb ho h hK
  have HK := hide hK
  have HO := hide ho
  have HX := hide h
  have hml := h.own.1
  clear hK ho h
  subst he
  have HA := hide hA
  have HD := hide hD
  clear hA hD
  go_enter Oaag.func86, Oaag.ntmps86
  go_wp2_with (first
    | (with_reducible refine at_fn 159 ?_
       refine gen_calls ?_
       intro W hW
       have S : TpS tb w.heap.size E M kd kD kA kB imm text w W := by rw [← hW]; exact TpS.new kd kD kA kB imm text (unhide HO)
       clear hW
       refine (unhide HA) tb W _ S.on ?_
       intro W2 hb
       replace S := S.later hb
       clear hb
       have k0 := cellr S.h0 0 _ rfl
       have k1 := cellr S.h0 1 _ rfl
       have j0 := cellr S.h1 0 _ rfl
       have j1 := cellr S.h1 1 _ rfl
       have j2 := cellr S.h1 2 _ rfl
       have j3 := cellr S.h1 3 _ rfl
       have j4 := cellr S.h1 4 _ rfl
       have j5 := cellr S.h1 5 _ rfl)
    | (with_reducible refine at_fn 83 ?_
       refine (unhide HD) tb mb _ _ htb S.on ((unhide HX).later S.below) ?_
       intro w9 hm9 hb9
       have HM9 := hide hm9
       have HB9 := hide ((S.below.mono (by omega)).trans hb9)
       clear hm9 hb9)
    | fail)
  all_goals first
    | exact unhide HK _ (unhide HM9) (unhide HB9)
    | (refine bodyPost_nor (v := .tuple #[]) (by simp [results, Oaag.results86, go_sem]) rfl ?_
       exact unhide HK _ (unhide HM9) (unhide HB9))
    | fail

set_option maxHeartbeats 2000000 in
theorem cs_43_2 (eng : Int) (E M : Nat) (md kd kD kA kB imm : Int) (text : ByteArray) (R R' : Nat → Int) (L L' : List Value) (he : eng = 2) (hD : SX 83 E M md kd kD kA kB imm text R L R' L') : SXc 43 eng E M md kd kD kA kB imm text R L R' L' := by
  intro tb mb w K htb ho h hK
  have HK := hide hK
  have HO := hide ho
  have HX := hide h
  have hml := h.own.1
  clear hK ho h
  subst he
  have HD := hide hD
  clear hD
  go_enter Oaag.func43, Oaag.ntmps43
  go_wp2_with (first
    | (with_reducible refine at_fn 83 ?_
       refine gen_calls ?_
       intro W hW
       have S : TpS tb w.heap.size E M kd kD kA kB imm text w W := by rw [← hW]; exact TpS.new kd kD kA kB imm text (unhide HO)
       clear hW
       refine (unhide HD) tb mb _ _ htb S.on ((unhide HX).later S.below) ?_
       intro w9 hm9 hb9
       have HM9 := hide hm9
       have HB9 := hide ((S.below.mono (by omega)).trans hb9)
       clear hm9 hb9)
    | fail)
  all_goals first
    | exact unhide HK _ (unhide HM9) (unhide HB9)
    | (refine bodyPost_nor (v := .tuple #[]) (by simp [results, Oaag.results43, go_sem]) rfl ?_
       exact unhide HK _ (unhide HM9) (unhide HB9))
    | fail

set_option maxHeartbeats 2000000 in
theorem cs_86_f (eng : Int) (E M : Nat) (md kd kD kA kB imm : Int) (text : ByteArray) (R : Nat → Int) (L : List Value) (hA : ∀ tb, DFT tb 159 #[.pointer (some ⟨tb, 0, none⟩), .int .u8 eng, fmt E M, .int .u8 md] (.bool false)) : SXc 86 eng E M md kd kD kA kB imm text R L R L := by
  intro tb mb w K htb ho h hK
  have HK := hide hK
  have HO := hide ho
  have HX := hide h
  have hml := h.own.1
  clear hK ho h
  have HA := hide hA
  clear hA
  go_enter Oaag.func86, Oaag.ntmps86
  go_wp2_with (first
    | (with_reducible refine at_fn 159 ?_
       refine gen_calls ?_
       intro W hW
       have S : TpS tb w.heap.size E M kd kD kA kB imm text w W := by rw [← hW]; exact TpS.new kd kD kA kB imm text (unhide HO)
       clear hW
       refine (unhide HA) tb W _ S.on ?_
       intro W2 hb
       replace S := S.later hb
       have HM9 := hide ((unhide HX).later S.below)
       have HB9 := hide (S.below.mono (Nat.le_of_lt hml))
       clear hb)
    | fail)
  all_goals first
    | exact unhide HK _ (unhide HM9) (unhide HB9)
    | (refine bodyPost_nor (v := .tuple #[]) (by simp [results, Oaag.results86, go_sem]) rfl ?_
       exact unhide HK _ (unhide HM9) (unhide HB9))
    | fail

end Go.Proofs.YgcoaaGreat.NatW
