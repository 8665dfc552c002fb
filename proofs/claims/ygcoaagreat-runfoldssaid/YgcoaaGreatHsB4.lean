/-
  Package hexa: Scan, exactly: a round at state 4.
-/
import Derived.Test.YgcoaaGreatHsX
set_option linter.unusedVariables false
set_option linter.unusedSimpArgs false
set_option maxRecDepth 20000
namespace Go.Proofs.YgcoaaGreat.NatW
open Go.RowKit
open Go.Proofs.YgcoaaGreat.Det
attribute [local go_sem] Go.Instr.field Go.asAgg

set_option maxHeartbeats 4000000 in
theorem hrnd_4 (text : ByteArray) (hts : text.size ≤ 1024) (mk : Bool → ByteArray → Int → MK) (w : World) (tb : Nat) (K : Ending → World → Prop) (V : Value) (HK : Hid (∀ (w' : World), Below w.heap.size w w' → K (Ending.returned V) w')) (K1 : Act → World → Prop) (ht : tb < w.heap.size) (wr : World) (pos : Nat) (neg eneg : Bool) (dig : List Int) (frac exp : Nat) (k2 : exp ≤ 1000000) (k3 : frac + (text.size - pos) ≤ text.size) (k4 : dig.length + (text.size - pos) ≤ text.size) (hp : pos < text.size) (pa : Option Addr) (pc : Nat) (hV : hscanF mk text (text.size - pos) pos ⟨neg, eneg, dig, frac, exp, 4⟩ = V) (hS0 : HW tb w w.heap.size (w.heap.size + 1) text pos ⟨neg, eneg, dig, frac, exp, 4⟩ (.slice pa dig.length pc) wr)
    (u9 u10 u11 u12 u21 u22 u23 u24 u25 u26 u27 u28 u29 u30 u31 u32 u33 u34 u35 u36 u37 u38 u39 u40 u41 u42 u43 u44 u45 u46 u47 u48 u49 u50 u51 u52 u53 u54 u55 u56 u57 u58 u59 u60 u61 u62 u63 u64 u65 u66 u67 u68 u69 u70 u71 u72 u73 u74 u75 u76 u77 u78 u79 u80 u81 u82 u83 u84 u85 u86 u87 u88 u89 u90 u91 u92 u93 u94 u95 u96 u97 u98 u99 u100 u101 u102 u103 u104 u105 u106 u107 u108 u109 u110 u111 u112 u113 u114 u115 u116 u117 u118 u119 u120 u121 u122 u123 u124 u125 u126 u127 u128 u129 u130 u131 u132 u133 u134 u135 u136 u137 u138 u139 u140 u141 u142 u143 u144 u145 u146 u147 : Value) : Code.wp Oaag.prog (sI (sI (sR (sL (sR (sR (sR (sR (sI (sR (bodyOf Oaag.f266))))))))))) (Exit.then
      (fun a' w' =>
        (∃ u3 u4 u5 u6 u7 u8 u9 u10 u11 u12 u21 u22 u23 u24 u25 u26 u27 u28 u29 u30 u31 u32 u33 u34 u35 u36 u37 u38 u39
            u40 u41 u42 u43 u44 u45 u46 u47 u48 u49 u50 u51 u52 u53 u54 u55 u56 u57 u58 u59 u60 u61 u62 u63 u64 u65 u66
            u67 u68 u69 u70 u71 u72 u73 u74 u75 u76 u77 u78 u79 u80 u81 u82 u83 u84 u85 u86 u87 u88 u89 u90 u91 u92 u93
            u94 u95 u96 u97 u98 u99 u100 u101 u102 u103 u104 u105 u106 u107 u108 u109 u110 u111 u112 u113 u114 u115 u116
            u117 u118 u119 u120 u121 u122 u123 u124 u125 u126 u127 u128 u129 u130 u131 u132 u133 u134 u135 u136 u137
            u138 u139 u140 u141 u142 u143 u144 u145 u146 u147,
            HsR tb w w.heap.size (w.heap.size + 1) text mk V u3 u4 u5 u6 u7 u8 w' ∧
              a' =
                {
                  tmps :=
                    #[Value.string text, undef, Value.pointer (some { block := w.heap.size, off := 0 }), u3, u4, u5, u6,
                      u7, u8, u9, u10, u11, u12, undef, undef, Value.string text, Value.int IntKind.i64 (text.size : Int),
                      Value.bool (decide (1024 < (text.size : Int))), undef, Value.string text,
                      Value.pointer (some { block := w.heap.size + 1, off := 0 }), u21, u22, u23, u24, u25, u26, u27,
                      u28, u29, u30, u31, u32, u33, u34, u35, u36, u37, u38, u39, u40, u41, u42, u43, u44, u45, u46,
                      u47, u48, u49, u50, u51, u52, u53, u54, u55, u56, u57, u58, u59, u60, u61, u62, u63, u64, u65,
                      u66, u67, u68, u69, u70, u71, u72, u73, u74, u75, u76, u77, u78, u79, u80, u81, u82, u83, u84,
                      u85, u86, u87, u88, u89, u90, u91, u92, u93, u94, u95, u96, u97, u98, u99, u100, u101, u102, u103,
                      u104, u105, u106, u107, u108, u109, u110, u111, u112, u113, u114, u115, u116, u117, u118, u119,
                      u120, u121, u122, u123, u124, u125, u126, u127, u128, u129, u130, u131, u132, u133, u134, u135,
                      u136, u137, u138, u139, u140, u141, u142, u143, u144, u145, u146, u147, undef, undef, undef,
                      undef, undef, undef, undef, undef, undef, undef, undef, undef, undef, undef, undef, undef, undef,
                      undef, undef, undef, undef, undef, undef, undef],
                  defers := [] }) ∧
          text.size - w'.iterPos (w.heap.size + 1) < text.size - wr.iterPos (w.heap.size + 1))
      (Exit.inBlock 0 (Exit.then K1 (Exit.noGoto (bodyPost Oaag.prog Oaag.f266 K)))))
    {
      tmps :=
        #[Value.string text, undef, Value.pointer (some { block := w.heap.size, off := 0 }), Value.slice pa dig.length pc, Value.bool neg, Value.bool eneg, Value.int IntKind.i64 (frac : Int), Value.int IntKind.i64 (exp : Int), Value.int IntKind.i64 ((4 : Nat) : Int), u9,
          u10, u11, u12, undef, undef, Value.string text, Value.int IntKind.i64 (text.size : Int),
          Value.bool (decide (1024 < (text.size : Int))), undef, Value.string text,
          Value.pointer (some { block := w.heap.size + 1, off := 0 }), u21, u22, u23, u24, u25, u26, u27, u28, u29, u30,
          u31, u32, u33, u34, u35, u36, u37, u38, u39, u40, u41, u42, u43, u44, u45, u46, u47, u48, u49, u50, u51, u52,
          u53, u54, u55, u56, u57, u58, u59, u60, u61, u62, u63, u64, u65, u66, u67, u68, u69, u70, u71, u72, u73, u74,
          u75, u76, u77, u78, u79, u80, u81, u82, u83, u84, u85, u86, u87, u88, u89, u90, u91, u92, u93, u94, u95, u96,
          u97, u98, u99, u100, u101, u102, u103, u104, u105, u106, u107, u108, u109, u110, u111, u112, u113, u114, u115,
          u116, u117, u118, u119, u120, u121, u122, u123, u124, u125, u126, u127, u128, u129, u130, u131, u132, u133,
          u134, u135, u136, u137, u138, u139, u140, u141, u142, u143, u144, u145, u146, u147, undef, undef, undef,
          undef, undef, undef, undef, undef, undef, undef, undef, undef, undef, undef, undef, undef, undef, undef,
          undef, undef, undef, undef, undef, undef],
      defers := [] }
    wr := by
  dsimp only [sL, sR, sI, bodyOf, Oaag.f266, Option.getD]
  have hnx := run_next_k (P := Oaag.prog) wr text pos _ 0 hS0.it hp
  have h1s := hS0.next ht (pos + (Utf8.decode text pos).2)
  have hln := decode_pos text pos hp
  have hrn := decode_le text pos
  rw [hscanF_more mk text pos _ hp] at hV
  unfold hnxt at hV
  generalize (Utf8.decode text pos).1 = rn at *
  generalize (Utf8.decode text pos).2 = ln at *
  generalize ({ wr with heap := wr.heap.setIfInBounds (w.heap.size + 1) (.stringIter text (pos + ln)) } : World) = W1 at *
  obtain ⟨q, hq⟩ : ∃ q, bits .or .i32 (rn : Int) 32 = q := ⟨_, rfl⟩
  rw [hq] at hV
  have hdg := digit_says (rn : Int) (by omega) (by omega)
  have hdl := hexD_le (rn : Int)
  obtain ⟨hd, hhd⟩ : ∃ hd, hexD (rn : Int) = hd := ⟨_, rfl⟩
  rw [hhd] at hV hdg hdl
  have hown := h1s.row
  dsimp only at hown h1s hS0
  have b0 := cell_of_row _ _ 0 _ _ _ h1s.bx
  have bf0 := frozen_of_row _ _ 0 _ _ h1s.bx
  have b1 := cell_of_row _ _ 1 _ _ _ h1s.bx
  have bf1 := frozen_of_row _ _ 1 _ _ h1s.bx
  have b2 := cell_of_row _ _ 2 _ _ _ h1s.bx
  have bf2 := frozen_of_row _ _ 2 _ _ h1s.bx
  have b3 := cell_of_row _ _ 3 _ _ _ h1s.bx
  have bf3 := frozen_of_row _ _ 3 _ _ h1s.bx
  have b4 := cell_of_row _ _ 4 _ _ _ h1s.bx
  have bf4 := frozen_of_row _ _ 4 _ _ h1s.bx
  have b5 := cell_of_row _ _ 5 _ _ _ h1s.bx
  have bf5 := frozen_of_row _ _ 5 _ _ h1s.bx
  simp only [List.getElem?_toArray, List.getElem?_cons_succ, List.getElem?_cons_zero] at b0 b1 b2 b3 b4 b5
  have HS0 := hide hS0
  have HOWN := hide hown
  have HS1 := hide h1s
  clear hS0 hown h1s
  obtain ⟨b43_, h43⟩ : ∃ bb, ((rn : Int) == 43) = bb := ⟨_, rfl⟩
  cases b43_
  case true =>
    have e43 : rn = 43 := by have := eq_of_beq h43; omega
    subst e43
    have e43 : True := trivial
    have e1 : hexD ((43 : Nat) : Int) = -1 := by decide
    rw [e1] at hhd
    subst hhd
    replace hdg : Says 378 #[.int .i32 43] (.int .i64 (-1)) := hdg
    simp only [hnxtQ, hexp, if_true, if_false, cond_true, cond_false, h43] at hV
    go_wp2_with (first | ((with_reducible refine Says.run hdg ?_)))
    all_goals first
      | (refine bodyPost_box rfl ?_; intro r hr; simp [results, Oaag.results266, go_sem, b0, b1, b2, b3, b4, b5] at hr; subst hr; refine ⟨_, rfl, ?_⟩; rw [← hV] at HK; exact unhide HK _ (below_store (below_store (below_store (below_store (below_store (below_store ((unhide HS1).below) (unhide HS1).lt.1 _) (unhide HS1).lt.1 _) (unhide HS1).lt.1 _) (unhide HS1).lt.1 _) (unhide HS1).lt.1 _) (unhide HS1).lt.1 _))
      | fail
  obtain ⟨b45_, h45⟩ : ∃ bb, ((rn : Int) == 45) = bb := ⟨_, rfl⟩
  cases b45_
  case true =>
    have e43 : rn = 45 := by have := eq_of_beq h45; omega
    subst e43
    have e43 : True := trivial
    have e1 : hexD ((45 : Nat) : Int) = -1 := by decide
    rw [e1] at hhd
    subst hhd
    replace hdg : Says 378 #[.int .i32 45] (.int .i64 (-1)) := hdg
    simp only [hnxtQ, hexp, if_true, if_false, cond_true, cond_false, h45, h43] at hV
    go_wp2_with (first | ((with_reducible refine Says.run hdg ?_)))
    all_goals first
      | (refine bodyPost_box rfl ?_; intro r hr; simp [results, Oaag.results266, go_sem, b0, b1, b2, b3, b4, b5] at hr; subst hr; refine ⟨_, rfl, ?_⟩; rw [← hV] at HK; exact unhide HK _ (below_store (below_store (below_store (below_store (below_store (below_store ((unhide HS1).below) (unhide HS1).lt.1 _) (unhide HS1).lt.1 _) (unhide HS1).lt.1 _) (unhide HS1).lt.1 _) (unhide HS1).lt.1 _) (unhide HS1).lt.1 _))
      | fail
  by_cases hx : 0 ≤ hd
  · obtain ⟨hl1, hl2⟩ := hdl hx
    simp only [hnxtQ, hexp, if_true, if_false, cond_true, cond_false, h43, h45, hx] at hV
    go_wp2_with (first | ((with_reducible refine Says.run hdg ?_)) | (at_builtin; refine wpList_appX 119 5 (.int .u8 0) 1 info5 rfl NatW.u119 (by decide) rfl _ _ rfl (unhide HOWN) rfl (by (try rw [World.size_setCell]); rfl) (by rfl) (by simp only [List.length_map]; omega) (by have := (unhide HS1).lt; omega) (fun _ _ h => h) ?_; intro v1 w1 ho1 hb1; obtain ⟨pa1, pc1, rfl⟩ := rowX_sliceA ho1; have HO1 := hide ho1; have HB1 := hide hb1; clear ho1 hb1))
    all_goals first
      | (exact HsR.on (unhide HS0) hp (by omega) (by omega) ((unhide HS1).app ht rn (unhide HO1) (unhide HB1) ⟨neg, eneg, (dig ++ [(rn : Int)]), frac, exp, 4⟩ rfl) (by first | rfl | simp [e43]) (by first | rfl | simp [e43]) (by first | rfl | simp) (by first | rfl | exact congrArg _ (unhide EE)) rfl (by unfold Hokk; dsimp only; refine ⟨by omega, by omega, by omega, by (try simp only [List.length_append, List.length_cons, List.length_nil]); omega⟩) hV)
      | fail
  · obtain ⟨br46, hr46⟩ : ∃ bb, ((rn : Int) == 46) = bb := ⟨_, rfl⟩
    cases br46
    · obtain ⟨bq112, hq112⟩ : ∃ bb, (q == 112) = bb := ⟨_, rfl⟩
      cases bq112
      · simp only [hnxtQ, hexp, if_true, if_false, cond_true, cond_false, h43, h45, hx, hr46, hq112] at hV
        go_wp2_with (first | ((with_reducible refine Says.run hdg ?_)))
        all_goals first
          | (refine bodyPost_box rfl ?_; intro r hr; simp [results, Oaag.results266, go_sem, b0, b1, b2, b3, b4, b5] at hr; subst hr; refine ⟨_, rfl, ?_⟩; rw [← hV] at HK; exact unhide HK _ (below_store (below_store (below_store (below_store (below_store (below_store ((unhide HS1).below) (unhide HS1).lt.1 _) (unhide HS1).lt.1 _) (unhide HS1).lt.1 _) (unhide HS1).lt.1 _) (unhide HS1).lt.1 _) (unhide HS1).lt.1 _))
          | fail
      · simp only [hnxtQ, hexp, if_true, if_false, cond_true, cond_false, h43, h45, hx, hr46, hq112] at hV
        go_wp2_with (first | ((with_reducible refine Says.run hdg ?_)))
        all_goals first
          | (exact HsR.on (unhide HS0) hp (by omega) (by omega) ((show HW tb w _ _ text (pos + ln) ⟨neg, eneg, dig, frac, exp, 8⟩ _ W1 from ⟨(unhide HS1).on, (unhide HS1).below, (unhide HS1).lt, (unhide HS1).bx, (unhide HS1).it, (unhide HS1).row⟩)) (by first | rfl | simp [e43]) (by first | rfl | simp [e43]) (by first | rfl | simp) (by first | rfl | exact congrArg _ (unhide EE)) rfl (by unfold Hokk; dsimp only; refine ⟨by omega, by omega, by omega, by (try simp only [List.length_append, List.length_cons, List.length_nil]); omega⟩) hV)
          | fail
    · simp only [hnxtQ, hexp, if_true, if_false, cond_true, cond_false, h43, h45, hx, hr46] at hV
      go_wp2_with (first | ((with_reducible refine Says.run hdg ?_)))
      all_goals first
        | (exact HsR.on (unhide HS0) hp (by omega) (by omega) ((show HW tb w _ _ text (pos + ln) ⟨neg, eneg, dig, frac, exp, 5⟩ _ W1 from ⟨(unhide HS1).on, (unhide HS1).below, (unhide HS1).lt, (unhide HS1).bx, (unhide HS1).it, (unhide HS1).row⟩)) (by first | rfl | simp [e43]) (by first | rfl | simp [e43]) (by first | rfl | simp) (by first | rfl | exact congrArg _ (unhide EE)) rfl (by unfold Hokk; dsimp only; refine ⟨by omega, by omega, by omega, by (try simp only [List.length_append, List.length_cons, List.length_nil]); omega⟩) hV)
        | fail
end Go.Proofs.YgcoaaGreat.NatW
