/-
  Package dec: Scan, exactly: a round at state 2.
-/
import Derived.Test.YgcoaaGreatScB0
set_option linter.unusedVariables false
set_option linter.unusedSimpArgs false
set_option maxRecDepth 20000
namespace Go.Proofs.YgcoaaGreat.NatW
open Go.RowKit
open Go.Proofs.YgcoaaGreat.Det
attribute [local go_sem] Go.Instr.field Go.asAgg

set_option maxHeartbeats 4000000 in
theorem rnd_2 (text : ByteArray) (hts : text.size ≤ 1024) (mk : Bool → ByteArray → Int → MK) (w : World) (tb : Nat) (K : Ending → World → Prop) (V : Value) (HK : Hid (∀ (w' : World), Below w.heap.size w w' → K (Ending.returned V) w')) (K1 : Act → World → Prop) (ht : tb < w.heap.size) (wr : World) (pos : Nat) (neg eneg : Bool) (dig : List Int) (frac exp wk at_ : Nat) (k2 : exp ≤ 1000000) (k3 : frac + (text.size - pos) ≤ text.size) (k4 : dig.length + (text.size - pos) ≤ text.size) (k5 : wk ≤ 2) (k6 : at_ ≤ 8) (hp : pos < text.size) (v : Value) (hV : scanF mk text (text.size - pos) pos ⟨neg, eneg, dig, frac, exp, 2, wk, at_⟩ = V) (hS0 : SW tb w w.heap.size (w.heap.size + 1 + 1) (w.heap.size + 1 + 1 + 1) text pos ⟨neg, eneg, dig, frac, exp, 2, wk, at_⟩ v wr)
    (u8 u9 u18 u19 u20 u21 u22 u23 u24 u25 u26 u27 u28 u29 u30 u31 u32 u33 u34 u35 u36 u37 u38 u39 u40 u41 u42 u43 u44 u45 u46 u47 u48 u49 u50 u51 u52 u53 u54 u55 u56 u57 u58 u59 u60 u61 u62 u63 u64 u65 u66 u67 u68 u69 u70 u71 u72 u73 u74 u75 u76 u77 u78 u79 u80 u81 u82 u83 u84 u85 u86 u87 u88 u89 u90 u91 u92 u93 u94 u95 u96 u97 u98 u99 u100 u101 u102 u103 u104 u105 u106 u107 u108 u109 u110 u111 u112 u113 u114 u115 u116 u117 u118 u119 u120 u121 u122 u123 u124 u125 u126 u127 u128 u129 u130 u131 u132 u133 u134 u135 u136 u137 u138 u139 u140 u141 u142 u143 u144 u145 u146 u147 u148 u149 u150 u151 u152 u153 u154 u155 u156 u157 u158 u159 u160 u161 u162 u163 u164 u165 u166 : Value) : Code.wp Oaag.prog (sI (sI (sR (sL (sR (sR (sR (sR (sR (sI (sR (bodyOf Oaag.f254)))))))))))) (Exit.then
      (fun a' w' =>
        (∃ u5 u6 u7 u8 u9 u18 u19 u20 u21 u22 u23 u24 u25 u26 u27 u28 u29 u30 u31 u32 u33 u34 u35 u36 u37 u38 u39 u40
            u41 u42 u43 u44 u45 u46 u47 u48 u49 u50 u51 u52 u53 u54 u55 u56 u57 u58 u59 u60 u61 u62 u63 u64 u65 u66 u67
            u68 u69 u70 u71 u72 u73 u74 u75 u76 u77 u78 u79 u80 u81 u82 u83 u84 u85 u86 u87 u88 u89 u90 u91 u92 u93 u94
            u95 u96 u97 u98 u99 u100 u101 u102 u103 u104 u105 u106 u107 u108 u109 u110 u111 u112 u113 u114 u115 u116
            u117 u118 u119 u120 u121 u122 u123 u124 u125 u126 u127 u128 u129 u130 u131 u132 u133 u134 u135 u136 u137
            u138 u139 u140 u141 u142 u143 u144 u145 u146 u147 u148 u149 u150 u151 u152 u153 u154 u155 u156 u157 u158
            u159 u160 u161 u162 u163 u164 u165 u166,
            ScR tb w w.heap.size (w.heap.size + 1 + 1) (w.heap.size + 1 + 1 + 1) text mk V u5 u6 u7 w' ∧
              a' =
                {
                  tmps :=
                    #[Value.string text, undef, Value.pointer (some { block := w.heap.size, off := 0 }),
                      Value.pointer (some { block := w.heap.size + 1, off := 0 }),
                      Value.pointer (some { block := w.heap.size + 1 + 1, off := 0 }), u5, u6, u7, u8, u9,
                      Value.string text, Value.int IntKind.i64 (text.size : Int), Value.bool (decide (1024 < (text.size : Int))),
                      undef, Value.slice (some { block := w.heap.size + 1, off := 0 }) 0 40,
                      Value.agg
                        #[Value.bool false, Value.bool false,
                          Value.slice (some { block := w.heap.size + 1, off := 0 }) 0 40, Value.int IntKind.i64 0,
                          Value.int IntKind.i64 0],
                      Value.string text, Value.pointer (some { block := w.heap.size + 1 + 1 + 1, off := 0 }), u18, u19,
                      u20, u21, u22, u23, u24, u25, u26, u27, u28, u29, u30, u31, u32, u33, u34, u35, u36, u37, u38,
                      u39, u40, u41, u42, u43, u44, u45, u46, u47, u48, u49, u50, u51, u52, u53, u54, u55, u56, u57,
                      u58, u59, u60, u61, u62, u63, u64, u65, u66, u67, u68, u69, u70, u71, u72, u73, u74, u75, u76,
                      u77, u78, u79, u80, u81, u82, u83, u84, u85, u86, u87, u88, u89, u90, u91, u92, u93, u94, u95,
                      u96, u97, u98, u99, u100, u101, u102, u103, u104, u105, u106, u107, u108, u109, u110, u111, u112,
                      u113, u114, u115, u116, u117, u118, u119, u120, u121, u122, u123, u124, u125, u126, u127, u128,
                      u129, u130, u131, u132, u133, u134, u135, u136, u137, u138, u139, u140, u141, u142, u143, u144,
                      u145, u146, u147, u148, u149, u150, u151, u152, u153, u154, u155, u156, u157, u158, u159, u160,
                      u161, u162, u163, u164, u165, u166, undef, undef, undef, undef, undef, undef, undef],
                  defers := [] }) ∧
          text.size - w'.iterPos (w.heap.size + 1 + 1 + 1) < text.size - wr.iterPos (w.heap.size + 1 + 1 + 1))
      (Exit.inBlock 0 (Exit.then K1 (Exit.noGoto (bodyPost Oaag.prog Oaag.f254 K)))))
    {
      tmps :=
        #[Value.string text, undef, Value.pointer (some { block := w.heap.size, off := 0 }),
          Value.pointer (some { block := w.heap.size + 1, off := 0 }),
          Value.pointer (some { block := w.heap.size + 1 + 1, off := 0 }), Value.int IntKind.i64 ((2 : Nat) : Int), Value.string (wdOf wk), Value.int IntKind.i64 (at_ : Int), u8, u9, Value.string text,
          Value.int IntKind.i64 (text.size : Int), Value.bool (decide (1024 < (text.size : Int))), undef,
          Value.slice (some { block := w.heap.size + 1, off := 0 }) 0 40,
          Value.agg
            #[Value.bool false, Value.bool false, Value.slice (some { block := w.heap.size + 1, off := 0 }) 0 40,
              Value.int IntKind.i64 0, Value.int IntKind.i64 0],
          Value.string text, Value.pointer (some { block := w.heap.size + 1 + 1 + 1, off := 0 }), u18, u19, u20, u21,
          u22, u23, u24, u25, u26, u27, u28, u29, u30, u31, u32, u33, u34, u35, u36, u37, u38, u39, u40, u41, u42, u43,
          u44, u45, u46, u47, u48, u49, u50, u51, u52, u53, u54, u55, u56, u57, u58, u59, u60, u61, u62, u63, u64, u65,
          u66, u67, u68, u69, u70, u71, u72, u73, u74, u75, u76, u77, u78, u79, u80, u81, u82, u83, u84, u85, u86, u87,
          u88, u89, u90, u91, u92, u93, u94, u95, u96, u97, u98, u99, u100, u101, u102, u103, u104, u105, u106, u107,
          u108, u109, u110, u111, u112, u113, u114, u115, u116, u117, u118, u119, u120, u121, u122, u123, u124, u125,
          u126, u127, u128, u129, u130, u131, u132, u133, u134, u135, u136, u137, u138, u139, u140, u141, u142, u143,
          u144, u145, u146, u147, u148, u149, u150, u151, u152, u153, u154, u155, u156, u157, u158, u159, u160, u161,
          u162, u163, u164, u165, u166, undef, undef, undef, undef, undef, undef, undef],
      defers := [] }
    wr := by
  dsimp only [sL, sR, sI, bodyOf, Oaag.f254, Option.getD]
  have hnx := run_next_k (P := Oaag.prog) wr text pos _ 0 hS0.it hp
  have h1s := hS0.next ht (pos + (Utf8.decode text pos).2)
  have hln := decode_pos text pos hp
  have hrn := decode_le text pos
  rw [scanF_more mk text pos _ hp] at hV
  unfold dnxt at hV
  generalize (Utf8.decode text pos).1 = rn at *
  generalize (Utf8.decode text pos).2 = ln at *
  generalize ({ wr with heap := wr.heap.setIfInBounds (w.heap.size + 1 + 1 + 1) (.stringIter text (pos + ln)) } : World) = W1 at *
  obtain ⟨q, hq⟩ : ∃ q, bits .or .i32 (rn : Int) 32 = q := ⟨_, rfl⟩
  rw [hq] at hV
  have hown := h1s.row
  obtain ⟨pa, pc, rfl⟩ := rowX_sliceM hown
  dsimp only at hown h1s hS0
  have b0 := cell_of_row _ _ 0 _ _ _ h1s.bx
  have bf0 := frozen_of_row _ _ 0 _ _ h1s.bx
  have b1 := cell_of_row _ _ 1 _ _ _ h1s.bx
  have bf1 := frozen_of_row _ _ 1 _ _ h1s.bx
  have b2 := cell_of_row _ _ 2 _ _ _ h1s.bx
  have bf2 := frozen_of_row _ _ 2 _ _ h1s.bx
  have b3 := cell_of_row _ _ 3 _ _ _ h1s.bx
  have bf3 := frozen_of_row _ _ 3 _ _ h1s.bx
  have b4 := cell_of_row _ _ 4 _ _ _ h1s.bx
  have bf4 := frozen_of_row _ _ 4 _ _ h1s.bx
  have b5 := cell_of_row _ _ 5 _ _ _ h1s.bx
  have bf5 := frozen_of_row _ _ 5 _ _ h1s.bx
  have g0 := cell_of_row _ _ 0 _ _ _ h1s.ga
  have gf0 := frozen_of_row _ _ 0 _ _ h1s.ga
  have g1 := cell_of_row _ _ 1 _ _ _ h1s.ga
  have gf1 := frozen_of_row _ _ 1 _ _ h1s.ga
  have g2 := cell_of_row _ _ 2 _ _ _ h1s.ga
  have gf2 := frozen_of_row _ _ 2 _ _ h1s.ga
  have g3 := cell_of_row _ _ 3 _ _ _ h1s.ga
  have gf3 := frozen_of_row _ _ 3 _ _ h1s.ga
  have g4 := cell_of_row _ _ 4 _ _ _ h1s.ga
  have gf4 := frozen_of_row _ _ 4 _ _ h1s.ga
  simp only [List.getElem?_toArray, List.getElem?_cons_succ, List.getElem?_cons_zero] at b0 b1 b2 b3 b4 b5 g0 g1 g2 g3 g4
  have HS0 := hide hS0
  have HOWN := hide hown
  have HS1 := hide h1s
  clear hS0 hown h1s
  rcases (by omega : (48 ≤ (rn : Int) ∧ (rn : Int) ≤ 57) ∨ (rn : Int) < 48 ∨ 57 < (rn : Int)) with hdg | h48 | h57
  · obtain ⟨hd1, hd2⟩ := hdg
    have hdg : (48 ≤ (rn : Int) ∧ (rn : Int) ≤ 57) = True := eq_true ⟨hd1, hd2⟩
    simp only [dnxtQ, hdg, if_true, if_false, and_self, cond_true, cond_false] at hV
    go_wp2_with (first | (at_builtin; refine wpList_appX 119 5 (.int .u8 0) 1 info5 rfl NatW.u119 (by decide) rfl _ _ rfl (unhide HOWN) rfl (by (try rw [World.size_setCell]); rfl) (by rfl) (by simp only [List.length_map]; omega) (by have := (unhide HS1).lt; (try simp only [World.size_setCell]); omega) (by have := (unhide HS1).lt; rintro k hk (rfl | rfl) <;> (try simp only [World.size_setCell] at hk) <;> omega) ?_; intro v1 w1 ho1 hb1; obtain ⟨pa1, pc1, rfl⟩ := rowX_sliceA ho1; have o1 := (hb1.cell (.inl rfl) (by have := (unhide HS1).lt; (try simp only [World.size_setCell]); omega) 2).trans g2; have o2 : w1.frozen? ⟨w.heap.size + 1 + 1, 2, none⟩ = false := (hb1.frozen (.inl rfl) (by have := (unhide HS1).lt; (try simp only [World.size_setCell]); omega) 2).trans gf2; have HO1 := hide ho1; have HB1 := hide hb1; clear ho1 hb1))
    all_goals first
      | (exact ScR.on (unhide HS0) hp (by omega) (by omega) ((unhide HS1).app ht rn (unhide HO1) (unhide HB1) ⟨neg, eneg, (dig ++ [(rn : Int)]), frac, exp, 2, wk, at_⟩ rfl ⟨rfl, rfl, rfl, rfl⟩) rfl rfl (by first | rfl | simp) (by unfold Okk; dsimp only; refine ⟨by omega, by omega, by omega, by (try simp only [List.length_append, List.length_cons, List.length_nil]); omega, by omega, by omega⟩) hV)
      | fail
  · have hq6 := low_or rn (by omega)
    rw [hq] at hq6
    have hdg : (48 ≤ (rn : Int) ∧ (rn : Int) ≤ 57) = False := eq_false (by omega)
    have hq105 : (q == 105) = false := by apply beq_false_of_ne; omega
    have hq110 : (q == 110) = false := by apply beq_false_of_ne; omega
    have hq101 : (q == 101) = false := by apply beq_false_of_ne; omega
    obtain ⟨br46, hr46⟩ : ∃ bb, ((rn : Int) == 46) = bb := ⟨_, rfl⟩
    cases br46
    · simp only [dnxtQ, hdg, if_true, if_false, and_self, cond_true, cond_false, hq105, hq110, hq101, hr46] at hV
      go_wp2_with fail
      all_goals first
        | (refine bodyPost_box rfl ?_; intro r hr; simp [results, Oaag.results254, go_sem, b0, b1, b2, b3, b4, b5] at hr; subst hr; refine ⟨_, rfl, ?_⟩; rw [← hV] at HK; exact unhide HK _ (below_store (below_store (below_store (below_store (below_store (below_store ((unhide HS1).below) (unhide HS1).lt.1 _) (unhide HS1).lt.1 _) (unhide HS1).lt.1 _) (unhide HS1).lt.1 _) (unhide HS1).lt.1 _) (unhide HS1).lt.1 _))
        | fail
    · simp only [dnxtQ, hdg, if_true, if_false, and_self, cond_true, cond_false, hq105, hq110, hq101, hr46] at hV
      go_wp2_with fail
      all_goals first
        | (exact ScR.on (unhide HS0) hp (by omega) (by omega) ((show SW tb w _ _ _ text (pos + ln) ⟨neg, eneg, dig, frac, exp, 3, wk, at_⟩ _ W1 from ⟨(unhide HS1).on, (unhide HS1).below, (unhide HS1).lt, (unhide HS1).bx, (unhide HS1).ga, (unhide HS1).it, (unhide HS1).row⟩)) rfl rfl (by first | rfl | simp) (by unfold Okk; dsimp only; refine ⟨by omega, by omega, by omega, by (try simp only [List.length_append, List.length_cons, List.length_nil]); omega, by omega, by omega⟩) hV)
        | fail
  · have hdg : (48 ≤ (rn : Int) ∧ (rn : Int) ≤ 57) = False := eq_false (by omega)
    have hr43 : ((rn : Int) == 43) = false := by apply beq_false_of_ne; omega
    have hr45 : ((rn : Int) == 45) = false := by apply beq_false_of_ne; omega
    have hr46 : ((rn : Int) == 46) = false := by apply beq_false_of_ne; omega
    obtain ⟨bq101, hq101⟩ : ∃ bb, (q == 101) = bb := ⟨_, rfl⟩
    cases bq101
    · simp only [dnxtQ, hdg, if_true, if_false, and_self, cond_true, cond_false, hr43, hr45, hr46, hq101] at hV
      go_wp2_with fail
      all_goals first
        | (refine bodyPost_box rfl ?_; intro r hr; simp [results, Oaag.results254, go_sem, b0, b1, b2, b3, b4, b5] at hr; subst hr; refine ⟨_, rfl, ?_⟩; rw [← hV] at HK; exact unhide HK _ (below_store (below_store (below_store (below_store (below_store (below_store ((unhide HS1).below) (unhide HS1).lt.1 _) (unhide HS1).lt.1 _) (unhide HS1).lt.1 _) (unhide HS1).lt.1 _) (unhide HS1).lt.1 _) (unhide HS1).lt.1 _))
        | fail
    · simp only [dnxtQ, hdg, if_true, if_false, and_self, cond_true, cond_false, hr43, hr45, hr46, hq101] at hV
      go_wp2_with fail
      all_goals first
        | (exact ScR.on (unhide HS0) hp (by omega) (by omega) ((show SW tb w _ _ _ text (pos + ln) ⟨neg, eneg, dig, frac, exp, 6, wk, at_⟩ _ W1 from ⟨(unhide HS1).on, (unhide HS1).below, (unhide HS1).lt, (unhide HS1).bx, (unhide HS1).ga, (unhide HS1).it, (unhide HS1).row⟩)) rfl rfl (by first | rfl | simp) (by unfold Okk; dsimp only; refine ⟨by omega, by omega, by omega, by (try simp only [List.length_append, List.length_cons, List.length_nil]); omega, by omega, by omega⟩) hV)
        | fail
end Go.Proofs.YgcoaaGreat.NatW
