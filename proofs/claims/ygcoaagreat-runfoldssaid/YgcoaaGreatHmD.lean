/-
  Package hmodel: Scan, with tape zero: texts that go wrong at their head.
-/
import Derived.Test.YgcoaaGreatHmB
set_option linter.unusedVariables false
set_option linter.unusedSimpArgs false
set_option maxRecDepth 20000
namespace Go.Proofs.YgcoaaGreat.NatW
open Go.RowKit
open Go.Proofs.YgcoaaGreat.Det
attribute [local go_sem] Go.Instr.field Go.asAgg

set_option maxHeartbeats 2000000 in
theorem hbad_none_c (text : ByteArray) (hs : text.size ≤ 1024) (h0 : 0 < text.size) (hs1 : ((byt text 0 : Int) == 43) = false) (hs2 : ((byt text 0 : Int) == 45) = false) (hl : 0 + 1 ≤ text.size) (h48 : ((byt text 0 : Int) == 48) = false) : TRet 240 #[.string text] NumR := by
  intro w tb K ho ht hK
  have HK := hide hK
  clear hK
  have E := hide (Emh.new ho ht)
  clear ho ht
  have hts : text.size ≤ 1000000 := by omega
  have i0 := index_str text 0 0 rfl (by omega)
  have te := toList_empty text
  have hx00 : ¬ text.size = 0 := by omega
  simp only [hx00, decide_false] at te
  clear hx00
  have g1 : ((text.size : Int) == 0) = false := by apply beq_false_of_ne; omega
  have h48' : ((byt text 0 : Int) != 48) = true := by simp only [bne, h48, Bool.not_false]
  go_enter Oaag.func240, Oaag.ntmps240
  go_wp2_with (first | (with_reducible refine ZRet.run (hwrong_i text hts _ ?_ ?_) (unhide E).tape ?_; omega; omega; rintro _ W2 ⟨g, rfl⟩ hb; replace E := hide ((unhide E).later hb); clear hb; obtain ⟨_, _, _, lt, c0, f0, c1, f1, c2, f2, c3, f3, c4, f4, c5, f5⟩ := unhide E))
  all_goals first | ((with_reducible show bodyPost _ _ _ _ _ _); refine bodyPost_box rfl ?_; intro r hr; simp [results, Oaag.results240, go_sem, c0, c1, c2, c3, c4, c5] at hr; subst hr; refine ⟨_, rfl, ?_⟩; exact unhide HK _ _ (numR_wrong _ _) (below_store (below_store (below_store (below_store (below_store (below_store ((unhide E).below) (Nat.le_refl _) _) (Nat.le_refl _) _) (Nat.le_refl _) _) (Nat.le_refl _) _) (Nat.le_refl _) _) (Nat.le_refl _) _)) | fail

set_option maxHeartbeats 2000000 in
theorem hbad_none_d (text : ByteArray) (hs : text.size ≤ 1024) (h0 : 0 < text.size) (hs1 : ((byt text 0 : Int) == 43) = false) (hs2 : ((byt text 0 : Int) == 45) = false) (hl : text.size = 0 + 1) (h48 : ((byt text 0 : Int) == 48) = true) : TRet 240 #[.string text] NumR := by
  intro w tb K ho ht hK
  have HK := hide hK
  clear hK
  have E := hide (Emh.new ho ht)
  clear ho ht
  have hts : text.size ≤ 1000000 := by omega
  have i0 := index_str text 0 0 rfl (by omega)
  have te := toList_empty text
  have hx00 : ¬ text.size = 0 := by omega
  simp only [hx00, decide_false] at te
  clear hx00
  have g1 : ((text.size : Int) == 0) = false := by apply beq_false_of_ne; omega
  have g2 : ((text.size : Int) == 1) = true := by rw [hl]; decide
  have h48' : ((byt text 0 : Int) != 48) = false := by simp only [bne, h48, Bool.not_true]
  have hll : text.size ≤ 1 ∧ 1 ≤ text.size := by omega
  clear hl
  obtain ⟨hl1, hl2⟩ := hll
  go_enter Oaag.func240, Oaag.ntmps240
  go_wp2_with (first | (with_reducible refine ZRet.run (hwrong_i text hts _ ?_ ?_) (unhide E).tape ?_; omega; omega; rintro _ W2 ⟨g, rfl⟩ hb; replace E := hide ((unhide E).later hb); clear hb; obtain ⟨_, _, _, lt, c0, f0, c1, f1, c2, f2, c3, f3, c4, f4, c5, f5⟩ := unhide E))
  all_goals first | ((with_reducible show bodyPost _ _ _ _ _ _); refine bodyPost_box rfl ?_; intro r hr; simp [results, Oaag.results240, go_sem, c0, c1, c2, c3, c4, c5] at hr; subst hr; refine ⟨_, rfl, ?_⟩; exact unhide HK _ _ (numR_wrong _ _) (below_store (below_store (below_store (below_store (below_store (below_store ((unhide E).below) (Nat.le_refl _) _) (Nat.le_refl _) _) (Nat.le_refl _) _) (Nat.le_refl _) _) (Nat.le_refl _) _) (Nat.le_refl _) _)) | fail

set_option maxHeartbeats 2000000 in
theorem hbad_none_e (text : ByteArray) (hs : text.size ≤ 1024) (h0 : 0 < text.size) (hs1 : ((byt text 0 : Int) == 43) = false) (hs2 : ((byt text 0 : Int) == 45) = false) (hl : 0 + 2 ≤ text.size) (h48 : ((byt text 0 : Int) == 48) = true) (q : Int) (hq : bits .or .u8 (byt text 1) 32 = q) (h120 : (q == 120) = false) : TRet 240 #[.string text] NumR := by
  intro w tb K ho ht hK
  have HK := hide hK
  clear hK
  have E := hide (Emh.new ho ht)
  clear ho ht
  have hts : text.size ≤ 1000000 := by omega
  have i0 := index_str text 0 0 rfl (by omega)
  have te := toList_empty text
  have hx00 : ¬ text.size = 0 := by omega
  simp only [hx00, decide_false] at te
  clear hx00
  have g1 : ((text.size : Int) == 0) = false := by apply beq_false_of_ne; omega
  have g2 : ((text.size : Int) == 1) = false := by apply beq_false_of_ne; omega
  have h48' : ((byt text 0 : Int) != 48) = false := by simp only [bne, h48, Bool.not_true]
  have h120' : (q != 120) = true := by simp only [bne, h120, Bool.not_false]
  have i2 := index_str text 1 1 rfl (by omega)
  go_enter Oaag.func240, Oaag.ntmps240
  go_wp2_with (first | (with_reducible refine ZRet.run (hwrong_i text hts _ ?_ ?_) (unhide E).tape ?_; omega; omega; rintro _ W2 ⟨g, rfl⟩ hb; replace E := hide ((unhide E).later hb); clear hb; obtain ⟨_, _, _, lt, c0, f0, c1, f1, c2, f2, c3, f3, c4, f4, c5, f5⟩ := unhide E))
  all_goals first | ((with_reducible show bodyPost _ _ _ _ _ _); refine bodyPost_box rfl ?_; intro r hr; simp [results, Oaag.results240, go_sem, c0, c1, c2, c3, c4, c5] at hr; subst hr; refine ⟨_, rfl, ?_⟩; exact unhide HK _ _ (numR_wrong _ _) (below_store (below_store (below_store (below_store (below_store (below_store ((unhide E).below) (Nat.le_refl _) _) (Nat.le_refl _) _) (Nat.le_refl _) _) (Nat.le_refl _) _) (Nat.le_refl _) _) (Nat.le_refl _) _)) | fail

set_option maxHeartbeats 2000000 in
theorem hbad_plus_b (text : ByteArray) (hs : text.size ≤ 1024) (h0 : 0 < text.size) (hs1 : ((byt text 0 : Int) == 43) = true) (hs2 : ((byt text 0 : Int) == 45) = false) (hl : text.size = 1) : TRet 240 #[.string text] NumR := by
  intro w tb K ho ht hK
  have HK := hide hK
  clear hK
  have E := hide (Emh.new ho ht)
  clear ho ht
  have hts : text.size ≤ 1000000 := by omega
  have i0 := index_str text 0 0 rfl (by omega)
  have te := toList_empty text
  have hx00 : ¬ text.size = 0 := by omega
  simp only [hx00, decide_false] at te
  clear hx00
  have g1 : ((text.size : Int) == 1) = true := by rw [hl]; decide
  have hll : text.size ≤ 1 ∧ 1 ≤ text.size := by omega
  clear hl
  obtain ⟨hl1, hl2⟩ := hll
  go_enter Oaag.func240, Oaag.ntmps240
  go_wp2_with (first | (with_reducible refine ZRet.run (hwrong_i text hts _ ?_ ?_) (unhide E).tape ?_; omega; omega; rintro _ W2 ⟨g, rfl⟩ hb; replace E := hide ((unhide E).later hb); clear hb; obtain ⟨_, _, _, lt, c0, f0, c1, f1, c2, f2, c3, f3, c4, f4, c5, f5⟩ := unhide E))
  all_goals first | ((with_reducible show bodyPost _ _ _ _ _ _); refine bodyPost_box rfl ?_; intro r hr; simp [results, Oaag.results240, go_sem, c0, c1, c2, c3, c4, c5] at hr; subst hr; refine ⟨_, rfl, ?_⟩; exact unhide HK _ _ (numR_wrong _ _) (below_store (below_store (below_store (below_store (below_store (below_store ((unhide E).below) (Nat.le_refl _) _) (Nat.le_refl _) _) (Nat.le_refl _) _) (Nat.le_refl _) _) (Nat.le_refl _) _) (Nat.le_refl _) _)) | fail

set_option maxHeartbeats 2000000 in
theorem hbad_plus_c (text : ByteArray) (hs : text.size ≤ 1024) (h0 : 0 < text.size) (hs1 : ((byt text 0 : Int) == 43) = true) (hs2 : ((byt text 0 : Int) == 45) = false) (hl : 1 + 1 ≤ text.size) (h48 : ((byt text 1 : Int) == 48) = false) : TRet 240 #[.string text] NumR := by
  intro w tb K ho ht hK
  have HK := hide hK
  clear hK
  have E := hide (Emh.new ho ht)
  clear ho ht
  have hts : text.size ≤ 1000000 := by omega
  have i0 := index_str text 0 0 rfl (by omega)
  have te := toList_empty text
  have hx00 : ¬ text.size = 0 := by omega
  simp only [hx00, decide_false] at te
  clear hx00
  have g1 : ((text.size : Int) == 1) = false := by apply beq_false_of_ne; omega
  have h48' : ((byt text 1 : Int) != 48) = true := by simp only [bne, h48, Bool.not_false]
  have i1 := index_str text 1 1 rfl (by omega)
  go_enter Oaag.func240, Oaag.ntmps240
  go_wp2_with (first | (with_reducible refine ZRet.run (hwrong_i text hts _ ?_ ?_) (unhide E).tape ?_; omega; omega; rintro _ W2 ⟨g, rfl⟩ hb; replace E := hide ((unhide E).later hb); clear hb; obtain ⟨_, _, _, lt, c0, f0, c1, f1, c2, f2, c3, f3, c4, f4, c5, f5⟩ := unhide E))
  all_goals first | ((with_reducible show bodyPost _ _ _ _ _ _); refine bodyPost_box rfl ?_; intro r hr; simp [results, Oaag.results240, go_sem, c0, c1, c2, c3, c4, c5] at hr; subst hr; refine ⟨_, rfl, ?_⟩; exact unhide HK _ _ (numR_wrong _ _) (below_store (below_store (below_store (below_store (below_store (below_store ((unhide E).below) (Nat.le_refl _) _) (Nat.le_refl _) _) (Nat.le_refl _) _) (Nat.le_refl _) _) (Nat.le_refl _) _) (Nat.le_refl _) _)) | fail

set_option maxHeartbeats 2000000 in
theorem hbad_plus_d (text : ByteArray) (hs : text.size ≤ 1024) (h0 : 0 < text.size) (hs1 : ((byt text 0 : Int) == 43) = true) (hs2 : ((byt text 0 : Int) == 45) = false) (hl : text.size = 1 + 1) (h48 : ((byt text 1 : Int) == 48) = true) : TRet 240 #[.string text] NumR := by
  intro w tb K ho ht hK
  have HK := hide hK
  clear hK
  have E := hide (Emh.new ho ht)
  clear ho ht
  have hts : text.size ≤ 1000000 := by omega
  have i0 := index_str text 0 0 rfl (by omega)
  have te := toList_empty text
  have hx00 : ¬ text.size = 0 := by omega
  simp only [hx00, decide_false] at te
  clear hx00
  have g1 : ((text.size : Int) == 1) = false := by apply beq_false_of_ne; omega
  have g2 : ((text.size : Int) == 2) = true := by rw [hl]; decide
  have h48' : ((byt text 1 : Int) != 48) = false := by simp only [bne, h48, Bool.not_true]
  have i1 := index_str text 1 1 rfl (by omega)
  have hll : text.size ≤ 2 ∧ 2 ≤ text.size := by omega
  clear hl
  obtain ⟨hl1, hl2⟩ := hll
  go_enter Oaag.func240, Oaag.ntmps240
  go_wp2_with (first | (with_reducible refine ZRet.run (hwrong_i text hts _ ?_ ?_) (unhide E).tape ?_; omega; omega; rintro _ W2 ⟨g, rfl⟩ hb; replace E := hide ((unhide E).later hb); clear hb; obtain ⟨_, _, _, lt, c0, f0, c1, f1, c2, f2, c3, f3, c4, f4, c5, f5⟩ := unhide E))
  all_goals first | ((with_reducible show bodyPost _ _ _ _ _ _); refine bodyPost_box rfl ?_; intro r hr; simp [results, Oaag.results240, go_sem, c0, c1, c2, c3, c4, c5] at hr; subst hr; refine ⟨_, rfl, ?_⟩; exact unhide HK _ _ (numR_wrong _ _) (below_store (below_store (below_store (below_store (below_store (below_store ((unhide E).below) (Nat.le_refl _) _) (Nat.le_refl _) _) (Nat.le_refl _) _) (Nat.le_refl _) _) (Nat.le_refl _) _) (Nat.le_refl _) _)) | fail

set_option maxHeartbeats 2000000 in
theorem hbad_plus_e (text : ByteArray) (hs : text.size ≤ 1024) (h0 : 0 < text.size) (hs1 : ((byt text 0 : Int) == 43) = true) (hs2 : ((byt text 0 : Int) == 45) = false) (hl : 1 + 2 ≤ text.size) (h48 : ((byt text 1 : Int) == 48) = true) (q : Int) (hq : bits .or .u8 (byt text 2) 32 = q) (h120 : (q == 120) = false) : TRet 240 #[.string text] NumR := by
  intro w tb K ho ht hK
  have HK := hide hK
  clear hK
  have E := hide (Emh.new ho ht)
  clear ho ht
  have hts : text.size ≤ 1000000 := by omega
  have i0 := index_str text 0 0 rfl (by omega)
  have te := toList_empty text
  have hx00 : ¬ text.size = 0 := by omega
  simp only [hx00, decide_false] at te
  clear hx00
  have g1 : ((text.size : Int) == 1) = false := by apply beq_false_of_ne; omega
  have g2 : ((text.size : Int) == 2) = false := by apply beq_false_of_ne; omega
  have h48' : ((byt text 1 : Int) != 48) = false := by simp only [bne, h48, Bool.not_true]
  have h120' : (q != 120) = true := by simp only [bne, h120, Bool.not_false]
  have i2 := index_str text 2 2 rfl (by omega)
  have i1 := index_str text 1 1 rfl (by omega)
  go_enter Oaag.func240, Oaag.ntmps240
  go_wp2_with (first | (with_reducible refine ZRet.run (hwrong_i text hts _ ?_ ?_) (unhide E).tape ?_; omega; omega; rintro _ W2 ⟨g, rfl⟩ hb; replace E := hide ((unhide E).later hb); clear hb; obtain ⟨_, _, _, lt, c0, f0, c1, f1, c2, f2, c3, f3, c4, f4, c5, f5⟩ := unhide E))
  all_goals first | ((with_reducible show bodyPost _ _ _ _ _ _); refine bodyPost_box rfl ?_; intro r hr; simp [results, Oaag.results240, go_sem, c0, c1, c2, c3, c4, c5] at hr; subst hr; refine ⟨_, rfl, ?_⟩; exact unhide HK _ _ (numR_wrong _ _) (below_store (below_store (below_store (below_store (below_store (below_store ((unhide E).below) (Nat.le_refl _) _) (Nat.le_refl _) _) (Nat.le_refl _) _) (Nat.le_refl _) _) (Nat.le_refl _) _) (Nat.le_refl _) _)) | fail

set_option maxHeartbeats 2000000 in
theorem hbad_minus_b (text : ByteArray) (hs : text.size ≤ 1024) (h0 : 0 < text.size) (hs1 : ((byt text 0 : Int) == 43) = false) (hs2 : ((byt text 0 : Int) == 45) = true) (hl : text.size = 1) : TRet 240 #[.string text] NumR := by
  intro w tb K ho ht hK
  have HK := hide hK
  clear hK
  have E := hide (Emh.new ho ht)
  clear ho ht
  have hts : text.size ≤ 1000000 := by omega
  have i0 := index_str text 0 0 rfl (by omega)
  have te := toList_empty text
  have hx00 : ¬ text.size = 0 := by omega
  simp only [hx00, decide_false] at te
  clear hx00
  have g1 : ((text.size : Int) == 1) = true := by rw [hl]; decide
  have hll : text.size ≤ 1 ∧ 1 ≤ text.size := by omega
  clear hl
  obtain ⟨hl1, hl2⟩ := hll
  go_enter Oaag.func240, Oaag.ntmps240
  go_wp2_with (first | (with_reducible refine ZRet.run (hwrong_i text hts _ ?_ ?_) (unhide E).tape ?_; omega; omega; rintro _ W2 ⟨g, rfl⟩ hb; replace E := hide ((unhide E).later hb); clear hb; obtain ⟨_, _, _, lt, c0, f0, c1, f1, c2, f2, c3, f3, c4, f4, c5, f5⟩ := unhide E))
  all_goals first | ((with_reducible show bodyPost _ _ _ _ _ _); refine bodyPost_box rfl ?_; intro r hr; simp [results, Oaag.results240, go_sem, c0, c1, c2, c3, c4, c5] at hr; subst hr; refine ⟨_, rfl, ?_⟩; exact unhide HK _ _ (numR_wrong _ _) (below_store (below_store (below_store (below_store (below_store (below_store ((unhide E).below) (Nat.le_refl _) _) (Nat.le_refl _) _) (Nat.le_refl _) _) (Nat.le_refl _) _) (Nat.le_refl _) _) (Nat.le_refl _) _)) | fail

set_option maxHeartbeats 2000000 in
theorem hbad_minus_c (text : ByteArray) (hs : text.size ≤ 1024) (h0 : 0 < text.size) (hs1 : ((byt text 0 : Int) == 43) = false) (hs2 : ((byt text 0 : Int) == 45) = true) (hl : 1 + 1 ≤ text.size) (h48 : ((byt text 1 : Int) == 48) = false) : TRet 240 #[.string text] NumR := by
  intro w tb K ho ht hK
  have HK := hide hK
  clear hK
  have E := hide (Emh.new ho ht)
  clear ho ht
  have hts : text.size ≤ 1000000 := by omega
  have i0 := index_str text 0 0 rfl (by omega)
  have te := toList_empty text
  have hx00 : ¬ text.size = 0 := by omega
  simp only [hx00, decide_false] at te
  clear hx00
  have g1 : ((text.size : Int) == 1) = false := by apply beq_false_of_ne; omega
  have h48' : ((byt text 1 : Int) != 48) = true := by simp only [bne, h48, Bool.not_false]
  have i1 := index_str text 1 1 rfl (by omega)
  go_enter Oaag.func240, Oaag.ntmps240
  go_wp2_with (first | (with_reducible refine ZRet.run (hwrong_i text hts _ ?_ ?_) (unhide E).tape ?_; omega; omega; rintro _ W2 ⟨g, rfl⟩ hb; replace E := hide ((unhide E).later hb); clear hb; obtain ⟨_, _, _, lt, c0, f0, c1, f1, c2, f2, c3, f3, c4, f4, c5, f5⟩ := unhide E))
  all_goals first | ((with_reducible show bodyPost _ _ _ _ _ _); refine bodyPost_box rfl ?_; intro r hr; simp [results, Oaag.results240, go_sem, c0, c1, c2, c3, c4, c5] at hr; subst hr; refine ⟨_, rfl, ?_⟩; exact unhide HK _ _ (numR_wrong _ _) (below_store (below_store (below_store (below_store (below_store (below_store ((unhide E).below) (Nat.le_refl _) _) (Nat.le_refl _) _) (Nat.le_refl _) _) (Nat.le_refl _) _) (Nat.le_refl _) _) (Nat.le_refl _) _)) | fail

set_option maxHeartbeats 2000000 in
theorem hbad_minus_d (text : ByteArray) (hs : text.size ≤ 1024) (h0 : 0 < text.size) (hs1 : ((byt text 0 : Int) == 43) = false) (hs2 : ((byt text 0 : Int) == 45) = true) (hl : text.size = 1 + 1) (h48 : ((byt text 1 : Int) == 48) = true) : TRet 240 #[.string text] NumR := by
  intro w tb K ho ht hK
  have HK := hide hK
  clear hK
  have E := hide (Emh.new ho ht)
  clear ho ht
  have hts : text.size ≤ 1000000 := by omega
  have i0 := index_str text 0 0 rfl (by omega)
  have te := toList_empty text
  have hx00 : ¬ text.size = 0 := by omega
  simp only [hx00, decide_false] at te
  clear hx00
  have g1 : ((text.size : Int) == 1) = false := by apply beq_false_of_ne; omega
  have g2 : ((text.size : Int) == 2) = true := by rw [hl]; decide
  have h48' : ((byt text 1 : Int) != 48) = false := by simp only [bne, h48, Bool.not_true]
  have i1 := index_str text 1 1 rfl (by omega)
  have hll : text.size ≤ 2 ∧ 2 ≤ text.size := by omega
  clear hl
  obtain ⟨hl1, hl2⟩ := hll
  go_enter Oaag.func240, Oaag.ntmps240
  go_wp2_with (first | (with_reducible refine ZRet.run (hwrong_i text hts _ ?_ ?_) (unhide E).tape ?_; omega; omega; rintro _ W2 ⟨g, rfl⟩ hb; replace E := hide ((unhide E).later hb); clear hb; obtain ⟨_, _, _, lt, c0, f0, c1, f1, c2, f2, c3, f3, c4, f4, c5, f5⟩ := unhide E))
  all_goals first | ((with_reducible show bodyPost _ _ _ _ _ _); refine bodyPost_box rfl ?_; intro r hr; simp [results, Oaag.results240, go_sem, c0, c1, c2, c3, c4, c5] at hr; subst hr; refine ⟨_, rfl, ?_⟩; exact unhide HK _ _ (numR_wrong _ _) (below_store (below_store (below_store (below_store (below_store (below_store ((unhide E).below) (Nat.le_refl _) _) (Nat.le_refl _) _) (Nat.le_refl _) _) (Nat.le_refl _) _) (Nat.le_refl _) _) (Nat.le_refl _) _)) | fail

set_option maxHeartbeats 2000000 in
theorem hbad_minus_e (text : ByteArray) (hs : text.size ≤ 1024) (h0 : 0 < text.size) (hs1 : ((byt text 0 : Int) == 43) = false) (hs2 : ((byt text 0 : Int) == 45) = true) (hl : 1 + 2 ≤ text.size) (h48 : ((byt text 1 : Int) == 48) = true) (q : Int) (hq : bits .or .u8 (byt text 2) 32 = q) (h120 : (q == 120) = false) : TRet 240 #[.string text] NumR := by
  intro w tb K ho ht hK
  have HK := hide hK
  clear hK
  have E := hide (Emh.new ho ht)
  clear ho ht
  have hts : text.size ≤ 1000000 := by omega
  have i0 := index_str text 0 0 rfl (by omega)
  have te := toList_empty text
  have hx00 : ¬ text.size = 0 := by omega
  simp only [hx00, decide_false] at te
  clear hx00
  have g1 : ((text.size : Int) == 1) = false := by apply beq_false_of_ne; omega
  have g2 : ((text.size : Int) == 2) = false := by apply beq_false_of_ne; omega
  have h48' : ((byt text 1 : Int) != 48) = false := by simp only [bne, h48, Bool.not_true]
  have h120' : (q != 120) = true := by simp only [bne, h120, Bool.not_false]
  have i2 := index_str text 2 2 rfl (by omega)
  have i1 := index_str text 1 1 rfl (by omega)
  go_enter Oaag.func240, Oaag.ntmps240
  go_wp2_with (first | (with_reducible refine ZRet.run (hwrong_i text hts _ ?_ ?_) (unhide E).tape ?_; omega; omega; rintro _ W2 ⟨g, rfl⟩ hb; replace E := hide ((unhide E).later hb); clear hb; obtain ⟨_, _, _, lt, c0, f0, c1, f1, c2, f2, c3, f3, c4, f4, c5, f5⟩ := unhide E))
  all_goals first | ((with_reducible show bodyPost _ _ _ _ _ _); refine bodyPost_box rfl ?_; intro r hr; simp [results, Oaag.results240, go_sem, c0, c1, c2, c3, c4, c5] at hr; subst hr; refine ⟨_, rfl, ?_⟩; exact unhide HK _ _ (numR_wrong _ _) (below_store (below_store (below_store (below_store (below_store (below_store ((unhide E).below) (Nat.le_refl _) _) (Nat.le_refl _) _) (Nat.le_refl _) _) (Nat.le_refl _) _) (Nat.le_refl _) _) (Nat.le_refl _) _)) | fail

set_option maxHeartbeats 2000000 in
theorem hbad_empty : TRet 240 #[.string ⟨#[]⟩] NumR := by
  intro w tb K ho ht hK
  have HK := hide hK
  clear hK
  have E := hide (Emh.new ho ht)
  clear ho ht
  go_enter Oaag.func240, Oaag.ntmps240
  go_wp2_with (first | (with_reducible refine ZRet.run (hwrong_i ⟨#[]⟩ (Nat.zero_le _) _ (by decide) (by decide)) (unhide E).tape ?_; rintro _ W2 ⟨g, rfl⟩ hb; replace E := hide ((unhide E).later hb); clear hb; obtain ⟨_, _, _, lt, c0, f0, c1, f1, c2, f2, c3, f3, c4, f4, c5, f5⟩ := unhide E))
  all_goals first | ((with_reducible show bodyPost _ _ _ _ _ _); refine bodyPost_box rfl ?_; intro r hr; simp [results, Oaag.results240, go_sem, c0, c1, c2, c3, c4, c5] at hr; subst hr; refine ⟨_, rfl, ?_⟩; exact unhide HK _ _ (numR_wrong _ _) (below_store (below_store (below_store (below_store (below_store (below_store ((unhide E).below) (Nat.le_refl _) _) (Nat.le_refl _) _) (Nat.le_refl _) _) (Nat.le_refl _) _) (Nat.le_refl _) _) (Nat.le_refl _) _)) | fail
set_option maxHeartbeats 2000000 in
theorem hbad_big (text : ByteArray) (hs : 1024 < text.size) : TRet 240 #[.string text] NumR := by
  intro w tb K ho ht hK
  have HK := hide hK
  clear hK
  go_enter Oaag.func240, Oaag.ntmps240
  go_wp2_with fail
  refine bodyPost_box rfl ?_
  intro r hr
  simp [results, Oaag.results240, go_sem] at hr
  subst hr
  refine ⟨_, rfl, ?_⟩
  exact unhide HK _ _ numR_big ((Below.refl _ _).alloc (Nat.le_refl _) _)
end Go.Proofs.YgcoaaGreat.NatW
