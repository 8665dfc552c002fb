/-
  Package hmodel: Scan, with tape zero: HmCmp1.
-/
import Derived.Test.YgcoaaGreatHmB
set_option linter.unusedVariables false
set_option linter.unusedSimpArgs false
set_option maxRecDepth 20000
namespace Go.Proofs.YgcoaaGreat.NatW
open Go.RowKit
open Go.Proofs.YgcoaaGreat.Det
attribute [local go_sem] Go.Instr.field Go.asAgg

set_option maxHeartbeats 4000000 in
theorem hs_HmCmp1 (text : ByteArray) (hs : text.size ≤ 1024) (hs1 : ((byt text 0 : Int) == 43) = false) (hs2 : ((byt text 0 : Int) == 45) = true) (hl : 1 + 2 ≤ text.size) (h48 : ((byt text 1 : Int) == 48) = true) (q : Int) (hq : bits .or .u8 (byt text 2) 32 = q) (h120 : (q == 120) = true) (rest : ByteArray) (hrest : text.extract 3 text.size = rest) (hrs : rest.size + 3 ≤ text.size) (man ex : ByteArray) (hc1 : DF 369 #[.string rest, .int .u8 112, .int .u8 80] (.tuple #[.string man, .string ex, .bool true])) (hm : man.size + 1 + ex.size ≤ rest.size) (ip fp : ByteArray) (hc2 : DF 369 #[.string man, .int .u8 46, .int .u8 46] (.tuple #[.string ip, .string fp, .bool true])) (hif : ip.size + 1 + fp.size ≤ man.size) (n2 : Nat) (hn2 : n2 ≤ fp.size) (hr2 : DF 370 #[.string fp, .bool true] (.int .i64 n2)) (n1 : Nat) (hn1 : n1 ≤ ip.size) (hr1 : DF 370 #[.string ip, .bool true] (.int .i64 n1)) (hx0 : ex = ⟨#[]⟩) (hr3 : DF 370 #[.string ⟨#[]⟩, .bool false] (.int .i64 0)) : TRet 240 #[.string text] NumR := by
  intro w tb K ho ht hK
  have HK := hide hK
  clear hK
  have E := hide (Emh.new ho ht)
  clear ho ht
  have hts : text.size ≤ 1000000 := by omega
  have i0 := index_str text 0 0 rfl (by omega)
  have te := toList_empty text
  have hx00 : ¬ text.size = 0 := by omega
  simp only [hx00, decide_false] at te
  clear hx00
  have g1 : ((text.size : Int) == 1) = false := by apply beq_false_of_ne; omega
  have g2 : ((text.size : Int) == 2) = false := by apply beq_false_of_ne; omega
  have h48' : ((byt text 1 : Int) != 48) = false := by simp only [bne, h48, Bool.not_true]
  have h120' : (q != 120) = false := by simp only [bne, h120, Bool.not_true]
  have i2 := index_str text 2 2 rfl (by omega)
  have i1 := index_str text 1 1 rfl (by omega)
  subst hx0
  go_enter Oaag.func240, Oaag.ntmps240
  go_wp2_with (first | (with_reducible refine DF.run hc1 (unhide E).on ?_; intro W2 hb; replace E := hide ((unhide E).later hb); clear hb; obtain ⟨_, _, _, lt, c0, f0, c1, f1, c2, f2, c3, f3, c4, f4, c5, f5⟩ := unhide E) | (with_reducible refine DF.run hc2 (unhide E).on ?_; intro W2 hb; replace E := hide ((unhide E).later hb); clear hb; obtain ⟨_, _, _, lt, c0, f0, c1, f1, c2, f2, c3, f3, c4, f4, c5, f5⟩ := unhide E) | (with_reducible refine DF.run hr1 (unhide E).on ?_; intro W2 hb; replace E := hide ((unhide E).later hb); clear hb; obtain ⟨_, _, _, lt, c0, f0, c1, f1, c2, f2, c3, f3, c4, f4, c5, f5⟩ := unhide E) | (with_reducible refine DF.run hr2 (unhide E).on ?_; intro W2 hb; replace E := hide ((unhide E).later hb); clear hb; obtain ⟨_, _, _, lt, c0, f0, c1, f1, c2, f2, c3, f3, c4, f4, c5, f5⟩ := unhide E) | (with_reducible refine DF.run hr3 (unhide E).on ?_; intro W2 hb; replace E := hide ((unhide E).later hb); clear hb; obtain ⟨_, _, _, lt, c0, f0, c1, f1, c2, f2, c3, f3, c4, f4, c5, f5⟩ := unhide E) | (with_reducible refine ZRet.run (hwrong_i text hts _ ?_ ?_) (unhide E).tape ?_; omega; omega; rintro _ W2 ⟨g, rfl⟩ hb; replace E := hide ((unhide E).later hb); clear hb; obtain ⟨_, _, _, lt, c0, f0, c1, f1, c2, f2, c3, f3, c4, f4, c5, f5⟩ := unhide E))
  all_goals first | ((with_reducible show bodyPost _ _ _ _ _ _); refine bodyPost_box rfl ?_; intro r hr; simp [results, Oaag.results240, go_sem, c0, c1, c2, c3, c4, c5] at hr; subst hr; refine ⟨_, rfl, ?_⟩; exact unhide HK _ _ (numR_wrong _ _) (below_store (below_store (below_store (below_store (below_store (below_store ((unhide E).below) (Nat.le_refl _) _) (Nat.le_refl _) _) (Nat.le_refl _) _) (Nat.le_refl _) _) (Nat.le_refl _) _) (Nat.le_refl _) _)) | skip
end Go.Proofs.YgcoaaGreat.NatW
