/-
  Package dmodel: number, with tape zero: DmCn0.
-/
import Derived.Test.YgcoaaGreatDmB
set_option linter.unusedVariables false
set_option linter.unusedSimpArgs false
set_option maxRecDepth 20000
namespace Go.Proofs.YgcoaaGreat.NatW
open Go.RowKit
open Go.Proofs.YgcoaaGreat.Det
attribute [local go_sem] Go.Instr.field Go.asAgg

set_option maxHeartbeats 2000000 in
theorem num_DmCn0 (text body : ByteArray) (head : Nat) (neg : Bool) (hs : text.size ≤ 100000) (hb : head + body.size ≤ text.size) (e : Nat) (he : e < body.size) (hcut : DF 417 #[.string body, .int .u8 101, .int .u8 69] (.int .i64 e)) (m x : ByteArray) (hm : body.extract 0 e = m) (hx : body.extract (e + 1) body.size = x) (y1 : m.size ≤ e) (y2 : x.size ≤ body.size - e - 1) (hcut2 : DF 417 #[.string m, .int .u8 46, .int .u8 46] (.int .i64 (-1))) (n1 : Nat) (hn1 : n1 ≤ m.size) (hd1 : DF 418 #[.string m] (.int .i64 n1)) (hd2 : DF 418 #[.string ⟨#[]⟩] (.int .i64 0)) (hx0 : x = ⟨#[]⟩) (hd3 : DF 418 #[.string ⟨#[]⟩] (.int .i64 0)) : TRet 365 #[.string text, .string body, .int .i64 head, .bool neg] NumR := by
  intro w tb K ho ht hK
  have HK := hide hK
  clear hK
  have E := hide (Emp.new ho ht)
  clear ho ht
  have hts : text.size ≤ 1000000 := by omega
  subst hx0
  go_enter Oaag.func365, Oaag.ntmps365
  go_wp2_with (first | ((first | with_reducible refine at_reg 4 ?_ | with_reducible refine at_reg 8 ?_); refine wp_region_zero_list (unhide E).tape (by kernel_rfl) ?_; replace E := hide (unhide E).drew; obtain ⟨_, _, _, lt, c0, f0, c1, f1, c2, f2, c3, f3, c4, f4, c5, f5⟩ := unhide E) | (with_reducible refine DF.run hcut (unhide E).on ?_; intro W2 hb; replace E := hide ((unhide E).later hb); clear hb; obtain ⟨_, _, _, lt, c0, f0, c1, f1, c2, f2, c3, f3, c4, f4, c5, f5⟩ := unhide E) | (with_reducible refine DF.run hcut2 (unhide E).on ?_; intro W2 hb; replace E := hide ((unhide E).later hb); clear hb; obtain ⟨_, _, _, lt, c0, f0, c1, f1, c2, f2, c3, f3, c4, f4, c5, f5⟩ := unhide E) | (with_reducible refine DF.run hd1 (unhide E).on ?_; intro W2 hb; replace E := hide ((unhide E).later hb); clear hb; obtain ⟨_, _, _, lt, c0, f0, c1, f1, c2, f2, c3, f3, c4, f4, c5, f5⟩ := unhide E) | (with_reducible refine DF.run hd2 (unhide E).on ?_; intro W2 hb; replace E := hide ((unhide E).later hb); clear hb; obtain ⟨_, _, _, lt, c0, f0, c1, f1, c2, f2, c3, f3, c4, f4, c5, f5⟩ := unhide E) | (with_reducible refine DF.run hd3 (unhide E).on ?_; intro W2 hb; replace E := hide ((unhide E).later hb); clear hb; obtain ⟨_, _, _, lt, c0, f0, c1, f1, c2, f2, c3, f3, c4, f4, c5, f5⟩ := unhide E) | (with_reducible refine ZRet.run (wrong_i text hts _ ?_ ?_) (unhide E).tape ?_; omega; omega; rintro _ W2 ⟨g, rfl⟩ hb; replace E := hide ((unhide E).later hb); clear hb; obtain ⟨_, _, _, lt, c0, f0, c1, f1, c2, f2, c3, f3, c4, f4, c5, f5⟩ := unhide E))
  all_goals first | ((with_reducible show bodyPost _ _ _ _ _ _); refine bodyPost_box rfl ?_; intro r hr; simp [results, Oaag.results365, go_sem, c0, c1, c2, c3, c4, c5] at hr; subst hr; refine ⟨_, rfl, ?_⟩; exact unhide HK _ _ (numR_wrong _ _) (below_store (below_store (below_store (below_store (below_store (below_store ((unhide E).below) (Nat.le_refl _) _) (Nat.le_refl _) _) (Nat.le_refl _) _) (Nat.le_refl _) _) (Nat.le_refl _) _) (Nat.le_refl _) _)) | skip
end Go.Proofs.YgcoaaGreat.NatW
