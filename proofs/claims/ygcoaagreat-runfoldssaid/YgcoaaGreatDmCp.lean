/-
  Package dmodel: number, with tape zero: DmCp.
-/
import Derived.Test.YgcoaaGreatDmB
set_option linter.unusedVariables false
set_option linter.unusedSimpArgs false
set_option maxRecDepth 20000
namespace Go.Proofs.YgcoaaGreat.NatW
open Go.RowKit
open Go.Proofs.YgcoaaGreat.Det
attribute [local go_sem] Go.Instr.field Go.asAgg

set_option maxHeartbeats 2000000 in
theorem num_DmCp (text body : ByteArray) (head : Nat) (neg : Bool) (hs : text.size ≤ 100000) (hb : head + body.size ≤ text.size) (hcut : DF 417 #[.string body, .int .u8 101, .int .u8 69] (.int .i64 (-1))) (p : Nat) (hp : p < body.size) (hcut2 : DF 417 #[.string body, .int .u8 46, .int .u8 46] (.int .i64 p)) (ip fp : ByteArray) (hip : body.extract 0 p = ip) (hfp : body.extract (p + 1) body.size = fp) (z1 : ip.size ≤ p) (z2 : fp.size ≤ body.size - p - 1) (n1 : Nat) (hn1 : n1 ≤ ip.size) (hd1 : DF 418 #[.string ip] (.int .i64 n1)) (n2 : Nat) (hn2 : n2 ≤ (fp : ByteArray).size) (hd2 : DF 418 #[.string fp] (.int .i64 n2)) : TRet 365 #[.string text, .string body, .int .i64 head, .bool neg] NumR := by
  intro w tb K ho ht hK
  have HK := hide hK
  clear hK
  have E := hide (Emp.new ho ht)
  clear ho ht
  have hts : text.size ≤ 1000000 := by omega
  go_enter Oaag.func365, Oaag.ntmps365
  go_wp2_with (first | ((first | with_reducible refine at_reg 4 ?_ | with_reducible refine at_reg 8 ?_); refine wp_region_zero_list (unhide E).tape (by kernel_rfl) ?_; replace E := hide (unhide E).drew; obtain ⟨_, _, _, lt, c0, f0, c1, f1, c2, f2, c3, f3, c4, f4, c5, f5⟩ := unhide E) | (with_reducible refine DF.run hcut (unhide E).on ?_; intro W2 hb; replace E := hide ((unhide E).later hb); clear hb; obtain ⟨_, _, _, lt, c0, f0, c1, f1, c2, f2, c3, f3, c4, f4, c5, f5⟩ := unhide E) | (with_reducible refine DF.run hcut2 (unhide E).on ?_; intro W2 hb; replace E := hide ((unhide E).later hb); clear hb; obtain ⟨_, _, _, lt, c0, f0, c1, f1, c2, f2, c3, f3, c4, f4, c5, f5⟩ := unhide E) | (with_reducible refine DF.run hd1 (unhide E).on ?_; intro W2 hb; replace E := hide ((unhide E).later hb); clear hb; obtain ⟨_, _, _, lt, c0, f0, c1, f1, c2, f2, c3, f3, c4, f4, c5, f5⟩ := unhide E) | (with_reducible refine DF.run hd2 (unhide E).on ?_; intro W2 hb; replace E := hide ((unhide E).later hb); clear hb; obtain ⟨_, _, _, lt, c0, f0, c1, f1, c2, f2, c3, f3, c4, f4, c5, f5⟩ := unhide E) | (with_reducible refine ZRet.run (wrong_i text hts _ ?_ ?_) (unhide E).tape ?_; omega; omega; rintro _ W2 ⟨g, rfl⟩ hb; replace E := hide ((unhide E).later hb); clear hb; obtain ⟨_, _, _, lt, c0, f0, c1, f1, c2, f2, c3, f3, c4, f4, c5, f5⟩ := unhide E))
  all_goals first | ((with_reducible show bodyPost _ _ _ _ _ _); refine bodyPost_box rfl ?_; intro r hr; simp [results, Oaag.results365, go_sem, c0, c1, c2, c3, c4, c5] at hr; subst hr; refine ⟨_, rfl, ?_⟩; exact unhide HK _ _ (numR_wrong _ _) (below_store (below_store (below_store (below_store (below_store (below_store ((unhide E).below) (Nat.le_refl _) _) (Nat.le_refl _) _) (Nat.le_refl _) _) (Nat.le_refl _) _) (Nat.le_refl _) _) (Nat.le_refl _) _)) | skip
  all_goals
    with_reducible refine Ret.go (make_ret neg _ _ (by omega) (by omega) (sz_app _ _ (by first | omega | exact sz_nil) (by first | omega | exact sz_nil))) ?_
    rintro _ W2 ⟨n9, d9, e9, ok9, rfl, hcan⟩ hb
    replace E := hide ((unhide E).later hb)
    clear hb
    obtain ⟨_, _, _, lt, c0, f0, c1, f1, c2, f2, c3, f3, c4, f4, c5, f5⟩ := unhide E
    go_wp2_with fail
    all_goals
      refine bodyPost_box rfl ?_
      intro r hr
      simp [results, Oaag.results365, go_sem, c0, c1, c2, c3, c4, c5, lt] at hr
      subst hr
      refine ⟨_, rfl, ?_⟩
      refine unhide HK _ _ ?_ ((below_store (below_store (below_store (below_store (below_store (below_store ((unhide E).below) (Nat.le_refl _) _) (Nat.le_refl _) _) (Nat.le_refl _) _) (Nat.le_refl _) _) (Nat.le_refl _) _) (Nat.le_refl _) _).alloc (by simp only [World.size_setCell]; exact Nat.le_of_lt (unhide E).lt) _)
      first | exact numR_big | exact numR_fin _ hcan
end Go.Proofs.YgcoaaGreat.NatW
