/-
  Package dmodel: number, with tape zero: Scan.
-/
import Derived.Test.YgcoaaGreatDmD
set_option linter.unusedVariables false
set_option linter.unusedSimpArgs false
set_option maxRecDepth 20000
namespace Go.Proofs.YgcoaaGreat.NatW
open Go.RowKit
open Go.Proofs.YgcoaaGreat.Det
attribute [local go_sem] Go.Instr.field Go.asAgg

set_option maxHeartbeats 2000000 in
theorem scan_sign (text : ByteArray) (hs : text.size ≤ 1024) (h0 : 0 < text.size) (sg : Bool) (hs1 : ((byt text 0 : Int) == 43) = sg) (hs2 : ((byt text 0 : Int) == 45) = !sg) (body : ByteArray) (hbody : text.extract 1 text.size = body) (hbs : 1 + body.size ≤ text.size) (n1 : Nat) (hn1 : n1 ≤ body.size) (hm1 : DF 363 #[.string body, .string ⟨#[105]⟩] (.int .i64 n1)) (n2 : Nat) (hn2 : n2 ≤ body.size) (hm2 : DF 363 #[.string body, .string ⟨#[105, 110, 102, 105, 110, 105, 116, 121]⟩] (.int .i64 n2)) (n3 : Nat) (hn3 : n3 ≤ body.size) (hm3 : DF 363 #[.string body, .string ⟨#[110]⟩] (.int .i64 n3)) (n4 : Nat) (hn4 : n4 ≤ body.size) (hm4 : DF 363 #[.string body, .string ⟨#[110, 97, 110]⟩] (.int .i64 n4)) (hnum : ∀ neg, TRet 365 #[.string text, .string body, .int .i64 1, .bool neg] NumR) : TRet 228 #[.string text] NumR := by
  intro w tb K ho ht hK
  have HK := hide hK
  clear hK
  have E := hide (Emp.new ho ht)
  clear ho ht
  have hts : text.size ≤ 1000000 := by omega
  replace hs : text.size ≤ 1024 := hs
  have i0 := index_str text 0 0 rfl h0
  have te := toList_empty text
  have hx00 : ¬ text.size = 0 := by omega
  simp only [hx00, decide_false] at te
  clear hx00
  cases sg
  all_goals simp only [Bool.not_true, Bool.not_false] at hs2
  all_goals
    go_enter Oaag.func228, Oaag.ntmps228
    go_wp2_with (first | (with_reducible refine DF.run hm1 (unhide E).on ?_; intro W2 hb; replace E := hide ((unhide E).later hb); clear hb; obtain ⟨_, _, _, lt, c0, f0, c1, f1, c2, f2, c3, f3, c4, f4, c5, f5⟩ := unhide E) | (with_reducible refine DF.run hm2 (unhide E).on ?_; intro W2 hb; replace E := hide ((unhide E).later hb); clear hb; obtain ⟨_, _, _, lt, c0, f0, c1, f1, c2, f2, c3, f3, c4, f4, c5, f5⟩ := unhide E) | (with_reducible refine DF.run hm3 (unhide E).on ?_; intro W2 hb; replace E := hide ((unhide E).later hb); clear hb; obtain ⟨_, _, _, lt, c0, f0, c1, f1, c2, f2, c3, f3, c4, f4, c5, f5⟩ := unhide E) | (with_reducible refine DF.run hm4 (unhide E).on ?_; intro W2 hb; replace E := hide ((unhide E).later hb); clear hb; obtain ⟨_, _, _, lt, c0, f0, c1, f1, c2, f2, c3, f3, c4, f4, c5, f5⟩ := unhide E) | (with_reducible refine ZRet.run (wrong_i text hts _ ?_ ?_) (unhide E).tape ?_; omega; omega; rintro _ W2 ⟨g, rfl⟩ hb; replace E := hide ((unhide E).later hb); clear hb; obtain ⟨_, _, _, lt, c0, f0, c1, f1, c2, f2, c3, f3, c4, f4, c5, f5⟩ := unhide E) | ((with_reducible refine TRet.run (hnum _) (unhide E).on (unhide E).tape ?_); rintro _ W2 ⟨k, nn, dd, ee, pp, gg, rfl, k1, k2, k3, k4, k5⟩ hb; replace E := hide ((unhide E).later hb); clear hb; obtain ⟨_, _, _, lt, c0, f0, c1, f1, c2, f2, c3, f3, c4, f4, c5, f5⟩ := unhide E; dsimp only [scanV]))
    all_goals first | ((with_reducible show bodyPost _ _ _ _ _ _); refine bodyPost_box rfl ?_; intro r hr; simp [results, Oaag.results228, go_sem, c0, c1, c2, c3, c4, c5] at hr; subst hr; refine ⟨_, rfl, ?_⟩; refine unhide HK _ _ ?_ (below_store (below_store (below_store (below_store (below_store (below_store ((unhide E).below) (Nat.le_refl _) _) (Nat.le_refl _) _) (Nat.le_refl _) _) (Nat.le_refl _) _) (Nat.le_refl _) _) (Nat.le_refl _) _); first | exact numR_wrong _ _ | exact numR_big | exact numR_inf _ | exact numR_nan | exact ⟨_, _, _, _, _, _, rfl, k1, k2, k3, k4, k5⟩) | fail

set_option maxHeartbeats 2000000 in
theorem scan_bare (text : ByteArray) (hs : text.size ≤ 1024) (h0 : 0 < text.size) (hs1 : ((byt text 0 : Int) == 43) = false) (hs2 : ((byt text 0 : Int) == 45) = false) (hbody : text.extract 0 text.size = text) (n1 : Nat) (hn1 : n1 ≤ text.size) (hm1 : DF 363 #[.string text, .string ⟨#[105]⟩] (.int .i64 n1)) (n2 : Nat) (hn2 : n2 ≤ text.size) (hm2 : DF 363 #[.string text, .string ⟨#[105, 110, 102, 105, 110, 105, 116, 121]⟩] (.int .i64 n2)) (n3 : Nat) (hn3 : n3 ≤ text.size) (hm3 : DF 363 #[.string text, .string ⟨#[110]⟩] (.int .i64 n3)) (n4 : Nat) (hn4 : n4 ≤ text.size) (hm4 : DF 363 #[.string text, .string ⟨#[110, 97, 110]⟩] (.int .i64 n4)) (hnum : ∀ neg, TRet 365 #[.string text, .string text, .int .i64 0, .bool neg] NumR) : TRet 228 #[.string text] NumR := by
  intro w tb K ho ht hK
  have HK := hide hK
  clear hK
  have E := hide (Emp.new ho ht)
  clear ho ht
  have hts : text.size ≤ 1000000 := by omega
  replace hs : text.size ≤ 1024 := hs
  have i0 := index_str text 0 0 rfl h0
  have te := toList_empty text
  have hx00 : ¬ text.size = 0 := by omega
  simp only [hx00, decide_false] at te
  clear hx00
  go_enter Oaag.func228, Oaag.ntmps228
  go_wp2_with (first | (with_reducible refine DF.run hm1 (unhide E).on ?_; intro W2 hb; replace E := hide ((unhide E).later hb); clear hb; obtain ⟨_, _, _, lt, c0, f0, c1, f1, c2, f2, c3, f3, c4, f4, c5, f5⟩ := unhide E) | (with_reducible refine DF.run hm2 (unhide E).on ?_; intro W2 hb; replace E := hide ((unhide E).later hb); clear hb; obtain ⟨_, _, _, lt, c0, f0, c1, f1, c2, f2, c3, f3, c4, f4, c5, f5⟩ := unhide E) | (with_reducible refine DF.run hm3 (unhide E).on ?_; intro W2 hb; replace E := hide ((unhide E).later hb); clear hb; obtain ⟨_, _, _, lt, c0, f0, c1, f1, c2, f2, c3, f3, c4, f4, c5, f5⟩ := unhide E) | (with_reducible refine DF.run hm4 (unhide E).on ?_; intro W2 hb; replace E := hide ((unhide E).later hb); clear hb; obtain ⟨_, _, _, lt, c0, f0, c1, f1, c2, f2, c3, f3, c4, f4, c5, f5⟩ := unhide E) | (with_reducible refine ZRet.run (wrong_i text hts _ ?_ ?_) (unhide E).tape ?_; omega; omega; rintro _ W2 ⟨g, rfl⟩ hb; replace E := hide ((unhide E).later hb); clear hb; obtain ⟨_, _, _, lt, c0, f0, c1, f1, c2, f2, c3, f3, c4, f4, c5, f5⟩ := unhide E) | ((with_reducible refine TRet.run (hnum _) (unhide E).on (unhide E).tape ?_); rintro _ W2 ⟨k, nn, dd, ee, pp, gg, rfl, k1, k2, k3, k4, k5⟩ hb; replace E := hide ((unhide E).later hb); clear hb; obtain ⟨_, _, _, lt, c0, f0, c1, f1, c2, f2, c3, f3, c4, f4, c5, f5⟩ := unhide E; dsimp only [scanV]))
  all_goals first | ((with_reducible show bodyPost _ _ _ _ _ _); refine bodyPost_box rfl ?_; intro r hr; simp [results, Oaag.results228, go_sem, c0, c1, c2, c3, c4, c5] at hr; subst hr; refine ⟨_, rfl, ?_⟩; refine unhide HK _ _ ?_ (below_store (below_store (below_store (below_store (below_store (below_store ((unhide E).below) (Nat.le_refl _) _) (Nat.le_refl _) _) (Nat.le_refl _) _) (Nat.le_refl _) _) (Nat.le_refl _) _) (Nat.le_refl _) _); first | exact numR_wrong _ _ | exact numR_big | exact numR_inf _ | exact numR_nan | exact ⟨_, _, _, _, _, _, rfl, k1, k2, k3, k4, k5⟩) | fail

set_option maxHeartbeats 2000000 in
theorem scan_none  (n1 : Nat) (hn1 : n1 ≤ 0) (hm1 : DF 363 #[.string ByteArray.empty, .string ⟨#[105]⟩] (.int .i64 n1)) (n2 : Nat) (hn2 : n2 ≤ 0) (hm2 : DF 363 #[.string ByteArray.empty, .string ⟨#[105, 110, 102, 105, 110, 105, 116, 121]⟩] (.int .i64 n2)) (n3 : Nat) (hn3 : n3 ≤ 0) (hm3 : DF 363 #[.string ByteArray.empty, .string ⟨#[110]⟩] (.int .i64 n3)) (n4 : Nat) (hn4 : n4 ≤ 0) (hm4 : DF 363 #[.string ByteArray.empty, .string ⟨#[110, 97, 110]⟩] (.int .i64 n4)) (hnum : ∀ neg, TRet 365 #[.string ⟨#[]⟩, .string ByteArray.empty, .int .i64 0, .bool neg] NumR) : TRet 228 #[.string ⟨#[]⟩] NumR := by
  intro w tb K ho ht hK
  have HK := hide hK
  clear hK
  have E := hide (Emp.new ho ht)
  clear ho ht
  go_enter Oaag.func228, Oaag.ntmps228
  go_wp2_with (first | (with_reducible refine DF.run hm1 (unhide E).on ?_; intro W2 hb; replace E := hide ((unhide E).later hb); clear hb; obtain ⟨_, _, _, lt, c0, f0, c1, f1, c2, f2, c3, f3, c4, f4, c5, f5⟩ := unhide E) | (with_reducible refine DF.run hm2 (unhide E).on ?_; intro W2 hb; replace E := hide ((unhide E).later hb); clear hb; obtain ⟨_, _, _, lt, c0, f0, c1, f1, c2, f2, c3, f3, c4, f4, c5, f5⟩ := unhide E) | (with_reducible refine DF.run hm3 (unhide E).on ?_; intro W2 hb; replace E := hide ((unhide E).later hb); clear hb; obtain ⟨_, _, _, lt, c0, f0, c1, f1, c2, f2, c3, f3, c4, f4, c5, f5⟩ := unhide E) | (with_reducible refine DF.run hm4 (unhide E).on ?_; intro W2 hb; replace E := hide ((unhide E).later hb); clear hb; obtain ⟨_, _, _, lt, c0, f0, c1, f1, c2, f2, c3, f3, c4, f4, c5, f5⟩ := unhide E) | (with_reducible refine ZRet.run (wrong_i ⟨#[]⟩ (Nat.zero_le _) _ ?_ ?_) (unhide E).tape ?_; (first | omega | exact Int.ofNat_nonneg _); (first | omega | exact Int.ofNat_le.2 (by omega)); rintro _ W2 ⟨g, rfl⟩ hb; replace E := hide ((unhide E).later hb); clear hb; obtain ⟨_, _, _, lt, c0, f0, c1, f1, c2, f2, c3, f3, c4, f4, c5, f5⟩ := unhide E) | ((with_reducible refine TRet.run (hnum _) (unhide E).on (unhide E).tape ?_); rintro _ W2 ⟨k, nn, dd, ee, pp, gg, rfl, k1, k2, k3, k4, k5⟩ hb; replace E := hide ((unhide E).later hb); clear hb; obtain ⟨_, _, _, lt, c0, f0, c1, f1, c2, f2, c3, f3, c4, f4, c5, f5⟩ := unhide E; dsimp only [scanV]))
  all_goals first | ((with_reducible show bodyPost _ _ _ _ _ _); refine bodyPost_box rfl ?_; intro r hr; simp [results, Oaag.results228, go_sem, c0, c1, c2, c3, c4, c5] at hr; subst hr; refine ⟨_, rfl, ?_⟩; refine unhide HK _ _ ?_ (below_store (below_store (below_store (below_store (below_store (below_store ((unhide E).below) (Nat.le_refl _) _) (Nat.le_refl _) _) (Nat.le_refl _) _) (Nat.le_refl _) _) (Nat.le_refl _) _) (Nat.le_refl _) _); first | exact numR_wrong _ _ | exact numR_big | exact numR_inf _ | exact numR_nan | exact ⟨_, _, _, _, _, _, rfl, k1, k2, k3, k4, k5⟩) | fail
end Go.Proofs.YgcoaaGreat.NatW
