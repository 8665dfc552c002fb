/-
  Package dmodel: number, with tape zero: DmCn3.
-/
import Derived.Test.YgcoaaGreatDmB
set_option linter.unusedVariables false
set_option linter.unusedSimpArgs false
set_option maxRecDepth 20000
namespace Go.Proofs.YgcoaaGreat.NatW
open Go.RowKit
open Go.Proofs.YgcoaaGreat.Det
attribute [local go_sem] Go.Instr.field Go.asAgg

set_option maxHeartbeats 2000000 in
theorem num_DmCn3 (text body : ByteArray) (head : Nat) (neg : Bool) (hs : text.size ≤ 100000) (hb : head + body.size ≤ text.size) (e : Nat) (he : e < body.size) (hcut : DF 417 #[.string body, .int .u8 101, .int .u8 69] (.int .i64 e)) (m x : ByteArray) (hm : body.extract 0 e = m) (hx : body.extract (e + 1) body.size = x) (y1 : m.size ≤ e) (y2 : x.size ≤ body.size - e - 1) (hcut2 : DF 417 #[.string m, .int .u8 46, .int .u8 46] (.int .i64 (-1))) (n1 : Nat) (hn1 : n1 ≤ m.size) (hd1 : DF 418 #[.string m] (.int .i64 n1)) (hd2 : DF 418 #[.string ⟨#[]⟩] (.int .i64 0)) (hx0 : 0 < x.size) (hs1 : ((byt x 0 : Int) == 43) = false) (hs2 : ((byt x 0 : Int) == 45) = true) (x1 : ByteArray) (hx1 : x.extract 1 x.size = x1) (y3 : x1.size ≤ x.size - 1) (n3 : Nat) (hn3 : n3 ≤ x1.size) (hd3 : DF 418 #[.string x1] (.int .i64 n3)) : TRet 365 #[.string text, .string body, .int .i64 head, .bool neg] NumR := by
  intro w tb K ho ht hK
  have HK := hide hK
  clear hK
  have E := hide (Emp.new ho ht)
  clear ho ht
  have hts : text.size ≤ 1000000 := by omega
  have i0 := index_str x 0 0 rfl hx0
  have te := toList_empty x
  have hx00 : ¬ x.size = 0 := by omega
  simp only [hx00, decide_false] at te
  clear hx00
  go_enter Oaag.func365, Oaag.ntmps365
  go_wp2_with (first | ((first | with_reducible refine at_reg 4 ?_ | with_reducible refine at_reg 8 ?_); refine wp_region_zero_list (unhide E).tape (by kernel_rfl) ?_; replace E := hide (unhide E).drew; obtain ⟨_, _, _, lt, c0, f0, c1, f1, c2, f2, c3, f3, c4, f4, c5, f5⟩ := unhide E) | (with_reducible refine DF.run hcut (unhide E).on ?_; intro W2 hb; replace E := hide ((unhide E).later hb); clear hb; obtain ⟨_, _, _, lt, c0, f0, c1, f1, c2, f2, c3, f3, c4, f4, c5, f5⟩ := unhide E) | (with_reducible refine DF.run hcut2 (unhide E).on ?_; intro W2 hb; replace E := hide ((unhide E).later hb); clear hb; obtain ⟨_, _, _, lt, c0, f0, c1, f1, c2, f2, c3, f3, c4, f4, c5, f5⟩ := unhide E) | (with_reducible refine DF.run hd1 (unhide E).on ?_; intro W2 hb; replace E := hide ((unhide E).later hb); clear hb; obtain ⟨_, _, _, lt, c0, f0, c1, f1, c2, f2, c3, f3, c4, f4, c5, f5⟩ := unhide E) | (with_reducible refine DF.run hd2 (unhide E).on ?_; intro W2 hb; replace E := hide ((unhide E).later hb); clear hb; obtain ⟨_, _, _, lt, c0, f0, c1, f1, c2, f2, c3, f3, c4, f4, c5, f5⟩ := unhide E) | (with_reducible refine DF.run hd3 (unhide E).on ?_; intro W2 hb; replace E := hide ((unhide E).later hb); clear hb; obtain ⟨_, _, _, lt, c0, f0, c1, f1, c2, f2, c3, f3, c4, f4, c5, f5⟩ := unhide E) | (with_reducible refine ZRet.run (wrong_i text hts _ ?_ ?_) (unhide E).tape ?_; omega; omega; rintro _ W2 ⟨g, rfl⟩ hb; replace E := hide ((unhide E).later hb); clear hb; obtain ⟨_, _, _, lt, c0, f0, c1, f1, c2, f2, c3, f3, c4, f4, c5, f5⟩ := unhide E))
  all_goals first | ((with_reducible show bodyPost _ _ _ _ _ _); refine bodyPost_box rfl ?_; intro r hr; simp [results, Oaag.results365, go_sem, c0, c1, c2, c3, c4, c5] at hr; subst hr; refine ⟨_, rfl, ?_⟩; exact unhide HK _ _ (numR_wrong _ _) (below_store (below_store (below_store (below_store (below_store (below_store ((unhide E).below) (Nat.le_refl _) _) (Nat.le_refl _) _) (Nat.le_refl _) _) (Nat.le_refl _) _) (Nat.le_refl _) _) (Nat.le_refl _) _)) | skip
  all_goals
    go_loop [18, 22] (fun a b => ∃ xx i : Nat, a = .int .i64 xx ∧ b = .int .i64 i ∧ xx ≤ 1000000 ∧ i ≤ x1.size) (fun _ b => x1.size - (intOf b).toNat)
    case atStart => exact ⟨0, 0, rfl, rfl, by omega, by omega⟩
    case round =>
      obtain ⟨xx, i, rfl, rfl, hxx, hi⟩ := hrel
      by_cases hl : i < x1.size
      · have hix := index_str x1 i i rfl hl
        have hbt := byt_lt x1 i
        obtain ⟨c, hc, hc2⟩ : ∃ c : Nat, (((byt x1 i : Int) - 48) % 256) = c ∧ c < 256 := ⟨(((byt x1 i : Int) - 48) % 256).toNat, by omega, by omega⟩
        go_wp2_with fail
        all_goals first
          | exact ⟨⟨if 1000000 < 10 * xx + c then 1000000 else 10 * xx + c, i + 1, by congr 1; split <;> split <;> omega, by simp, by split <;> omega, by omega⟩, by simp only [intOf]; omega⟩
          | fail
      · go_wp2_with fail
        with_reducible refine Ret.go (make_ret neg _ _ (by omega) (by omega) (sz_app _ _ (by first | omega | exact sz_nil) (by first | omega | exact sz_nil))) ?_
        rintro _ W2 ⟨n9, d9, e9, ok9, rfl, hcan⟩ hb
        replace E := hide ((unhide E).later hb)
        clear hb
        obtain ⟨_, _, _, lt, c0, f0, c1, f1, c2, f2, c3, f3, c4, f4, c5, f5⟩ := unhide E
        go_wp2_with fail
        all_goals
          refine bodyPost_box rfl ?_
          intro r hr
          simp [results, Oaag.results365, go_sem, c0, c1, c2, c3, c4, c5, lt] at hr
          subst hr
          refine ⟨_, rfl, ?_⟩
          refine unhide HK _ _ ?_ ((below_store (below_store (below_store (below_store (below_store (below_store ((unhide E).below) (Nat.le_refl _) _) (Nat.le_refl _) _) (Nat.le_refl _) _) (Nat.le_refl _) _) (Nat.le_refl _) _) (Nat.le_refl _) _).alloc (by simp only [World.size_setCell]; exact Nat.le_of_lt (unhide E).lt) _)
          first | exact numR_big | exact numR_fin _ hcan
end Go.Proofs.YgcoaaGreat.NatW
