/-
  Package dmodel: number, with tape zero: the whole; Scan.
-/
import Derived.Test.YgcoaaGreatDmCn
import Derived.Test.YgcoaaGreatDmCn0
import Derived.Test.YgcoaaGreatDmCn1
import Derived.Test.YgcoaaGreatDmCn2
import Derived.Test.YgcoaaGreatDmCn3
import Derived.Test.YgcoaaGreatDmCp
import Derived.Test.YgcoaaGreatDmCp0
import Derived.Test.YgcoaaGreatDmCp1
import Derived.Test.YgcoaaGreatDmCp2
import Derived.Test.YgcoaaGreatDmCp3
set_option linter.unusedVariables false
set_option linter.unusedSimpArgs false
set_option maxRecDepth 20000
namespace Go.Proofs.YgcoaaGreat.NatW
open Go.RowKit
open Go.Proofs.YgcoaaGreat.Det
attribute [local go_sem] Go.Instr.field Go.asAgg

theorem empty_of {x : ByteArray} (h : x.size = 0) : x = ⟨#[]⟩ := by
  obtain ⟨d⟩ := x
  have : d = #[] := Array.eq_empty_of_size_eq_zero h
  rw [this]
theorem digits_nil : DF 418 #[.string ⟨#[]⟩] (.int .i64 0) := by
  obtain ⟨n, hn, h⟩ := digits_df ⟨#[]⟩ (Nat.zero_le _)
  have : n = 0 := Nat.le_zero.1 hn
  subst this
  exact h

theorem number_t (text body : ByteArray) (head : Nat) (neg : Bool) (hs : text.size ≤ 100000) (hb : head + body.size ≤ text.size) : TRet 365 #[.string text, .string body, .int .i64 head, .bool neg] NumR := by
  obtain ⟨e, e1, e2, hcut⟩ := cut_df body (by omega) 101 69
  by_cases he : 0 ≤ e
  · obtain ⟨E, rfl⟩ := Int.eq_ofNat_of_zero_le he
    have y1 : (body.extract 0 E).size ≤ E := by rw [ByteArray.size_extract]; omega
    have y2 : (body.extract (E + 1) body.size).size ≤ body.size - E - 1 := by rw [ByteArray.size_extract]; omega
    have hE : E < body.size := by omega
    obtain ⟨m, hm⟩ : ∃ m, body.extract 0 E = m := ⟨_, rfl⟩
    obtain ⟨x, hx⟩ : ∃ x, body.extract (E + 1) body.size = x := ⟨_, rfl⟩
    rw [hm] at y1
    rw [hx] at y2
    obtain ⟨p, p1, p2, hcut2⟩ := cut_df m (by omega) 46 46
    have hsx : x = ⟨#[]⟩ ∨ (0 < x.size ∧ ((byt x 0 : Int) == 43) = false ∧ ((byt x 0 : Int) == 45) = false) ∨ (0 < x.size ∧ ((byt x 0 : Int) == 43) = true ∧ ((byt x 0 : Int) == 45) = false) ∨ (0 < x.size ∧ ((byt x 0 : Int) == 43) = false ∧ ((byt x 0 : Int) == 45) = true) := by
      by_cases h0 : x.size = 0
      · exact .inl (empty_of h0)
      · have h0' : 0 < x.size := by omega
        by_cases h1 : (byt x 0 : Int) = 43
        · exact .inr (.inr (.inl ⟨h0', by rw [h1]; decide, by rw [h1]; decide⟩))
        · by_cases h2 : (byt x 0 : Int) = 45
          · exact .inr (.inr (.inr ⟨h0', by rw [h2]; decide, by rw [h2]; decide⟩))
          · exact .inr (.inl ⟨h0', beq_false_of_ne h1, beq_false_of_ne h2⟩)
    by_cases hp : 0 ≤ p
    · obtain ⟨P, rfl⟩ := Int.eq_ofNat_of_zero_le hp
      have z1 : (m.extract 0 P).size ≤ P := by rw [ByteArray.size_extract]; omega
      have z2 : (m.extract (P + 1) m.size).size ≤ m.size - P - 1 := by rw [ByteArray.size_extract]; omega
      have hP : P < m.size := by omega
      obtain ⟨n1, hn1, hd1⟩ := digits_df (m.extract 0 P) (by omega)
      obtain ⟨n2, hn2, hd2⟩ := digits_df (m.extract (P + 1) m.size) (by omega)
      rcases hsx with hx0 | ⟨hx0, h1, h2⟩ | ⟨hx0, h1, h2⟩ | ⟨hx0, h1, h2⟩
      · exact num_DmCp0 text body head neg hs hb E hE hcut m x hm hx y1 y2 P hP hcut2 _ _ rfl rfl z1 z2 n1 hn1 hd1 n2 hn2 hd2 hx0 digits_nil
      · obtain ⟨n3, hn3, hd3⟩ := digits_df x (by omega)
        exact num_DmCp1 text body head neg hs hb E hE hcut m x hm hx y1 y2 P hP hcut2 _ _ rfl rfl z1 z2 n1 hn1 hd1 n2 hn2 hd2 hx0 h1 h2 n3 hn3 hd3
      all_goals
        have y3 : (x.extract 1 x.size).size ≤ x.size - 1 := by rw [ByteArray.size_extract]; omega
        obtain ⟨n3, hn3, hd3⟩ := digits_df (x.extract 1 x.size) (by omega)
        first
          | exact num_DmCp2 text body head neg hs hb E hE hcut m x hm hx y1 y2 P hP hcut2 _ _ rfl rfl z1 z2 n1 hn1 hd1 n2 hn2 hd2 hx0 h1 h2 _ rfl y3 n3 hn3 hd3
          | exact num_DmCp3 text body head neg hs hb E hE hcut m x hm hx y1 y2 P hP hcut2 _ _ rfl rfl z1 z2 n1 hn1 hd1 n2 hn2 hd2 hx0 h1 h2 _ rfl y3 n3 hn3 hd3
    · have hp1 : p = -1 := by omega
      subst hp1
      obtain ⟨n1, hn1, hd1⟩ := digits_df m (by omega)
      rcases hsx with hx0 | ⟨hx0, h1, h2⟩ | ⟨hx0, h1, h2⟩ | ⟨hx0, h1, h2⟩
      · exact num_DmCn0 text body head neg hs hb E hE hcut m x hm hx y1 y2 hcut2 n1 hn1 hd1 digits_nil hx0 digits_nil
      · obtain ⟨n3, hn3, hd3⟩ := digits_df x (by omega)
        exact num_DmCn1 text body head neg hs hb E hE hcut m x hm hx y1 y2 hcut2 n1 hn1 hd1 digits_nil hx0 h1 h2 n3 hn3 hd3
      all_goals
        have y3 : (x.extract 1 x.size).size ≤ x.size - 1 := by rw [ByteArray.size_extract]; omega
        obtain ⟨n3, hn3, hd3⟩ := digits_df (x.extract 1 x.size) (by omega)
        first
          | exact num_DmCn2 text body head neg hs hb E hE hcut m x hm hx y1 y2 hcut2 n1 hn1 hd1 digits_nil hx0 h1 h2 _ rfl y3 n3 hn3 hd3
          | exact num_DmCn3 text body head neg hs hb E hE hcut m x hm hx y1 y2 hcut2 n1 hn1 hd1 digits_nil hx0 h1 h2 _ rfl y3 n3 hn3 hd3
  · have he1 : e = -1 := by omega
    subst he1
    obtain ⟨p, p1, p2, hcut2⟩ := cut_df body (by omega) 46 46
    by_cases hp : 0 ≤ p
    · obtain ⟨P, rfl⟩ := Int.eq_ofNat_of_zero_le hp
      have z1 : (body.extract 0 P).size ≤ P := by rw [ByteArray.size_extract]; omega
      have z2 : (body.extract (P + 1) body.size).size ≤ body.size - P - 1 := by rw [ByteArray.size_extract]; omega
      have hP : P < body.size := by omega
      obtain ⟨n1, hn1, hd1⟩ := digits_df (body.extract 0 P) (by omega)
      obtain ⟨n2, hn2, hd2⟩ := digits_df (body.extract (P + 1) body.size) (by omega)
      exact num_DmCp text body head neg hs hb hcut P hP hcut2 _ _ rfl rfl z1 z2 n1 hn1 hd1 n2 hn2 hd2
    · have hp1 : p = -1 := by omega
      subst hp1
      obtain ⟨n1, hn1, hd1⟩ := digits_df body (by omega)
      exact num_DmCn text body head neg hs hb hcut hcut2 n1 hn1 hd1 digits_nil

theorem numR_inf (n : Bool) : NumR (scanV 1 n ⟨#[]⟩ 0 0 0) := ⟨1, n, ⟨#[]⟩, 0, 0, 0, rfl, by decide, by decide, by decide, by decide, by decide⟩
theorem numR_nan : NumR (scanV 2 false ⟨#[]⟩ 0 0 0) := ⟨2, false, ⟨#[]⟩, 0, 0, 0, rfl, by decide, by decide, by decide, by decide, by decide⟩
theorem matched_i (s v : ByteArray) (hs : s.size ≤ 1000000) (hv : v.size ≤ 1000000) : ∃ n : Nat, n ≤ s.size ∧ DF 363 #[.string s, .string v] (.int .i64 n) := by
  obtain ⟨n, h1, _, h⟩ := matched_df s v hs hv
  exact ⟨n, h1, h⟩
end Go.Proofs.YgcoaaGreat.NatW
