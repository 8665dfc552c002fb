/-
  Package hmodel: Scan, with tape zero: the whole.
-/
import Derived.Test.YgcoaaGreatHmD
import Derived.Test.YgcoaaGreatDmD
import Derived.Test.YgcoaaGreatHmCnn0
import Derived.Test.YgcoaaGreatHmCnn1
import Derived.Test.YgcoaaGreatHmCnn2
import Derived.Test.YgcoaaGreatHmCnn3
import Derived.Test.YgcoaaGreatHmCnn4
import Derived.Test.YgcoaaGreatHmCnp0
import Derived.Test.YgcoaaGreatHmCnp1
import Derived.Test.YgcoaaGreatHmCnp2
import Derived.Test.YgcoaaGreatHmCnp3
import Derived.Test.YgcoaaGreatHmCnp4
import Derived.Test.YgcoaaGreatHmCpn0
import Derived.Test.YgcoaaGreatHmCpn1
import Derived.Test.YgcoaaGreatHmCpn2
import Derived.Test.YgcoaaGreatHmCpn3
import Derived.Test.YgcoaaGreatHmCpn4
import Derived.Test.YgcoaaGreatHmCpp0
import Derived.Test.YgcoaaGreatHmCpp1
import Derived.Test.YgcoaaGreatHmCpp2
import Derived.Test.YgcoaaGreatHmCpp3
import Derived.Test.YgcoaaGreatHmCpp4
import Derived.Test.YgcoaaGreatHmCmn0
import Derived.Test.YgcoaaGreatHmCmn1
import Derived.Test.YgcoaaGreatHmCmn2
import Derived.Test.YgcoaaGreatHmCmn3
import Derived.Test.YgcoaaGreatHmCmn4
import Derived.Test.YgcoaaGreatHmCmp0
import Derived.Test.YgcoaaGreatHmCmp1
import Derived.Test.YgcoaaGreatHmCmp2
import Derived.Test.YgcoaaGreatHmCmp3
import Derived.Test.YgcoaaGreatHmCmp4
set_option linter.unusedVariables false
set_option linter.unusedSimpArgs false
set_option maxRecDepth 20000
namespace Go.Proofs.YgcoaaGreat.NatW
open Go.RowKit
open Go.Proofs.YgcoaaGreat.Det
attribute [local go_sem] Go.Instr.field Go.asAgg

theorem hrun_nil (b : Bool) : DF 370 #[.string ⟨#[]⟩, .bool b] (.int .i64 0) := by
  obtain ⟨n, hn, h⟩ := hrun_df ⟨#[]⟩ (Nat.zero_le _) b
  have : n = 0 := Nat.le_zero.1 hn
  subst this
  exact h
theorem sign3 (x : ByteArray) : x = ⟨#[]⟩ ∨ (0 < x.size ∧ ((byt x 0 : Int) == 43) = false ∧ ((byt x 0 : Int) == 45) = false) ∨ (0 < x.size ∧ ((byt x 0 : Int) == 43) = true ∧ ((byt x 0 : Int) == 45) = false) ∨ (0 < x.size ∧ ((byt x 0 : Int) == 43) = false ∧ ((byt x 0 : Int) == 45) = true) := by
  by_cases h0 : x.size = 0
  · exact .inl (empty_of h0)
  · have h0' : 0 < x.size := by omega
    by_cases h1 : (byt x 0 : Int) = 43
    · exact .inr (.inr (.inl ⟨h0', by rw [h1]; decide, by rw [h1]; decide⟩))
    · by_cases h2 : (byt x 0 : Int) = 45
      · exact .inr (.inr (.inr ⟨h0', by rw [h2]; decide, by rw [h2]; decide⟩))
      · exact .inr (.inl ⟨h0', beq_false_of_ne h1, beq_false_of_ne h2⟩)

theorem hall_none (text : ByteArray) (hs : text.size ≤ 1024) (h0 : 0 < text.size) (hs1 : ((byt text 0 : Int) == 43) = false) (hs2 : ((byt text 0 : Int) == 45) = false) : TRet 240 #[.string text] NumR := by
  obtain ⟨b48, h48⟩ : ∃ bb, ((byt text 0 : Int) == 48) = bb := ⟨_, rfl⟩
  cases b48
  · exact hbad_none_c text hs h0 hs1 hs2 (by omega) h48
  by_cases hd : text.size = 0 + 1
  · exact hbad_none_d text hs h0 hs1 hs2 hd h48
  obtain ⟨b120, h120⟩ : ∃ bb, (bits .or .u8 (byt text 1) 32 == 120) = bb := ⟨_, rfl⟩
  cases b120
  · exact hbad_none_e text hs h0 hs1 hs2 (by omega) h48 _ rfl h120
  have hrs : (text.extract 2 text.size).size + 2 ≤ text.size := by rw [ByteArray.size_extract]; omega
  obtain ⟨man, ex, he, hc1, hh1⟩ := hcut_df (text.extract 2 text.size) (by omega) 112 80
  have hms : man.size ≤ (text.extract 2 text.size).size := by
    rcases hh1 with ⟨_, h, _⟩ | ⟨_, h⟩
    · rw [h]; exact Nat.le_refl _
    · omega
  obtain ⟨ip, fp, hp, hc2, hh2⟩ := hcut_df man (by omega) 46 46
  rcases hh2 with ⟨rfl, rfl, rfl⟩ | ⟨rfl, hif⟩
  · obtain ⟨n1, hn1, hr1⟩ := hrun_df ip (by omega) true
    rcases hh1 with ⟨rfl, hx, rfl⟩ | ⟨rfl, hm⟩
    · exact hs_HmCnn0 text hs hs1 hs2 (by omega) h48 _ rfl h120 _ rfl hrs ip _ hc1 hms hc2 (hrun_nil true) n1 hn1 hr1
    · rcases sign3 ex with hx0 | ⟨hx0, e1, e2⟩ | ⟨hx0, e1, e2⟩ | ⟨hx0, e1, e2⟩
      · exact hs_HmCnn1 text hs hs1 hs2 (by omega) h48 _ rfl h120 _ rfl hrs ip ex hc1 (by omega) hc2 (hrun_nil true) n1 hn1 hr1 hx0 (hrun_nil false)
      · obtain ⟨n3, hn3, hr3⟩ := hrun_df ex (by omega) false
        exact hs_HmCnn2 text hs hs1 hs2 (by omega) h48 _ rfl h120 _ rfl hrs ip ex hc1 (by omega) hc2 (hrun_nil true) n1 hn1 hr1 hx0 e1 e2 n3 hn3 hr3
      all_goals
        have y3 : (ex.extract 1 ex.size).size ≤ ex.size - 1 := by rw [ByteArray.size_extract]; omega
        obtain ⟨n3, hn3, hr3⟩ := hrun_df (ex.extract 1 ex.size) (by omega) false
        first
          | exact hs_HmCnn3 text hs hs1 hs2 (by omega) h48 _ rfl h120 _ rfl hrs ip ex hc1 (by omega) hc2 (hrun_nil true) n1 hn1 hr1 hx0 e1 e2 _ rfl y3 n3 hn3 hr3
          | exact hs_HmCnn4 text hs hs1 hs2 (by omega) h48 _ rfl h120 _ rfl hrs ip ex hc1 (by omega) hc2 (hrun_nil true) n1 hn1 hr1 hx0 e1 e2 _ rfl y3 n3 hn3 hr3
  · obtain ⟨n1, hn1, hr1⟩ := hrun_df ip (by omega) true
    obtain ⟨n2, hn2, hr2⟩ := hrun_df fp (by omega) true
    rcases hh1 with ⟨rfl, hx, rfl⟩ | ⟨rfl, hm⟩
    · exact hs_HmCnp0 text hs hs1 hs2 (by omega) h48 _ rfl h120 _ rfl hrs man _ hc1 hms ip fp hc2 (by omega) n2 hn2 hr2 n1 hn1 hr1
    · rcases sign3 ex with hx0 | ⟨hx0, e1, e2⟩ | ⟨hx0, e1, e2⟩ | ⟨hx0, e1, e2⟩
      · exact hs_HmCnp1 text hs hs1 hs2 (by omega) h48 _ rfl h120 _ rfl hrs man ex hc1 (by omega) ip fp hc2 (by omega) n2 hn2 hr2 n1 hn1 hr1 hx0 (hrun_nil false)
      · obtain ⟨n3, hn3, hr3⟩ := hrun_df ex (by omega) false
        exact hs_HmCnp2 text hs hs1 hs2 (by omega) h48 _ rfl h120 _ rfl hrs man ex hc1 (by omega) ip fp hc2 (by omega) n2 hn2 hr2 n1 hn1 hr1 hx0 e1 e2 n3 hn3 hr3
      all_goals
        have y3 : (ex.extract 1 ex.size).size ≤ ex.size - 1 := by rw [ByteArray.size_extract]; omega
        obtain ⟨n3, hn3, hr3⟩ := hrun_df (ex.extract 1 ex.size) (by omega) false
        first
          | exact hs_HmCnp3 text hs hs1 hs2 (by omega) h48 _ rfl h120 _ rfl hrs man ex hc1 (by omega) ip fp hc2 (by omega) n2 hn2 hr2 n1 hn1 hr1 hx0 e1 e2 _ rfl y3 n3 hn3 hr3
          | exact hs_HmCnp4 text hs hs1 hs2 (by omega) h48 _ rfl h120 _ rfl hrs man ex hc1 (by omega) ip fp hc2 (by omega) n2 hn2 hr2 n1 hn1 hr1 hx0 e1 e2 _ rfl y3 n3 hn3 hr3

theorem hall_plus (text : ByteArray) (hs : text.size ≤ 1024) (h0 : 0 < text.size) (hs1 : ((byt text 0 : Int) == 43) = true) (hs2 : ((byt text 0 : Int) == 45) = false) : TRet 240 #[.string text] NumR := by
  by_cases hb : text.size = 1
  · exact hbad_plus_b text hs h0 hs1 hs2 hb
  obtain ⟨b48, h48⟩ : ∃ bb, ((byt text 1 : Int) == 48) = bb := ⟨_, rfl⟩
  cases b48
  · exact hbad_plus_c text hs h0 hs1 hs2 (by omega) h48
  by_cases hd : text.size = 1 + 1
  · exact hbad_plus_d text hs h0 hs1 hs2 hd h48
  obtain ⟨b120, h120⟩ : ∃ bb, (bits .or .u8 (byt text 2) 32 == 120) = bb := ⟨_, rfl⟩
  cases b120
  · exact hbad_plus_e text hs h0 hs1 hs2 (by omega) h48 _ rfl h120
  have hrs : (text.extract 3 text.size).size + 3 ≤ text.size := by rw [ByteArray.size_extract]; omega
  obtain ⟨man, ex, he, hc1, hh1⟩ := hcut_df (text.extract 3 text.size) (by omega) 112 80
  have hms : man.size ≤ (text.extract 3 text.size).size := by
    rcases hh1 with ⟨_, h, _⟩ | ⟨_, h⟩
    · rw [h]; exact Nat.le_refl _
    · omega
  obtain ⟨ip, fp, hp, hc2, hh2⟩ := hcut_df man (by omega) 46 46
  rcases hh2 with ⟨rfl, rfl, rfl⟩ | ⟨rfl, hif⟩
  · obtain ⟨n1, hn1, hr1⟩ := hrun_df ip (by omega) true
    rcases hh1 with ⟨rfl, hx, rfl⟩ | ⟨rfl, hm⟩
    · exact hs_HmCpn0 text hs hs1 hs2 (by omega) h48 _ rfl h120 _ rfl hrs ip _ hc1 hms hc2 (hrun_nil true) n1 hn1 hr1
    · rcases sign3 ex with hx0 | ⟨hx0, e1, e2⟩ | ⟨hx0, e1, e2⟩ | ⟨hx0, e1, e2⟩
      · exact hs_HmCpn1 text hs hs1 hs2 (by omega) h48 _ rfl h120 _ rfl hrs ip ex hc1 (by omega) hc2 (hrun_nil true) n1 hn1 hr1 hx0 (hrun_nil false)
      · obtain ⟨n3, hn3, hr3⟩ := hrun_df ex (by omega) false
        exact hs_HmCpn2 text hs hs1 hs2 (by omega) h48 _ rfl h120 _ rfl hrs ip ex hc1 (by omega) hc2 (hrun_nil true) n1 hn1 hr1 hx0 e1 e2 n3 hn3 hr3
      all_goals
        have y3 : (ex.extract 1 ex.size).size ≤ ex.size - 1 := by rw [ByteArray.size_extract]; omega
        obtain ⟨n3, hn3, hr3⟩ := hrun_df (ex.extract 1 ex.size) (by omega) false
        first
          | exact hs_HmCpn3 text hs hs1 hs2 (by omega) h48 _ rfl h120 _ rfl hrs ip ex hc1 (by omega) hc2 (hrun_nil true) n1 hn1 hr1 hx0 e1 e2 _ rfl y3 n3 hn3 hr3
          | exact hs_HmCpn4 text hs hs1 hs2 (by omega) h48 _ rfl h120 _ rfl hrs ip ex hc1 (by omega) hc2 (hrun_nil true) n1 hn1 hr1 hx0 e1 e2 _ rfl y3 n3 hn3 hr3
  · obtain ⟨n1, hn1, hr1⟩ := hrun_df ip (by omega) true
    obtain ⟨n2, hn2, hr2⟩ := hrun_df fp (by omega) true
    rcases hh1 with ⟨rfl, hx, rfl⟩ | ⟨rfl, hm⟩
    · exact hs_HmCpp0 text hs hs1 hs2 (by omega) h48 _ rfl h120 _ rfl hrs man _ hc1 hms ip fp hc2 (by omega) n2 hn2 hr2 n1 hn1 hr1
    · rcases sign3 ex with hx0 | ⟨hx0, e1, e2⟩ | ⟨hx0, e1, e2⟩ | ⟨hx0, e1, e2⟩
      · exact hs_HmCpp1 text hs hs1 hs2 (by omega) h48 _ rfl h120 _ rfl hrs man ex hc1 (by omega) ip fp hc2 (by omega) n2 hn2 hr2 n1 hn1 hr1 hx0 (hrun_nil false)
      · obtain ⟨n3, hn3, hr3⟩ := hrun_df ex (by omega) false
        exact hs_HmCpp2 text hs hs1 hs2 (by omega) h48 _ rfl h120 _ rfl hrs man ex hc1 (by omega) ip fp hc2 (by omega) n2 hn2 hr2 n1 hn1 hr1 hx0 e1 e2 n3 hn3 hr3
      all_goals
        have y3 : (ex.extract 1 ex.size).size ≤ ex.size - 1 := by rw [ByteArray.size_extract]; omega
        obtain ⟨n3, hn3, hr3⟩ := hrun_df (ex.extract 1 ex.size) (by omega) false
        first
          | exact hs_HmCpp3 text hs hs1 hs2 (by omega) h48 _ rfl h120 _ rfl hrs man ex hc1 (by omega) ip fp hc2 (by omega) n2 hn2 hr2 n1 hn1 hr1 hx0 e1 e2 _ rfl y3 n3 hn3 hr3
          | exact hs_HmCpp4 text hs hs1 hs2 (by omega) h48 _ rfl h120 _ rfl hrs man ex hc1 (by omega) ip fp hc2 (by omega) n2 hn2 hr2 n1 hn1 hr1 hx0 e1 e2 _ rfl y3 n3 hn3 hr3

theorem hall_minus (text : ByteArray) (hs : text.size ≤ 1024) (h0 : 0 < text.size) (hs1 : ((byt text 0 : Int) == 43) = false) (hs2 : ((byt text 0 : Int) == 45) = true) : TRet 240 #[.string text] NumR := by
  by_cases hb : text.size = 1
  · exact hbad_minus_b text hs h0 hs1 hs2 hb
  obtain ⟨b48, h48⟩ : ∃ bb, ((byt text 1 : Int) == 48) = bb := ⟨_, rfl⟩
  cases b48
  · exact hbad_minus_c text hs h0 hs1 hs2 (by omega) h48
  by_cases hd : text.size = 1 + 1
  · exact hbad_minus_d text hs h0 hs1 hs2 hd h48
  obtain ⟨b120, h120⟩ : ∃ bb, (bits .or .u8 (byt text 2) 32 == 120) = bb := ⟨_, rfl⟩
  cases b120
  · exact hbad_minus_e text hs h0 hs1 hs2 (by omega) h48 _ rfl h120
  have hrs : (text.extract 3 text.size).size + 3 ≤ text.size := by rw [ByteArray.size_extract]; omega
  obtain ⟨man, ex, he, hc1, hh1⟩ := hcut_df (text.extract 3 text.size) (by omega) 112 80
  have hms : man.size ≤ (text.extract 3 text.size).size := by
    rcases hh1 with ⟨_, h, _⟩ | ⟨_, h⟩
    · rw [h]; exact Nat.le_refl _
    · omega
  obtain ⟨ip, fp, hp, hc2, hh2⟩ := hcut_df man (by omega) 46 46
  rcases hh2 with ⟨rfl, rfl, rfl⟩ | ⟨rfl, hif⟩
  · obtain ⟨n1, hn1, hr1⟩ := hrun_df ip (by omega) true
    rcases hh1 with ⟨rfl, hx, rfl⟩ | ⟨rfl, hm⟩
    · exact hs_HmCmn0 text hs hs1 hs2 (by omega) h48 _ rfl h120 _ rfl hrs ip _ hc1 hms hc2 (hrun_nil true) n1 hn1 hr1
    · rcases sign3 ex with hx0 | ⟨hx0, e1, e2⟩ | ⟨hx0, e1, e2⟩ | ⟨hx0, e1, e2⟩
      · exact hs_HmCmn1 text hs hs1 hs2 (by omega) h48 _ rfl h120 _ rfl hrs ip ex hc1 (by omega) hc2 (hrun_nil true) n1 hn1 hr1 hx0 (hrun_nil false)
      · obtain ⟨n3, hn3, hr3⟩ := hrun_df ex (by omega) false
        exact hs_HmCmn2 text hs hs1 hs2 (by omega) h48 _ rfl h120 _ rfl hrs ip ex hc1 (by omega) hc2 (hrun_nil true) n1 hn1 hr1 hx0 e1 e2 n3 hn3 hr3
      all_goals
        have y3 : (ex.extract 1 ex.size).size ≤ ex.size - 1 := by rw [ByteArray.size_extract]; omega
        obtain ⟨n3, hn3, hr3⟩ := hrun_df (ex.extract 1 ex.size) (by omega) false
        first
          | exact hs_HmCmn3 text hs hs1 hs2 (by omega) h48 _ rfl h120 _ rfl hrs ip ex hc1 (by omega) hc2 (hrun_nil true) n1 hn1 hr1 hx0 e1 e2 _ rfl y3 n3 hn3 hr3
          | exact hs_HmCmn4 text hs hs1 hs2 (by omega) h48 _ rfl h120 _ rfl hrs ip ex hc1 (by omega) hc2 (hrun_nil true) n1 hn1 hr1 hx0 e1 e2 _ rfl y3 n3 hn3 hr3
  · obtain ⟨n1, hn1, hr1⟩ := hrun_df ip (by omega) true
    obtain ⟨n2, hn2, hr2⟩ := hrun_df fp (by omega) true
    rcases hh1 with ⟨rfl, hx, rfl⟩ | ⟨rfl, hm⟩
    · exact hs_HmCmp0 text hs hs1 hs2 (by omega) h48 _ rfl h120 _ rfl hrs man _ hc1 hms ip fp hc2 (by omega) n2 hn2 hr2 n1 hn1 hr1
    · rcases sign3 ex with hx0 | ⟨hx0, e1, e2⟩ | ⟨hx0, e1, e2⟩ | ⟨hx0, e1, e2⟩
      · exact hs_HmCmp1 text hs hs1 hs2 (by omega) h48 _ rfl h120 _ rfl hrs man ex hc1 (by omega) ip fp hc2 (by omega) n2 hn2 hr2 n1 hn1 hr1 hx0 (hrun_nil false)
      · obtain ⟨n3, hn3, hr3⟩ := hrun_df ex (by omega) false
        exact hs_HmCmp2 text hs hs1 hs2 (by omega) h48 _ rfl h120 _ rfl hrs man ex hc1 (by omega) ip fp hc2 (by omega) n2 hn2 hr2 n1 hn1 hr1 hx0 e1 e2 n3 hn3 hr3
      all_goals
        have y3 : (ex.extract 1 ex.size).size ≤ ex.size - 1 := by rw [ByteArray.size_extract]; omega
        obtain ⟨n3, hn3, hr3⟩ := hrun_df (ex.extract 1 ex.size) (by omega) false
        first
          | exact hs_HmCmp3 text hs hs1 hs2 (by omega) h48 _ rfl h120 _ rfl hrs man ex hc1 (by omega) ip fp hc2 (by omega) n2 hn2 hr2 n1 hn1 hr1 hx0 e1 e2 _ rfl y3 n3 hn3 hr3
          | exact hs_HmCmp4 text hs hs1 hs2 (by omega) h48 _ rfl h120 _ rfl hrs man ex hc1 (by omega) ip fp hc2 (by omega) n2 hn2 hr2 n1 hn1 hr1 hx0 e1 e2 _ rfl y3 n3 hn3 hr3

theorem hmscan_t (text : ByteArray) : TRet 240 #[.string text] NumR := by
  by_cases hs : text.size ≤ 1024
  · rcases sign3 text with hx0 | ⟨hx0, e1, e2⟩ | ⟨hx0, e1, e2⟩ | ⟨hx0, e1, e2⟩
    · rw [hx0]; exact hbad_empty
    · exact hall_none text hs hx0 e1 e2
    · exact hall_plus text hs hx0 e1 e2
    · exact hall_minus text hs hx0 e1 e2
  · exact hbad_big text (by omega)
/-- hmodel.Scan: one answer in every memory. -/
theorem hmscan_x (text : ByteArray) : ∃ v, NumR v ∧ DF 240 #[.string text] v := by
  obtain ⟨v, hv, hD⟩ := zdet [.v (.string text)] 1 (by decide) rfl (by kernel_rfl) (by kernel_rfl) (by simp [Arg.ok, selfV, selfC]) (hmscan_t text) (by rintro _ ⟨_, _, _, _, _, _, rfl, _⟩; rfl)
  exact ⟨v, hv, fun w tb K ho hK => hD w tb K ho hK⟩
end Go.Proofs.YgcoaaGreat.NatW
