/-
  so.Step: Print, ReadHex, HexFlags.
-/
import Derived.Test.YgcoaaGreatSoL
import Derived.Test.YgcoaaGreatRsA
import Derived.Test.YgcoaaGreatBtA
import Derived.Test.YgcoaaGreatSxQ
import Derived.Test.YgcoaaGreatSxX
import Derived.Test.YgcoaaGreatSxI
import Derived.Test.YgcoaaGreatShX
import Derived.Test.YgcoaaGreatRfX
import Derived.Test.YgcoaaGreatHsZ
import Derived.Test.YgcoaaGreatDetY
set_option linter.unusedVariables false
set_option linter.unusedSimpArgs false
set_option maxRecDepth 20000
namespace Go.Proofs.YgcoaaGreat.NatW
open Go.RowKit
open Go.Proofs.YgcoaaGreat.Det
attribute [local go_sem] Go.Instr.field Go.asAgg

set_option maxHeartbeats 2000000 in
theorem bits_x (E M : Nat) (hf : fok E M = true) (m : Int) (n : Bool) (d : ByteArray) (hd : d.size ≤ 1000000) (e : Int) (h1 : -32768 ≤ e) (h2 : e ≤ 32767) : ∃ r, U64 r ∧ DF 184 #[fmt E M, .int .u8 m, .agg #[.bool n, .string d, .int .i16 e]] (.int .u64 r) := by
  obtain ⟨_, ⟨r, f, rfl, hr⟩, hD⟩ := bitsFlags_x E M hf m n d hd e h1 h2
  refine ⟨r, hr, ?_⟩
  intro w tb K ho hK
  have HO := hide ho
  have HK := hide hK
  clear ho hK
  go_enter Oaag.func184, Oaag.ntmps184
  go_wp2_with (first
    | (with_reducible refine at_fn 338 ?_
       refine gen_calls ?_
       intro W hW
       have hB : Below w.heap.size w W := by rw [← hW]; exact ((Below.refl _ _).alloc (Nat.le_refl _) _).alloc (by rw [size_new]; omega) _
       clear hW
       refine hD W tb _ ((unhide HO).later hB) ?_
       intro W2 hb
       have HB := hide (hB.trans (hb.mono hB.size))
       clear hB hb)
    | fail)
  all_goals exact unhide HK _ (unhide HB)

theorem up_w {R : Nat → Int} (h : ∀ i, i < 8 → U64 (R i)) {r : Int} (hr : U64 r) (d : Nat) : ∀ i, i < 8 → U64 (up R d r i) := by
  intro i hi
  unfold up
  split
  · exact hr
  · exact h i hi

theorem show_x (E M : Nat) (hf : fok E M = true) (a : Int) (ha : U64 a) : ∃ s0 : ByteArray, ∀ tb, DFT tb 146 #[.pointer (some ⟨tb, 0, none⟩), fmt E M, .int .u64 a] (.string s0) := by
  obtain ⟨_, ⟨nn, dd, ee, rfl, hc⟩, hD0⟩ := shortest_x E M hf a ha
  have hdd : dd.size ≤ 800 := by rcases hc with h | h <;> omega
  have he1 : -32768 ≤ ee := by rcases hc with h | h <;> omega
  have he2 : ee ≤ 32767 := by rcases hc with h | h <;> omega
  obtain ⟨_, ⟨sA, rfl, hsA⟩, hD1⟩ := detQ [.v (.agg #[.bool nn, .string dd, .int .i16 ee])] 1 (by decide) rfl (by kernel_rfl) (by kernel_rfl) (by simp [Arg.ok, selfV, selfC]) (text_ret nn dd (by omega) ee he1 he2) (by rintro _ ⟨_, rfl, _⟩; rfl)
  obtain ⟨_, ⟨s0, rfl, _⟩, hD2⟩ := orName_det E M hf a ha sA (by omega)
  exact ⟨s0, fun tb => show_146 E M hf a nn dd ee sA s0 tb (fun w K ho hK => hD0 w tb K ho hK) (fun w K ho hK => hD1 w tb K ho hK) (fun w K ho hK => hD2 w tb K ho hK)⟩

theorem so_14 (E M : Nat) (hf : fok E M = true) (md kD kA kB imm : Int) (ok : OpOk kD kA kB imm) (text : ByteArray) (R : Nat → Int) (hR : ∀ i, i < 8 → U64 (R i)) (L : List Value) (hL : L.length ≤ 1000) : Goes 82 E M md 14 kD kA kB imm text R L := by
  obtain ⟨di, hdi, hdi8⟩ := and7 kD ok.d.1 ok.d.2
  obtain ⟨ai, hai, hai8⟩ := and7 kA ok.a.1 ok.a.2
  obtain ⟨bi, hbi, hbi8⟩ := and7 kB ok.b.1 ok.b.2
  have ua := hR ai hai8
  obtain ⟨s0, hD⟩ := show_x E M hf (R ai) ua
  exact ⟨R, L ++ [.string s0], hR, .inr ⟨_, rfl⟩, sx_82_14 E M hf md kD kA kB imm text di ai bi hdi hdi8 hai hai8 hbi hbi8 R L hL s0 hD⟩

theorem so_26 (E M : Nat) (hf : fok E M = true) (md kD kA kB imm : Int) (ok : OpOk kD kA kB imm) (text : ByteArray) (R : Nat → Int) (hR : ∀ i, i < 8 → U64 (R i)) (L : List Value) (hL : L.length ≤ 1000) : Goes 147 E M md 26 kD kA kB imm text R L := by
  obtain ⟨di, hdi, hdi8⟩ := and7 kD ok.d.1 ok.d.2
  obtain ⟨ai, hai, hai8⟩ := and7 kA ok.a.1 ok.a.2
  obtain ⟨bi, hbi, hbi8⟩ := and7 kB ok.b.1 ok.b.2
  have ua := hR ai hai8
  obtain ⟨_, ⟨k, nn, dd, ee, pp, gg, rfl, k0, k4, hdd, he1, he2⟩, hS⟩ := hscan_x text
  have hS' : ∀ tb, DFT tb 266 #[.string text] (scanV k nn dd ee pp gg) := fun tb w K ho hK => hS w tb K ho hK
  obtain ⟨r, hr, hB⟩ := bits_x E M hf md nn dd (by omega) ee he1 he2
  unfold scanV at hS'
  rcases (show k = 0 ∨ k = 1 ∨ k = 2 ∨ k = 3 ∨ k = 4 by omega) with rfl | rfl | rfl | rfl | rfl
  · exact ⟨up R di r, L, up_w hR hr di, .inl rfl, readhex_147_0 E M hf md kD kA kB imm text nn dd ee pp gg di hdi hdi8 ai bi hai hai8 hbi hbi8 R L hL hS' r (fun tb w K ho hK => hB w tb K ho hK)⟩
  · exact ⟨R, L ++ [_], hR, .inr ⟨_, rfl⟩, readhex_147_1 E M hf md kD kA kB imm text nn dd ee pp gg di hdi hdi8 ai bi hai hai8 hbi hbi8 R L hL hS'⟩
  · exact ⟨R, L ++ [_], hR, .inr ⟨_, rfl⟩, readhex_147_2 E M hf md kD kA kB imm text nn dd ee pp gg di hdi hdi8 ai bi hai hai8 hbi hbi8 R L hL hS'⟩
  · exact ⟨R, L ++ [_], hR, .inr ⟨_, rfl⟩, readhex_147_3 E M hf md kD kA kB imm text nn dd ee pp gg di hdi hdi8 ai bi hai hai8 hbi hbi8 R L hL hS'⟩
  · exact ⟨R, L ++ [_], hR, .inr ⟨_, rfl⟩, readhex_147_4 E M hf md kD kA kB imm text nn dd ee pp gg di hdi hdi8 ai bi hai hai8 hbi hbi8 R L hL hS'⟩

theorem so_30 (E M : Nat) (hf : fok E M = true) (md kD kA kB imm : Int) (ok : OpOk kD kA kB imm) (text : ByteArray) (R : Nat → Int) (hR : ∀ i, i < 8 → U64 (R i)) (L : List Value) (hL : L.length ≤ 1000) : Goes 147 E M md 30 kD kA kB imm text R L := by
  obtain ⟨di, hdi, hdi8⟩ := and7 kD ok.d.1 ok.d.2
  obtain ⟨ai, hai, hai8⟩ := and7 kA ok.a.1 ok.a.2
  obtain ⟨bi, hbi, hbi8⟩ := and7 kB ok.b.1 ok.b.2
  have ua := hR ai hai8
  obtain ⟨_, ⟨k, nn, dd, ee, pp, gg, rfl, k0, k4, hdd, he1, he2⟩, hS⟩ := hscan_x text
  have hS' : ∀ tb, DFT tb 266 #[.string text] (scanV k nn dd ee pp gg) := fun tb w K ho hK => hS w tb K ho hK
  unfold scanV at hS'
  obtain ⟨_, ⟨r, f, rfl, hr⟩, hB⟩ := bitsFlags_x E M hf md nn dd (by omega) ee he1 he2
  obtain ⟨s0, hF⟩ := flagText_df f
  by_cases h3 : k = 3
  · exact ⟨R, L ++ [_], hR, .inr ⟨_, rfl⟩, sx_147_30 E M hf md kD kA kB imm text di ai bi hdi hdi8 hai hai8 hbi hbi8 R L hL _ (fun tb => rf_269_w E M hf md text k nn dd ee pp gg h3 tb (hS' tb))⟩
  by_cases h4 : k = 4
  · exact ⟨R, L ++ [_], hR, .inr ⟨_, rfl⟩, sx_147_30 E M hf md kD kA kB imm text di ai bi hdi hdi8 hai hai8 hbi hbi8 R L hL _ (fun tb => rf_269_b E M hf md text k nn dd ee pp gg h4 tb (hS' tb))⟩
  · exact ⟨R, L ++ [.string s0], hR, .inr ⟨_, rfl⟩, sx_147_30 E M hf md kD kA kB imm text di ai bi hdi hdi8 hai hai8 hbi hbi8 R L hL s0 (fun tb => rf_269_f E M hf md text k nn dd ee pp gg (by simpa using h3) (by simpa using h4) r f s0 (fun tb w K ho hK => hB w tb K ho hK) (fun tb w K ho hK => hF w tb K ho hK) tb (hS' tb))⟩
end Go.Proofs.YgcoaaGreat.NatW
