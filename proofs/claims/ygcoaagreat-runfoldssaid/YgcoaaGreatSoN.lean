/-
  so.Step: Read, ReadSecond, ReadFlags; the reading of na.
-/
import Derived.Test.YgcoaaGreatPaG
import Derived.Test.YgcoaaGreatSoM
import Derived.Test.YgcoaaGreatSxY
import Derived.Test.YgcoaaGreatSxT
import Derived.Test.YgcoaaGreatSxI
import Derived.Test.YgcoaaGreatSxZ
import Derived.Test.YgcoaaGreatRfX
import Derived.Test.YgcoaaGreatDetY
set_option linter.unusedVariables false
set_option linter.unusedSimpArgs false
set_option maxRecDepth 20000
namespace Go.Proofs.YgcoaaGreat.NatW
open Go.RowKit
open Go.Proofs.YgcoaaGreat.Det
open Go.Proofs.YgcoaaGreat.Limbs Go.Proofs.YgcoaaGreat.Bits
attribute [local go_sem] Go.Instr.field Go.asAgg

theorem inf_dft (E M : Nat) (hf : fok E M = true) (n : Bool) : ∃ r, U64 r ∧ ∀ tb, DFT tb 85 #[fmt E M, .bool n] (.int .u64 r) := by
  obtain ⟨r, ur, h⟩ := inf_u E M hf n
  exact ⟨r, ur, fun tb w K ho hK => h w K fun v w' hv hb => by subst hv; exact hK w' hb⟩
theorem nan_dft (E M : Nat) (hf : fok E M = true) : ∃ r, U64 r ∧ ∀ tb, DFT tb 45 #[fmt E M] (.int .u64 r) := by
  obtain ⟨g1, g2, g3, g4⟩ := fok_bd hf
  exact ⟨_, Snd.u64 hf (snd_nan E M (by omega)), fun tb w K ho hK => (nan_ret E M hf) w K fun v w' hv hb => by subst hv; exact hK w' hb⟩

theorem settle_j255 (E M : Nat) (hf : fok E M = true) (kd kD kA kB imm x : Int) (ux : U64 x) (text : ByteArray) (k : Int) (k0 : 0 ≤ k) (k4 : k ≤ 4) (nn : Bool) (dd : ByteArray) (ee pp gg : Int) (di : Nat) (hdi : bits .and .u8 kD 7 = (di : Int)) (hdi8 : di < 8) (R : Nat → Int) (hR : ∀ i, i < 8 → U64 (R i)) (L : List Value) (hL : L.length ≤ 1000) :
    ∃ R' L', (∀ i, i < 8 → U64 (R' i)) ∧ Gr L L' ∧ SXs 255 E M kd kD kA kB imm x text (.agg #[.int .u8 k, .bool nn, .string dd, .int .i16 ee, .int .i64 pp, .int .i32 gg]) R L R' L' := by
  rcases (show k = 0 ∨ k = 1 ∨ k = 2 ∨ k = 3 ∨ k = 4 by omega) with rfl | rfl | rfl | rfl | rfl
  · exact ⟨_, _, up_w hR ux di, .inl rfl, settle_255_0 E M hf kd kD kA kB imm x text nn dd ee pp gg di hdi hdi8 R L hL⟩
  · obtain ⟨r, ur, h⟩ := inf_dft E M hf nn
    exact ⟨_, _, up_w hR ur di, .inl rfl, settle_255_1 E M hf kd kD kA kB imm x text nn dd ee pp gg di hdi hdi8 R L hL r h⟩
  · obtain ⟨r, ur, h⟩ := nan_dft E M hf
    exact ⟨_, _, up_w hR ur di, .inl rfl, settle_255_2 E M hf kd kD kA kB imm x text nn dd ee pp gg di hdi hdi8 R L hL r h⟩
  · exact ⟨_, _, hR, .inr ⟨_, rfl⟩, settle_255_3 E M hf kd kD kA kB imm x text nn dd ee pp gg di hdi hdi8 R L hL⟩
  · exact ⟨_, _, hR, .inr ⟨_, rfl⟩, settle_255_4 E M hf kd kD kA kB imm x text nn dd ee pp gg di hdi hdi8 R L hL⟩

theorem settle_j291 (E M : Nat) (hf : fok E M = true) (kd kD kA kB imm x : Int) (ux : U64 x) (text : ByteArray) (k : Int) (k0 : 0 ≤ k) (k4 : k ≤ 4) (nn : Bool) (dd : ByteArray) (ee pp gg : Int) (di : Nat) (hdi : bits .and .u8 kD 7 = (di : Int)) (hdi8 : di < 8) (R : Nat → Int) (hR : ∀ i, i < 8 → U64 (R i)) (L : List Value) (hL : L.length ≤ 1000) :
    ∃ R' L', (∀ i, i < 8 → U64 (R' i)) ∧ Gr L L' ∧ SXs 291 E M kd kD kA kB imm x text (.agg #[.int .u8 k, .bool nn, .string dd, .int .i16 ee, .int .i64 pp, .int .i32 gg]) R L R' L' := by
  rcases (show k = 0 ∨ k = 1 ∨ k = 2 ∨ k = 3 ∨ k = 4 by omega) with rfl | rfl | rfl | rfl | rfl
  · exact ⟨_, _, up_w hR ux di, .inl rfl, settle_291_0 E M hf kd kD kA kB imm x text nn dd ee pp gg di hdi hdi8 R L hL⟩
  · obtain ⟨r, ur, h⟩ := inf_dft E M hf nn
    exact ⟨_, _, up_w hR ur di, .inl rfl, settle_291_1 E M hf kd kD kA kB imm x text nn dd ee pp gg di hdi hdi8 R L hL r h⟩
  · obtain ⟨r, ur, h⟩ := nan_dft E M hf
    exact ⟨_, _, up_w hR ur di, .inl rfl, settle_291_2 E M hf kd kD kA kB imm x text nn dd ee pp gg di hdi hdi8 R L hL r h⟩
  · exact ⟨_, _, hR, .inr ⟨_, rfl⟩, settle_291_3 E M hf kd kD kA kB imm x text nn dd ee pp gg di hdi hdi8 R L hL⟩
  · exact ⟨_, _, hR, .inr ⟨_, rfl⟩, settle_291_4 E M hf kd kD kA kB imm x text nn dd ee pp gg di hdi hdi8 R L hL⟩

theorem read_j145 (E M : Nat) (hf : fok E M = true) (kd md kD kA kB imm : Int) (hm0 : 0 ≤ md) (ok : OpOk kD kA kB imm) (text : ByteArray) (R : Nat → Int) (hR : ∀ i, i < 8 → U64 (R i)) (L : List Value) (hL : L.length ≤ 1000) : Goes 145 E M md kd kD kA kB imm text R L := by
  obtain ⟨di, hdi, hdi8⟩ := and7 kD ok.d.1 ok.d.2
  obtain ⟨_, ⟨k, nn, dd, ee, pp, gg, rfl, k0, k4, hdd, he1, he2⟩, hS⟩ := scan_x text
  obtain ⟨x, p, ux, hP⟩ := parse_x54 E M hf md hm0 nn dd ee he1 he2 (by omega) false
  obtain ⟨R', L', h1, h2, h3⟩ := settle_j255 E M hf kd kD kA kB imm x ux text k k0 k4 nn dd ee pp gg di hdi hdi8 R hR L hL
  have hS' : ∀ tb, DFT tb 254 #[.string text] (scanV k nn dd ee pp gg) := fun tb w K ho hK => hS w tb K ho hK
  unfold scanV at hS'
  exact ⟨R', L', h1, h2, read_145 E M hf md kd kD kA kB imm text k nn dd ee pp gg x p R R' L L' hS' hP h3⟩

theorem read_j267 (E M : Nat) (hf : fok E M = true) (kd md kD kA kB imm : Int) (hm0 : 0 ≤ md) (ok : OpOk kD kA kB imm) (text : ByteArray) (R : Nat → Int) (hR : ∀ i, i < 8 → U64 (R i)) (L : List Value) (hL : L.length ≤ 1000) : Goes 267 E M md kd kD kA kB imm text R L := by
  obtain ⟨di, hdi, hdi8⟩ := and7 kD ok.d.1 ok.d.2
  obtain ⟨_, ⟨k, nn, dd, ee, pp, gg, rfl, k0, k4, hdd, he1, he2⟩, hS⟩ := scan_x text
  obtain ⟨x, p, ux, hP⟩ := parse_x55 E M hf md hm0 nn dd ee he1 he2 (by omega) false
  obtain ⟨R', L', h1, h2, h3⟩ := settle_j255 E M hf kd kD kA kB imm x ux text k k0 k4 nn dd ee pp gg di hdi hdi8 R hR L hL
  have hS' : ∀ tb, DFT tb 254 #[.string text] (scanV k nn dd ee pp gg) := fun tb w K ho hK => hS w tb K ho hK
  unfold scanV at hS'
  exact ⟨R', L', h1, h2, read_267 E M hf md kd kD kA kB imm text k nn dd ee pp gg x p R R' L L' hS' hP h3⟩

theorem read_j155 (E M : Nat) (hf : fok E M = true) (kd md kD kA kB imm : Int) (hm0 : 0 ≤ md) (ok : OpOk kD kA kB imm) (text : ByteArray) (R : Nat → Int) (hR : ∀ i, i < 8 → U64 (R i)) (L : List Value) (hL : L.length ≤ 1000) : Goes 155 E M md kd kD kA kB imm text R L := by
  obtain ⟨di, hdi, hdi8⟩ := and7 kD ok.d.1 ok.d.2
  obtain ⟨_, ⟨k, nn, dd, ee, pp, gg, rfl, k0, k4, hdd, he1, he2⟩, hS⟩ := scan_x text
  obtain ⟨x, p, ux, hP⟩ := parse_x54 E M hf md hm0 nn dd ee he1 he2 (by omega) true
  obtain ⟨R', L', h1, h2, h3⟩ := settle_j291 E M hf kd kD kA kB imm x ux text k k0 k4 nn dd ee pp gg di hdi hdi8 R hR L hL
  have hS' : ∀ tb, DFT tb 254 #[.string text] (scanV k nn dd ee pp gg) := fun tb w K ho hK => hS w tb K ho hK
  unfold scanV at hS'
  exact ⟨R', L', h1, h2, read_155 E M hf md kd kD kA kB imm text k nn dd ee pp gg x p R R' L L' hS' hP h3⟩

theorem read_j300 (E M : Nat) (hf : fok E M = true) (kd md kD kA kB imm : Int) (hm0 : 0 ≤ md) (ok : OpOk kD kA kB imm) (text : ByteArray) (R : Nat → Int) (hR : ∀ i, i < 8 → U64 (R i)) (L : List Value) (hL : L.length ≤ 1000) : Goes 300 E M md kd kD kA kB imm text R L := by
  obtain ⟨di, hdi, hdi8⟩ := and7 kD ok.d.1 ok.d.2
  obtain ⟨_, ⟨k, nn, dd, ee, pp, gg, rfl, k0, k4, hdd, he1, he2⟩, hS⟩ := scan_x text
  obtain ⟨x, p, ux, hP⟩ := parse_x55 E M hf md hm0 nn dd ee he1 he2 (by omega) true
  obtain ⟨R', L', h1, h2, h3⟩ := settle_j291 E M hf kd kD kA kB imm x ux text k k0 k4 nn dd ee pp gg di hdi hdi8 R hR L hL
  have hS' : ∀ tb, DFT tb 254 #[.string text] (scanV k nn dd ee pp gg) := fun tb w K ho hK => hS w tb K ho hK
  unfold scanV at hS'
  exact ⟨R', L', h1, h2, read_300 E M hf md kd kD kA kB imm text k nn dd ee pp gg x p R R' L L' hS' hP h3⟩

theorem so_13 (E M : Nat) (hf : fok E M = true) (md kD kA kB imm : Int) (hm0 : 0 ≤ md) (ok : OpOk kD kA kB imm) (text : ByteArray) (R : Nat → Int) (hR : ∀ i, i < 8 → U64 (R i)) (L : List Value) (hL : L.length ≤ 1000) : Goes 82 E M md 13 kD kA kB imm text R L := by
  obtain ⟨di, hdi, hdi8⟩ := and7 kD ok.d.1 ok.d.2
  obtain ⟨ai, hai, hai8⟩ := and7 kA ok.a.1 ok.a.2
  obtain ⟨bi, hbi, hbi8⟩ := and7 kB ok.b.1 ok.b.2
  obtain ⟨R', L', h1, h2, h3⟩ := read_j145 E M hf 13 md kD kA kB imm hm0 ok text R hR L hL
  exact ⟨R', L', h1, h2, sx_82_13 E M hf md kD kA kB imm text di ai bi hdi hdi8 hai hai8 hbi hbi8 R R' L L' h3⟩

theorem so_27 (E M : Nat) (hf : fok E M = true) (md kD kA kB imm : Int) (hm0 : 0 ≤ md) (ok : OpOk kD kA kB imm) (text : ByteArray) (R : Nat → Int) (hR : ∀ i, i < 8 → U64 (R i)) (L : List Value) (hL : L.length ≤ 1000) : Goes 147 E M md 27 kD kA kB imm text R L := by
  obtain ⟨di, hdi, hdi8⟩ := and7 kD ok.d.1 ok.d.2
  obtain ⟨ai, hai, hai8⟩ := and7 kA ok.a.1 ok.a.2
  obtain ⟨bi, hbi, hbi8⟩ := and7 kB ok.b.1 ok.b.2
  obtain ⟨R', L', h1, h2, h3⟩ := read_j267 E M hf 27 md kD kA kB imm hm0 ok text R hR L hL
  exact ⟨R', L', h1, h2, sx_147_27 E M hf md kD kA kB imm text di ai bi hdi hdi8 hai hai8 hbi hbi8 R R' L L' h3⟩

theorem so_29 (E M : Nat) (hf : fok E M = true) (md kD kA kB imm : Int) (hm0 : 0 ≤ md) (ok : OpOk kD kA kB imm) (text : ByteArray) (R : Nat → Int) (hR : ∀ i, i < 8 → U64 (R i)) (L : List Value) (hL : L.length ≤ 1000) : Goes 147 E M md 29 kD kA kB imm text R L := by
  obtain ⟨di, hdi, hdi8⟩ := and7 kD ok.d.1 ok.d.2
  obtain ⟨ai, hai, hai8⟩ := and7 kA ok.a.1 ok.a.2
  obtain ⟨bi, hbi, hbi8⟩ := and7 kB ok.b.1 ok.b.2
  obtain ⟨_, ⟨k, nn, dd, ee, pp, gg, rfl, k0, k4, hdd, he1, he2⟩, hS⟩ := scan_x text
  have hS' : ∀ tb, DFT tb 254 #[.string text] (scanV k nn dd ee pp gg) := fun tb w K ho hK => hS w tb K ho hK
  unfold scanV at hS'
  obtain ⟨r, f, ur, _, hF⟩ := slow_x E M hf md nn dd ee he1 he2 (by omega)
  obtain ⟨s0, hT⟩ := flagText_df f
  by_cases h3 : k = 3
  · exact ⟨R, L ++ [_], hR, .inr ⟨_, rfl⟩, sx_147_29 E M hf md kD kA kB imm text di ai bi hdi hdi8 hai hai8 hbi hbi8 R L hL _ (fun tb => rf_268_w E M hf md text k nn dd ee pp gg h3 tb (hS' tb))⟩
  by_cases h4 : k = 4
  · exact ⟨R, L ++ [_], hR, .inr ⟨_, rfl⟩, sx_147_29 E M hf md kD kA kB imm text di ai bi hdi hdi8 hai hai8 hbi hbi8 R L hL _ (fun tb => rf_268_b E M hf md text k nn dd ee pp gg h4 tb (hS' tb))⟩
  · exact ⟨R, L ++ [.string s0], hR, .inr ⟨_, rfl⟩, sx_147_29 E M hf md kD kA kB imm text di ai bi hdi hdi8 hai hai8 hbi hbi8 R L hL s0 (fun tb => rf_268_f E M hf md text k nn dd ee pp gg (by simpa using h3) (by simpa using h4) r f s0 hF (fun tb w K ho hK => hT w tb K ho hK) tb (hS' tb))⟩
end Go.Proofs.YgcoaaGreat.NatW
