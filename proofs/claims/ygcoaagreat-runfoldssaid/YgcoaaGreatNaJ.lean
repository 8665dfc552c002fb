/-
  na.Step: every kind.
-/
import Derived.Test.YgcoaaGreatNbA
import Derived.Test.YgcoaaGreatNbB
import Derived.Test.YgcoaaGreatNbC
import Derived.Test.YgcoaaGreatNbD
import Derived.Test.YgcoaaGreatNbE
import Derived.Test.YgcoaaGreatNbF
import Derived.Test.YgcoaaGreatNbG
import Derived.Test.YgcoaaGreatNbH
import Derived.Test.YgcoaaGreatNaC
import Derived.Test.YgcoaaGreatNaD
import Derived.Test.YgcoaaGreatSoN
import Derived.Test.YgcoaaGreatOrN
import Derived.Test.YgcoaaGreatRsA
import Derived.Test.YgcoaaGreatShX
import Derived.Test.YgcoaaGreatDgX
import Derived.Test.YgcoaaGreatTfX
import Derived.Test.YgcoaaGreatSoM
set_option linter.unusedVariables false
set_option linter.unusedSimpArgs false
set_option maxRecDepth 20000
namespace Go.Proofs.YgcoaaGreat.NatW
open Go.RowKit
open Go.Proofs.YgcoaaGreat.Det
open Go.Proofs.YgcoaaGreat.Limbs Go.Proofs.YgcoaaGreat.Bits
attribute [local go_sem] Go.Instr.field Go.asAgg

theorem NRet.dft {g : FuncId} {args : Array Value} {v : Value} (h : NRet g args v) (tb : Nat) : DFT tb g args v := fun w K _ hK => h w K fun w' s => hK w' s.below
theorem ret_dft {g : FuncId} {args : Array Value} {v : Value} (h : Ret g args (fun x => x = v)) (tb : Nat) : DFT tb g args v := fun w K _ hK => h w K fun x w' hx hb => by subst hx; exact hK w' hb
theorem okD {G N : Int} (hG : 0 ≤ G) (hN : 0 ≤ N) (tb : Nat) : DFT tb 67 #[.agg #[.int .u8 G, .int .u8 N]] (.bool (fok G.toNat N.toNat)) := ret_dft (fmtOk_i G N hG hN) tb

theorem through_x (E M : Nat) (q : Bool) (hq : NaF E M q) (md old a G N : Int) (hG : 0 ≤ G) (hN : 0 ≤ N) (uo : U64 old) (ua : U64 a) : ∃ r, U64 r ∧ ∀ tb, DFT tb 154 #[fmt E M, .agg #[.int .u8 G, .int .u8 N], .int .u8 md, .int .u64 old, .int .u64 a] (.int .u64 r) := by
  have hf := hq.fok
  cases hb : fok G.toNat N.toNat
  · rcases hq with ⟨rfl, rfl, _⟩ | ⟨rfl, rfl, _⟩
    · exact ⟨old, uo, fun tb => th_11_no G N md old a tb (hb ▸ okD hG hN tb)⟩
    · exact ⟨old, uo, fun tb => th_8_no G N md old a tb (hb ▸ okD hG hN tb)⟩
  · obtain ⟨g, rfl⟩ := Int.eq_ofNat_of_zero_le hG
    obtain ⟨n, rfl⟩ := Int.eq_ofNat_of_zero_le hN
    have hb' : fok g n = true := by simpa using hb
    have hOk : ∀ tb, DFT tb 67 #[.agg #[.int .u8 g, .int .u8 n]] (.bool true) := fun tb => hb ▸ okD hG hN tb
    by_cases h64 : g = 11 ∧ n = 52
    · obtain ⟨rfl, rfl⟩ := h64
      rcases hq with ⟨rfl, rfl, _⟩ | ⟨rfl, rfl, _⟩
      · obtain ⟨_, ⟨r, rfl, r0, r1⟩, hD⟩ := det148 11 52 rfl a ua.1 ua.le
        exact ⟨r, ⟨r0, by omega⟩, fun tb => th_11_same md old a tb (hOk tb) r (fun w K ho hK => hD w tb K ho hK)⟩
      · obtain ⟨z, uz, hW⟩ := widen_ex (a % 4294967296) (u32_mod a)
        obtain ⟨r, ur, hNr⟩ := narrow_ex z uz
        exact ⟨r, ur.u64, fun tb => th_8_wid md old a tb (hOk tb) z r ur.1 ur.2 (NRet.dft hW tb) (NRet.dft hNr tb)⟩
    · by_cases h32 : g = 8 ∧ n = 23
      · obtain ⟨rfl, rfl⟩ := h32
        rcases hq with ⟨rfl, rfl, _⟩ | ⟨rfl, rfl, _⟩
        · obtain ⟨z, uz, hNr⟩ := narrow_ex a ua
          obtain ⟨r, ur, hW⟩ := widen_ex z uz
          exact ⟨r, ur, fun tb => th_11_nar md old a tb (hOk tb) z r (NRet.dft hNr tb) (NRet.dft hW tb)⟩
        · obtain ⟨_, ⟨r, rfl, r0, r1⟩, hD⟩ := det148 8 23 rfl a ua.1 ua.le
          exact ⟨r, ⟨r0, by omega⟩, fun tb => th_8_same md old a tb (hOk tb) r (fun w K ho hK => hD w tb K ho hK)⟩
      · obtain ⟨_, ⟨z, rfl, hz⟩, hC1⟩ := convert_det E M hf g n hb' md a ua
        obtain ⟨_, ⟨r, rfl, hr⟩, hC2⟩ := convert_det g n hb' E M hf md z (Snd.u64 hb' hz)
        have hr' := Snd.u64 hf hr
        rcases hq with ⟨rfl, rfl, _⟩ | ⟨rfl, rfl, _⟩
        · exact ⟨r, hr', fun tb => th_11_conv g n md old a tb (hOk tb) (fun h => h64 ⟨by omega, by omega⟩) (fun h => h32 ⟨by omega, by omega⟩) z r (fun w K ho hK => hC1 w tb K ho hK) (fun w K ho hK => hC2 w tb K ho hK)⟩
        · exact ⟨r, hr', fun tb => th_8_conv g n md old a tb (hOk tb) (fun h => h64 ⟨by omega, by omega⟩) (fun h => h32 ⟨by omega, by omega⟩) z r (fun w K ho hK => hC1 w tb K ho hK) (fun w K ho hK => hC2 w tb K ho hK)⟩

theorem na_0 (E M : Nat) (q : Bool) (hq : NaF E M q) (md kD kA kB imm : Int) (hm0 : 0 ≤ md) (hmd : md = 0 ∨ 4 < md) (ok : OpOk kD kA kB imm) (text : ByteArray) (R : Nat → Int) (hR : ∀ i, i < 8 → U64 (R i)) (L : List Value) (hL : L.length ≤ 1000) : Goes 83 E M md 0 kD kA kB imm text R L := by
  have hf := hq.fok
  obtain ⟨di, hdi, hdi8⟩ := and7 kD ok.d.1 ok.d.2
  obtain ⟨ai, hai, hai8⟩ := and7 kA ok.a.1 ok.a.2
  obtain ⟨bi, hbi, hbi8⟩ := and7 kB ok.b.1 ok.b.2
  have ua := hR ai hai8
  have ub := hR bi hbi8
  have ud := hR di hdi8
  have ui := ok.i
  obtain ⟨_, ⟨r, rfl, r0, r1⟩, hD⟩ := det148 E M hf imm ui.1 ui.le
  exact ⟨_, _, up_w hR ⟨r0, by omega⟩ di, .inl rfl, nx_83_0 E M q hq md kD kA kB imm hmd text di ai bi hdi hdi8 hai hai8 hbi hbi8 R L r (fun tb w K ho hK => hD w tb K ho hK)⟩

theorem na_1 (E M : Nat) (q : Bool) (hq : NaF E M q) (md kD kA kB imm : Int) (hm0 : 0 ≤ md) (hmd : md = 0 ∨ 4 < md) (ok : OpOk kD kA kB imm) (text : ByteArray) (R : Nat → Int) (hR : ∀ i, i < 8 → U64 (R i)) (L : List Value) (hL : L.length ≤ 1000) : Goes 83 E M md 1 kD kA kB imm text R L := by
  have hf := hq.fok
  obtain ⟨di, hdi, hdi8⟩ := and7 kD ok.d.1 ok.d.2
  obtain ⟨ai, hai, hai8⟩ := and7 kA ok.a.1 ok.a.2
  obtain ⟨bi, hbi, hbi8⟩ := and7 kB ok.b.1 ok.b.2
  have ua := hR ai hai8
  have ub := hR bi hbi8
  have ud := hR di hdi8
  have ui := ok.i
  obtain ⟨r, ur, h⟩ := bin_ex q 0 (R ai) (R bi) ua ub
  exact ⟨_, _, up_w hR ur di, .inl rfl, nx_83_1 E M q hq md kD kA kB imm hmd text di ai bi hdi hdi8 hai hai8 hbi hbi8 R L r (NRet.dft h)⟩

theorem na_2 (E M : Nat) (q : Bool) (hq : NaF E M q) (md kD kA kB imm : Int) (hm0 : 0 ≤ md) (hmd : md = 0 ∨ 4 < md) (ok : OpOk kD kA kB imm) (text : ByteArray) (R : Nat → Int) (hR : ∀ i, i < 8 → U64 (R i)) (L : List Value) (hL : L.length ≤ 1000) : Goes 83 E M md 2 kD kA kB imm text R L := by
  have hf := hq.fok
  obtain ⟨di, hdi, hdi8⟩ := and7 kD ok.d.1 ok.d.2
  obtain ⟨ai, hai, hai8⟩ := and7 kA ok.a.1 ok.a.2
  obtain ⟨bi, hbi, hbi8⟩ := and7 kB ok.b.1 ok.b.2
  have ua := hR ai hai8
  have ub := hR bi hbi8
  have ud := hR di hdi8
  have ui := ok.i
  obtain ⟨r, ur, h⟩ := bin_ex q 1 (R ai) (R bi) ua ub
  exact ⟨_, _, up_w hR ur di, .inl rfl, nx_83_2 E M q hq md kD kA kB imm hmd text di ai bi hdi hdi8 hai hai8 hbi hbi8 R L r (NRet.dft h)⟩

theorem na_3 (E M : Nat) (q : Bool) (hq : NaF E M q) (md kD kA kB imm : Int) (hm0 : 0 ≤ md) (hmd : md = 0 ∨ 4 < md) (ok : OpOk kD kA kB imm) (text : ByteArray) (R : Nat → Int) (hR : ∀ i, i < 8 → U64 (R i)) (L : List Value) (hL : L.length ≤ 1000) : Goes 83 E M md 3 kD kA kB imm text R L := by
  have hf := hq.fok
  obtain ⟨di, hdi, hdi8⟩ := and7 kD ok.d.1 ok.d.2
  obtain ⟨ai, hai, hai8⟩ := and7 kA ok.a.1 ok.a.2
  obtain ⟨bi, hbi, hbi8⟩ := and7 kB ok.b.1 ok.b.2
  have ua := hR ai hai8
  have ub := hR bi hbi8
  have ud := hR di hdi8
  have ui := ok.i
  obtain ⟨r, ur, h⟩ := bin_ex q 2 (R ai) (R bi) ua ub
  exact ⟨_, _, up_w hR ur di, .inl rfl, nx_83_3 E M q hq md kD kA kB imm hmd text di ai bi hdi hdi8 hai hai8 hbi hbi8 R L r (NRet.dft h)⟩

theorem na_4 (E M : Nat) (q : Bool) (hq : NaF E M q) (md kD kA kB imm : Int) (hm0 : 0 ≤ md) (hmd : md = 0 ∨ 4 < md) (ok : OpOk kD kA kB imm) (text : ByteArray) (R : Nat → Int) (hR : ∀ i, i < 8 → U64 (R i)) (L : List Value) (hL : L.length ≤ 1000) : Goes 83 E M md 4 kD kA kB imm text R L := by
  have hf := hq.fok
  obtain ⟨di, hdi, hdi8⟩ := and7 kD ok.d.1 ok.d.2
  obtain ⟨ai, hai, hai8⟩ := and7 kA ok.a.1 ok.a.2
  obtain ⟨bi, hbi, hbi8⟩ := and7 kB ok.b.1 ok.b.2
  have ua := hR ai hai8
  have ub := hR bi hbi8
  have ud := hR di hdi8
  have ui := ok.i
  obtain ⟨r, ur, h⟩ := bin_ex q 3 (R ai) (R bi) ua ub
  exact ⟨_, _, up_w hR ur di, .inl rfl, nx_83_4 E M q hq md kD kA kB imm hmd text di ai bi hdi hdi8 hai hai8 hbi hbi8 R L r (NRet.dft h)⟩

theorem na_5 (E M : Nat) (q : Bool) (hq : NaF E M q) (md kD kA kB imm : Int) (hm0 : 0 ≤ md) (hmd : md = 0 ∨ 4 < md) (ok : OpOk kD kA kB imm) (text : ByteArray) (R : Nat → Int) (hR : ∀ i, i < 8 → U64 (R i)) (L : List Value) (hL : L.length ≤ 1000) : Goes 83 E M md 5 kD kA kB imm text R L := by
  have hf := hq.fok
  obtain ⟨di, hdi, hdi8⟩ := and7 kD ok.d.1 ok.d.2
  obtain ⟨ai, hai, hai8⟩ := and7 kA ok.a.1 ok.a.2
  obtain ⟨bi, hbi, hbi8⟩ := and7 kB ok.b.1 ok.b.2
  have ua := hR ai hai8
  have ub := hR bi hbi8
  have ud := hR di hdi8
  have ui := ok.i
  obtain ⟨_, ⟨z, rfl, r0, r1⟩, hD⟩ := det148 E M hf (R ai) ua.1 ua.le
  obtain ⟨r, ur, h⟩ := unary_ex q 5 z ⟨r0, by omega⟩
  exact ⟨_, _, up_w hR ur di, .inl rfl, nx_83_5 E M q hq md kD kA kB imm hmd text di ai bi hdi hdi8 hai hai8 hbi hbi8 R L r z (fun tb w K ho hK => hD w tb K ho hK) (NRet.dft h)⟩

theorem na_6 (E M : Nat) (q : Bool) (hq : NaF E M q) (md kD kA kB imm : Int) (hm0 : 0 ≤ md) (hmd : md = 0 ∨ 4 < md) (ok : OpOk kD kA kB imm) (text : ByteArray) (R : Nat → Int) (hR : ∀ i, i < 8 → U64 (R i)) (L : List Value) (hL : L.length ≤ 1000) : Goes 83 E M md 6 kD kA kB imm text R L := by
  have hf := hq.fok
  obtain ⟨di, hdi, hdi8⟩ := and7 kD ok.d.1 ok.d.2
  obtain ⟨ai, hai, hai8⟩ := and7 kA ok.a.1 ok.a.2
  obtain ⟨bi, hbi, hbi8⟩ := and7 kB ok.b.1 ok.b.2
  have ua := hR ai hai8
  have ub := hR bi hbi8
  have ud := hR di hdi8
  have ui := ok.i
  obtain ⟨_, ⟨z, rfl, r0, r1⟩, hD⟩ := det148 E M hf (R ai) ua.1 ua.le
  obtain ⟨r, ur, h⟩ := unary_ex q 6 z ⟨r0, by omega⟩
  exact ⟨_, _, up_w hR ur di, .inl rfl, nx_83_6 E M q hq md kD kA kB imm hmd text di ai bi hdi hdi8 hai hai8 hbi hbi8 R L r z (fun tb w K ho hK => hD w tb K ho hK) (NRet.dft h)⟩

theorem na_7 (E M : Nat) (q : Bool) (hq : NaF E M q) (md kD kA kB imm : Int) (hm0 : 0 ≤ md) (hmd : md = 0 ∨ 4 < md) (ok : OpOk kD kA kB imm) (text : ByteArray) (R : Nat → Int) (hR : ∀ i, i < 8 → U64 (R i)) (L : List Value) (hL : L.length ≤ 1000) : Goes 83 E M md 7 kD kA kB imm text R L := by
  have hf := hq.fok
  obtain ⟨di, hdi, hdi8⟩ := and7 kD ok.d.1 ok.d.2
  obtain ⟨ai, hai, hai8⟩ := and7 kA ok.a.1 ok.a.2
  obtain ⟨bi, hbi, hbi8⟩ := and7 kB ok.b.1 ok.b.2
  have ua := hR ai hai8
  have ub := hR bi hbi8
  have ud := hR di hdi8
  have ui := ok.i
  obtain ⟨_, ⟨z, rfl, r0, r1⟩, hD⟩ := det148 E M hf (R ai) ua.1 ua.le
  obtain ⟨r, ur, h⟩ := unary_ex q 7 z ⟨r0, by omega⟩
  exact ⟨_, _, up_w hR ur di, .inl rfl, nx_83_7 E M q hq md kD kA kB imm hmd text di ai bi hdi hdi8 hai hai8 hbi hbi8 R L r z (fun tb w K ho hK => hD w tb K ho hK) (NRet.dft h)⟩

theorem na_8 (E M : Nat) (q : Bool) (hq : NaF E M q) (md kD kA kB imm : Int) (hm0 : 0 ≤ md) (hmd : md = 0 ∨ 4 < md) (ok : OpOk kD kA kB imm) (text : ByteArray) (R : Nat → Int) (hR : ∀ i, i < 8 → U64 (R i)) (L : List Value) (hL : L.length ≤ 1000) : Goes 83 E M md 8 kD kA kB imm text R L := by
  have hf := hq.fok
  obtain ⟨di, hdi, hdi8⟩ := and7 kD ok.d.1 ok.d.2
  obtain ⟨ai, hai, hai8⟩ := and7 kA ok.a.1 ok.a.2
  obtain ⟨bi, hbi, hbi8⟩ := and7 kB ok.b.1 ok.b.2
  have ua := hR ai hai8
  have ub := hR bi hbi8
  have ud := hR di hdi8
  have ui := ok.i
  obtain ⟨s, _, h⟩ := order_ex q (R ai) (R bi)
  exact ⟨R, L ++ [.string s], hR, .inr ⟨_, rfl⟩, nx_83_8 E M q hq md kD kA kB imm hmd text di ai bi hdi hdi8 hai hai8 hbi hbi8 R L hL s (NRet.dft h)⟩

theorem na_9 (E M : Nat) (q : Bool) (hq : NaF E M q) (md kD kA kB imm : Int) (hm0 : 0 ≤ md) (hmd : md = 0 ∨ 4 < md) (ok : OpOk kD kA kB imm) (text : ByteArray) (R : Nat → Int) (hR : ∀ i, i < 8 → U64 (R i)) (L : List Value) (hL : L.length ≤ 1000) : Goes 83 E M md 9 kD kA kB imm text R L := by
  have hf := hq.fok
  obtain ⟨di, hdi, hdi8⟩ := and7 kD ok.d.1 ok.d.2
  obtain ⟨ai, hai, hai8⟩ := and7 kA ok.a.1 ok.a.2
  obtain ⟨bi, hbi, hbi8⟩ := and7 kB ok.b.1 ok.b.2
  have ua := hR ai hai8
  have ub := hR bi hbi8
  have ud := hR di hdi8
  have ui := ok.i
  obtain ⟨r, ur, h⟩ := from_ex q true imm ui
  exact ⟨_, _, up_w hR ur di, .inl rfl, nx_83_9 E M q hq md kD kA kB imm hmd text di ai bi hdi hdi8 hai hai8 hbi hbi8 R L r (NRet.dft h)⟩

theorem na_10 (E M : Nat) (q : Bool) (hq : NaF E M q) (md kD kA kB imm : Int) (hm0 : 0 ≤ md) (hmd : md = 0 ∨ 4 < md) (ok : OpOk kD kA kB imm) (text : ByteArray) (R : Nat → Int) (hR : ∀ i, i < 8 → U64 (R i)) (L : List Value) (hL : L.length ≤ 1000) : Goes 83 E M md 10 kD kA kB imm text R L := by
  have hf := hq.fok
  obtain ⟨di, hdi, hdi8⟩ := and7 kD ok.d.1 ok.d.2
  obtain ⟨ai, hai, hai8⟩ := and7 kA ok.a.1 ok.a.2
  obtain ⟨bi, hbi, hbi8⟩ := and7 kB ok.b.1 ok.b.2
  have ua := hR ai hai8
  have ub := hR bi hbi8
  have ud := hR di hdi8
  have ui := ok.i
  obtain ⟨r, ur, h⟩ := from_ex q false imm ui
  exact ⟨_, _, up_w hR ur di, .inl rfl, nx_83_10 E M q hq md kD kA kB imm hmd text di ai bi hdi hdi8 hai hai8 hbi hbi8 R L r (NRet.dft h)⟩

theorem na_11 (E M : Nat) (q : Bool) (hq : NaF E M q) (md kD kA kB imm : Int) (hm0 : 0 ≤ md) (hmd : md = 0 ∨ 4 < md) (ok : OpOk kD kA kB imm) (text : ByteArray) (R : Nat → Int) (hR : ∀ i, i < 8 → U64 (R i)) (L : List Value) (hL : L.length ≤ 1000) : Goes 83 E M md 11 kD kA kB imm text R L := by
  have hf := hq.fok
  obtain ⟨di, hdi, hdi8⟩ := and7 kD ok.d.1 ok.d.2
  obtain ⟨ai, hai, hai8⟩ := and7 kA ok.a.1 ok.a.2
  obtain ⟨bi, hbi, hbi8⟩ := and7 kB ok.b.1 ok.b.2
  have ua := hR ai hai8
  have ub := hR bi hbi8
  have ud := hR di hdi8
  have ui := ok.i
  obtain ⟨s, _, h⟩ := toInt_dv q (R ai) ua
  exact ⟨R, L ++ [.string s], hR, .inr ⟨_, rfl⟩, nx_83_11 E M q hq md kD kA kB imm hmd text di ai bi hdi hdi8 hai hai8 hbi hbi8 R L hL s (fun tb w K ho hK => h w tb K ho hK)⟩

theorem na_12 (E M : Nat) (q : Bool) (hq : NaF E M q) (md kD kA kB imm : Int) (hm0 : 0 ≤ md) (hmd : md = 0 ∨ 4 < md) (ok : OpOk kD kA kB imm) (text : ByteArray) (R : Nat → Int) (hR : ∀ i, i < 8 → U64 (R i)) (L : List Value) (hL : L.length ≤ 1000) : Goes 83 E M md 12 kD kA kB imm text R L := by
  have hf := hq.fok
  obtain ⟨di, hdi, hdi8⟩ := and7 kD ok.d.1 ok.d.2
  obtain ⟨ai, hai, hai8⟩ := and7 kA ok.a.1 ok.a.2
  obtain ⟨bi, hbi, hbi8⟩ := and7 kB ok.b.1 ok.b.2
  have ua := hR ai hai8
  have ub := hR bi hbi8
  have ud := hR di hdi8
  have ui := ok.i
  have i0 := ui.1
  obtain ⟨r, ur, h⟩ := through_x E M q hq md (R di) (R ai) (imm % 256) (imm / 256 % 256) (by omega) (by omega) ud ua
  exact ⟨_, _, up_w hR ur di, .inl rfl, nx_83_12 E M q hq md kD kA kB imm hmd text di ai bi hdi hdi8 hai hai8 hbi hbi8 R L r h⟩

theorem na_13 (E M : Nat) (q : Bool) (hq : NaF E M q) (md kD kA kB imm : Int) (hm0 : 0 ≤ md) (hmd : md = 0 ∨ 4 < md) (ok : OpOk kD kA kB imm) (text : ByteArray) (R : Nat → Int) (hR : ∀ i, i < 8 → U64 (R i)) (L : List Value) (hL : L.length ≤ 1000) : Goes 83 E M md 13 kD kA kB imm text R L := by
  have hf := hq.fok
  obtain ⟨di, hdi, hdi8⟩ := and7 kD ok.d.1 ok.d.2
  obtain ⟨ai, hai, hai8⟩ := and7 kA ok.a.1 ok.a.2
  obtain ⟨bi, hbi, hbi8⟩ := and7 kB ok.b.1 ok.b.2
  have ua := hR ai hai8
  have ub := hR bi hbi8
  have ud := hR di hdi8
  have ui := ok.i
  obtain ⟨R', L', h1, h2, h3⟩ := read_j155 E M hf 13 md kD kA kB imm hm0 ok text R hR L hL
  exact ⟨R', L', h1, h2, nx_83_13 E M q hq md kD kA kB imm hmd text di ai bi hdi hdi8 hai hai8 hbi hbi8 R L R' L' h3⟩

theorem na_14 (E M : Nat) (q : Bool) (hq : NaF E M q) (md kD kA kB imm : Int) (hm0 : 0 ≤ md) (hmd : md = 0 ∨ 4 < md) (ok : OpOk kD kA kB imm) (text : ByteArray) (R : Nat → Int) (hR : ∀ i, i < 8 → U64 (R i)) (L : List Value) (hL : L.length ≤ 1000) : Goes 83 E M md 14 kD kA kB imm text R L := by
  have hf := hq.fok
  obtain ⟨di, hdi, hdi8⟩ := and7 kD ok.d.1 ok.d.2
  obtain ⟨ai, hai, hai8⟩ := and7 kA ok.a.1 ok.a.2
  obtain ⟨bi, hbi, hbi8⟩ := and7 kB ok.b.1 ok.b.2
  have ua := hR ai hai8
  have ub := hR bi hbi8
  have ud := hR di hdi8
  have ui := ok.i
  obtain ⟨_, ⟨nn, dd, ee, rfl, hc⟩, hD0⟩ := shortest_x E M hf (R ai) ua
  have hdd : dd.size ≤ 800 := by rcases hc with h | h <;> omega
  have he1 : -32768 ≤ ee := by rcases hc with h | h <;> omega
  have he2 : ee ≤ 32767 := by rcases hc with h | h <;> omega
  obtain ⟨_, ⟨sA, rfl, hsA⟩, hD1⟩ := detQ [.v (.agg #[.bool nn, .string dd, .int .i16 ee])] 1 (by decide) rfl (by kernel_rfl) (by kernel_rfl) (by simp [Arg.ok, selfV, selfC]) (text_ret nn dd (by omega) ee he1 he2) (by rintro _ ⟨_, rfl, _⟩; rfl)
  obtain ⟨_, ⟨s0, rfl, _⟩, hD2⟩ := orName292_det E M hf (R ai) ua sA (by omega)
  exact ⟨R, L ++ [.string s0], hR, .inr ⟨_, rfl⟩, nx_83_14 E M q hq md kD kA kB imm hmd text di ai bi hdi hdi8 hai hai8 hbi hbi8 R L hL s0 (fun tb => show_156 E M hf (R ai) nn dd ee sA s0 tb (fun w K ho hK => hD0 w tb K ho hK) (fun w K ho hK => hD1 w tb K ho hK) (fun w K ho hK => hD2 w tb K ho hK))⟩

theorem na_15 (E M : Nat) (q : Bool) (hq : NaF E M q) (md kD kA kB imm : Int) (hm0 : 0 ≤ md) (hmd : md = 0 ∨ 4 < md) (ok : OpOk kD kA kB imm) (text : ByteArray) (R : Nat → Int) (hR : ∀ i, i < 8 → U64 (R i)) (L : List Value) (hL : L.length ≤ 1000) : Goes 157 E M md 15 kD kA kB imm text R L := by
  have hf := hq.fok
  obtain ⟨di, hdi, hdi8⟩ := and7 kD ok.d.1 ok.d.2
  obtain ⟨ai, hai, hai8⟩ := and7 kA ok.a.1 ok.a.2
  obtain ⟨bi, hbi, hbi8⟩ := and7 kB ok.b.1 ok.b.2
  have ua := hR ai hai8
  have ub := hR bi hbi8
  have ud := hR di hdi8
  have ui := ok.i
  obtain ⟨ci, hci, hci8⟩ := and7u imm ok.i
  obtain ⟨r, ur, h⟩ := fma_ex q (R ai) (R bi) (R ci) ua ub (hR ci hci8)
  exact ⟨_, _, up_w hR ur di, .inl rfl, nx_157_15 E M q hq md kD kA kB imm text di ai bi hdi hdi8 hai hai8 hbi hbi8 R L r ci hci hci8 (NRet.dft h)⟩

theorem na_16 (E M : Nat) (q : Bool) (hq : NaF E M q) (md kD kA kB imm : Int) (hm0 : 0 ≤ md) (hmd : md = 0 ∨ 4 < md) (ok : OpOk kD kA kB imm) (text : ByteArray) (R : Nat → Int) (hR : ∀ i, i < 8 → U64 (R i)) (L : List Value) (hL : L.length ≤ 1000) : Goes 157 E M md 16 kD kA kB imm text R L := by
  have hf := hq.fok
  obtain ⟨di, hdi, hdi8⟩ := and7 kD ok.d.1 ok.d.2
  obtain ⟨ai, hai, hai8⟩ := and7 kA ok.a.1 ok.a.2
  obtain ⟨bi, hbi, hbi8⟩ := and7 kB ok.b.1 ok.b.2
  have ua := hR ai hai8
  have ub := hR bi hbi8
  have ud := hR di hdi8
  have ui := ok.i
  obtain ⟨r, ur, h⟩ := byWide_ex q 16 kD kA kB imm text (R ai) (R bi) ua ub ui
  exact ⟨_, _, up_w hR ur di, .inl rfl, nx_157_16 E M q hq md kD kA kB imm text di ai bi hdi hdi8 hai hai8 hbi hbi8 R L r (ret_dft h)⟩

theorem na_17 (E M : Nat) (q : Bool) (hq : NaF E M q) (md kD kA kB imm : Int) (hm0 : 0 ≤ md) (hmd : md = 0 ∨ 4 < md) (ok : OpOk kD kA kB imm) (text : ByteArray) (R : Nat → Int) (hR : ∀ i, i < 8 → U64 (R i)) (L : List Value) (hL : L.length ≤ 1000) : Goes 157 E M md 17 kD kA kB imm text R L := by
  have hf := hq.fok
  obtain ⟨di, hdi, hdi8⟩ := and7 kD ok.d.1 ok.d.2
  obtain ⟨ai, hai, hai8⟩ := and7 kA ok.a.1 ok.a.2
  obtain ⟨bi, hbi, hbi8⟩ := and7 kB ok.b.1 ok.b.2
  have ua := hR ai hai8
  have ub := hR bi hbi8
  have ud := hR di hdi8
  have ui := ok.i
  obtain ⟨r, ur, h⟩ := byWide_ex q 17 kD kA kB imm text (R ai) (R bi) ua ub ui
  exact ⟨_, _, up_w hR ur di, .inl rfl, nx_157_17 E M q hq md kD kA kB imm text di ai bi hdi hdi8 hai hai8 hbi hbi8 R L r (ret_dft h)⟩

theorem na_18 (E M : Nat) (q : Bool) (hq : NaF E M q) (md kD kA kB imm : Int) (hm0 : 0 ≤ md) (hmd : md = 0 ∨ 4 < md) (ok : OpOk kD kA kB imm) (text : ByteArray) (R : Nat → Int) (hR : ∀ i, i < 8 → U64 (R i)) (L : List Value) (hL : L.length ≤ 1000) : Goes 157 E M md 18 kD kA kB imm text R L := by
  have hf := hq.fok
  obtain ⟨di, hdi, hdi8⟩ := and7 kD ok.d.1 ok.d.2
  obtain ⟨ai, hai, hai8⟩ := and7 kA ok.a.1 ok.a.2
  obtain ⟨bi, hbi, hbi8⟩ := and7 kB ok.b.1 ok.b.2
  have ua := hR ai hai8
  have ub := hR bi hbi8
  have ud := hR di hdi8
  have ui := ok.i
  obtain ⟨r, ur, h⟩ := choose_ex q false (R ai) (R bi) ua ub
  exact ⟨_, _, up_w hR ur di, .inl rfl, nx_157_18 E M q hq md kD kA kB imm text di ai bi hdi hdi8 hai hai8 hbi hbi8 R L r (NRet.dft h)⟩

theorem na_19 (E M : Nat) (q : Bool) (hq : NaF E M q) (md kD kA kB imm : Int) (hm0 : 0 ≤ md) (hmd : md = 0 ∨ 4 < md) (ok : OpOk kD kA kB imm) (text : ByteArray) (R : Nat → Int) (hR : ∀ i, i < 8 → U64 (R i)) (L : List Value) (hL : L.length ≤ 1000) : Goes 157 E M md 19 kD kA kB imm text R L := by
  have hf := hq.fok
  obtain ⟨di, hdi, hdi8⟩ := and7 kD ok.d.1 ok.d.2
  obtain ⟨ai, hai, hai8⟩ := and7 kA ok.a.1 ok.a.2
  obtain ⟨bi, hbi, hbi8⟩ := and7 kB ok.b.1 ok.b.2
  have ua := hR ai hai8
  have ub := hR bi hbi8
  have ud := hR di hdi8
  have ui := ok.i
  obtain ⟨r, ur, h⟩ := choose_ex q true (R ai) (R bi) ua ub
  exact ⟨_, _, up_w hR ur di, .inl rfl, nx_157_19 E M q hq md kD kA kB imm text di ai bi hdi hdi8 hai hai8 hbi hbi8 R L r (NRet.dft h)⟩

theorem na_20 (E M : Nat) (q : Bool) (hq : NaF E M q) (md kD kA kB imm : Int) (hm0 : 0 ≤ md) (hmd : md = 0 ∨ 4 < md) (ok : OpOk kD kA kB imm) (text : ByteArray) (R : Nat → Int) (hR : ∀ i, i < 8 → U64 (R i)) (L : List Value) (hL : L.length ≤ 1000) : Goes 157 E M md 20 kD kA kB imm text R L := by
  have hf := hq.fok
  obtain ⟨di, hdi, hdi8⟩ := and7 kD ok.d.1 ok.d.2
  obtain ⟨ai, hai, hai8⟩ := and7 kA ok.a.1 ok.a.2
  obtain ⟨bi, hbi, hbi8⟩ := and7 kB ok.b.1 ok.b.2
  have ua := hR ai hai8
  have ub := hR bi hbi8
  have ud := hR di hdi8
  have ui := ok.i
  obtain ⟨z, uz, hz⟩ := inf_dft E M hf false
  obtain ⟨r, ur, h⟩ := beside_ex q (R ai) z ua uz
  exact ⟨_, _, up_w hR ur di, .inl rfl, nx_157_20 E M q hq md kD kA kB imm text di ai bi hdi hdi8 hai hai8 hbi hbi8 R L r z hz (NRet.dft h)⟩

theorem na_21 (E M : Nat) (q : Bool) (hq : NaF E M q) (md kD kA kB imm : Int) (hm0 : 0 ≤ md) (hmd : md = 0 ∨ 4 < md) (ok : OpOk kD kA kB imm) (text : ByteArray) (R : Nat → Int) (hR : ∀ i, i < 8 → U64 (R i)) (L : List Value) (hL : L.length ≤ 1000) : Goes 157 E M md 21 kD kA kB imm text R L := by
  have hf := hq.fok
  obtain ⟨di, hdi, hdi8⟩ := and7 kD ok.d.1 ok.d.2
  obtain ⟨ai, hai, hai8⟩ := and7 kA ok.a.1 ok.a.2
  obtain ⟨bi, hbi, hbi8⟩ := and7 kB ok.b.1 ok.b.2
  have ua := hR ai hai8
  have ub := hR bi hbi8
  have ud := hR di hdi8
  have ui := ok.i
  obtain ⟨z, uz, hz⟩ := inf_dft E M hf true
  obtain ⟨r, ur, h⟩ := beside_ex q (R ai) z ua uz
  exact ⟨_, _, up_w hR ur di, .inl rfl, nx_157_21 E M q hq md kD kA kB imm text di ai bi hdi hdi8 hai hai8 hbi hbi8 R L r z hz (NRet.dft h)⟩

theorem na_22 (E M : Nat) (q : Bool) (hq : NaF E M q) (md kD kA kB imm : Int) (hm0 : 0 ≤ md) (hmd : md = 0 ∨ 4 < md) (ok : OpOk kD kA kB imm) (text : ByteArray) (R : Nat → Int) (hR : ∀ i, i < 8 → U64 (R i)) (L : List Value) (hL : L.length ≤ 1000) : Goes 157 E M md 22 kD kA kB imm text R L := by
  have hf := hq.fok
  obtain ⟨di, hdi, hdi8⟩ := and7 kD ok.d.1 ok.d.2
  obtain ⟨ai, hai, hai8⟩ := and7 kA ok.a.1 ok.a.2
  obtain ⟨bi, hbi, hbi8⟩ := and7 kB ok.b.1 ok.b.2
  have ua := hR ai hai8
  have ub := hR bi hbi8
  have ud := hR di hdi8
  have ui := ok.i
  exact ⟨R, L, hR, .inl rfl, nx_157_22 E M q hq md kD kA kB imm text di ai bi hdi hdi8 hai hai8 hbi hbi8 R L⟩

theorem na_28 (E M : Nat) (q : Bool) (hq : NaF E M q) (md kD kA kB imm : Int) (hm0 : 0 ≤ md) (hmd : md = 0 ∨ 4 < md) (ok : OpOk kD kA kB imm) (text : ByteArray) (R : Nat → Int) (hR : ∀ i, i < 8 → U64 (R i)) (L : List Value) (hL : L.length ≤ 1000) : Goes 157 E M md 28 kD kA kB imm text R L := by
  have hf := hq.fok
  obtain ⟨di, hdi, hdi8⟩ := and7 kD ok.d.1 ok.d.2
  obtain ⟨ai, hai, hai8⟩ := and7 kA ok.a.1 ok.a.2
  obtain ⟨bi, hbi, hbi8⟩ := and7 kB ok.b.1 ok.b.2
  have ua := hR ai hai8
  have ub := hR bi hbi8
  have ud := hR di hdi8
  have ui := ok.i
  exact ⟨R, L, hR, .inl rfl, nx_157_28 E M q hq md kD kA kB imm text di ai bi hdi hdi8 hai hai8 hbi hbi8 R L⟩

theorem na_29 (E M : Nat) (q : Bool) (hq : NaF E M q) (md kD kA kB imm : Int) (hm0 : 0 ≤ md) (hmd : md = 0 ∨ 4 < md) (ok : OpOk kD kA kB imm) (text : ByteArray) (R : Nat → Int) (hR : ∀ i, i < 8 → U64 (R i)) (L : List Value) (hL : L.length ≤ 1000) : Goes 157 E M md 29 kD kA kB imm text R L := by
  have hf := hq.fok
  obtain ⟨di, hdi, hdi8⟩ := and7 kD ok.d.1 ok.d.2
  obtain ⟨ai, hai, hai8⟩ := and7 kA ok.a.1 ok.a.2
  obtain ⟨bi, hbi, hbi8⟩ := and7 kB ok.b.1 ok.b.2
  have ua := hR ai hai8
  have ub := hR bi hbi8
  have ud := hR di hdi8
  have ui := ok.i
  exact ⟨R, L, hR, .inl rfl, nx_157_29 E M q hq md kD kA kB imm text di ai bi hdi hdi8 hai hai8 hbi hbi8 R L⟩

theorem na_30 (E M : Nat) (q : Bool) (hq : NaF E M q) (md kD kA kB imm : Int) (hm0 : 0 ≤ md) (hmd : md = 0 ∨ 4 < md) (ok : OpOk kD kA kB imm) (text : ByteArray) (R : Nat → Int) (hR : ∀ i, i < 8 → U64 (R i)) (L : List Value) (hL : L.length ≤ 1000) : Goes 157 E M md 30 kD kA kB imm text R L := by
  have hf := hq.fok
  obtain ⟨di, hdi, hdi8⟩ := and7 kD ok.d.1 ok.d.2
  obtain ⟨ai, hai, hai8⟩ := and7 kA ok.a.1 ok.a.2
  obtain ⟨bi, hbi, hbi8⟩ := and7 kB ok.b.1 ok.b.2
  have ua := hR ai hai8
  have ub := hR bi hbi8
  have ud := hR di hdi8
  have ui := ok.i
  exact ⟨R, L, hR, .inl rfl, nx_157_30 E M q hq md kD kA kB imm text di ai bi hdi hdi8 hai hai8 hbi hbi8 R L⟩

theorem na_33 (E M : Nat) (q : Bool) (hq : NaF E M q) (md kD kA kB imm : Int) (hm0 : 0 ≤ md) (hmd : md = 0 ∨ 4 < md) (ok : OpOk kD kA kB imm) (text : ByteArray) (R : Nat → Int) (hR : ∀ i, i < 8 → U64 (R i)) (L : List Value) (hL : L.length ≤ 1000) : Goes 157 E M md 33 kD kA kB imm text R L := by
  have hf := hq.fok
  obtain ⟨di, hdi, hdi8⟩ := and7 kD ok.d.1 ok.d.2
  obtain ⟨ai, hai, hai8⟩ := and7 kA ok.a.1 ok.a.2
  obtain ⟨bi, hbi, hbi8⟩ := and7 kB ok.b.1 ok.b.2
  have ua := hR ai hai8
  have ub := hR bi hbi8
  have ud := hR di hdi8
  have ui := ok.i
  exact ⟨R, L, hR, .inl rfl, nx_157_33 E M q hq md kD kA kB imm text di ai bi hdi hdi8 hai hai8 hbi hbi8 R L⟩

theorem na_23 (E M : Nat) (q : Bool) (hq : NaF E M q) (md kD kA kB imm : Int) (hm0 : 0 ≤ md) (hmd : md = 0 ∨ 4 < md) (ok : OpOk kD kA kB imm) (text : ByteArray) (R : Nat → Int) (hR : ∀ i, i < 8 → U64 (R i)) (L : List Value) (hL : L.length ≤ 1000) : Goes 157 E M md 23 kD kA kB imm text R L := by
  have hf := hq.fok
  obtain ⟨di, hdi, hdi8⟩ := and7 kD ok.d.1 ok.d.2
  obtain ⟨ai, hai, hai8⟩ := and7 kA ok.a.1 ok.a.2
  obtain ⟨bi, hbi, hbi8⟩ := and7 kB ok.b.1 ok.b.2
  have ua := hR ai hai8
  have ub := hR bi hbi8
  have ud := hR di hdi8
  have ui := ok.i
  have i1 := ok.i.1
  obtain ⟨nb, hnb⟩ : ∃ nb, (bits .and .u64 (R ai) (2 ^ (E + M)) != 0) = nb := ⟨_, rfl⟩
  obtain ⟨_, ⟨s, e, rfl, hs, he1, he2⟩, hD1⟩ := digitsE_det E M hf (R ai) (imm % 2001) ua (by omega) (by omega)
  obtain ⟨_, ⟨t, rfl, ht⟩, hD2⟩ := textE_det nb s hs e he1 he2
  obtain ⟨_, ⟨u, rfl, _⟩, hD3⟩ := orName292_det E M hf (R ai) ua t ht
  exact ⟨R, L ++ [.string u], hR, .inr ⟨_, rfl⟩, nx_157_23 E M q hq md kD kA kB imm text di ai bi hdi hdi8 hai hai8 hbi hbi8 R L hL u (fun tb => dig_299_23 E M hf (R ai) kD kA kB imm ok.i text nb hnb s t u e (fun tb w K ho hK => hD1 w tb K ho hK) (fun tb w K ho hK => hD2 w tb K ho hK) (fun tb w K ho hK => hD3 w tb K ho hK) tb)⟩

theorem na_24 (E M : Nat) (q : Bool) (hq : NaF E M q) (md kD kA kB imm : Int) (hm0 : 0 ≤ md) (hmd : md = 0 ∨ 4 < md) (ok : OpOk kD kA kB imm) (text : ByteArray) (R : Nat → Int) (hR : ∀ i, i < 8 → U64 (R i)) (L : List Value) (hL : L.length ≤ 1000) : Goes 157 E M md 24 kD kA kB imm text R L := by
  have hf := hq.fok
  obtain ⟨di, hdi, hdi8⟩ := and7 kD ok.d.1 ok.d.2
  obtain ⟨ai, hai, hai8⟩ := and7 kA ok.a.1 ok.a.2
  obtain ⟨bi, hbi, hbi8⟩ := and7 kB ok.b.1 ok.b.2
  have ua := hR ai hai8
  have ub := hR bi hbi8
  have ud := hR di hdi8
  have ui := ok.i
  have i1 := ok.i.1
  obtain ⟨nb, hnb⟩ : ∃ nb, (bits .and .u64 (R ai) (2 ^ (E + M)) != 0) = nb := ⟨_, rfl⟩
  obtain ⟨P, hP⟩ : ∃ P : Nat, imm % 2001 = (P : Int) := ⟨(imm % 2001).toNat, by omega⟩
  obtain ⟨_, ⟨s, rfl, hs⟩, hD1⟩ := digitsF_det E M hf (R ai) (imm % 2001) ua (by omega) (by omega)
  obtain ⟨t, ht, hD2⟩ := textF_x nb s (by omega) P (by omega)
  rw [← hP] at hD2
  obtain ⟨_, ⟨u, rfl, _⟩, hD3⟩ := orName292_det E M hf (R ai) ua t ht
  exact ⟨R, L ++ [.string u], hR, .inr ⟨_, rfl⟩, nx_157_24 E M q hq md kD kA kB imm text di ai bi hdi hdi8 hai hai8 hbi hbi8 R L hL u (fun tb => dig_299_24 E M hf (R ai) kD kA kB imm ok.i text nb hnb s t u (fun tb w K ho hK => hD1 w tb K ho hK) (fun tb w K ho hK => hD2 w tb K ho hK) (fun tb w K ho hK => hD3 w tb K ho hK) tb)⟩

theorem na_25 (E M : Nat) (q : Bool) (hq : NaF E M q) (md kD kA kB imm : Int) (hm0 : 0 ≤ md) (hmd : md = 0 ∨ 4 < md) (ok : OpOk kD kA kB imm) (text : ByteArray) (R : Nat → Int) (hR : ∀ i, i < 8 → U64 (R i)) (L : List Value) (hL : L.length ≤ 1000) : Goes 157 E M md 25 kD kA kB imm text R L := by
  have hf := hq.fok
  obtain ⟨di, hdi, hdi8⟩ := and7 kD ok.d.1 ok.d.2
  obtain ⟨ai, hai, hai8⟩ := and7 kA ok.a.1 ok.a.2
  obtain ⟨bi, hbi, hbi8⟩ := and7 kB ok.b.1 ok.b.2
  have ua := hR ai hai8
  have ub := hR bi hbi8
  have ud := hR di hdi8
  have ui := ok.i
  obtain ⟨_, ⟨t, rfl, ht⟩, hD1⟩ := hexText_det E M hf (R ai) ua
  obtain ⟨_, ⟨s, rfl, _⟩, hD2⟩ := orName292_det E M hf (R ai) ua t (by omega)
  exact ⟨R, L ++ [.string s], hR, .inr ⟨_, rfl⟩, nx_157_25 E M q hq md kD kA kB imm text di ai bi hdi hdi8 hai hai8 hbi hbi8 R L hL s t (fun tb w K ho hK => hD1 w tb K ho hK) (fun tb w K ho hK => hD2 w tb K ho hK)⟩

theorem na_26 (E M : Nat) (q : Bool) (hq : NaF E M q) (md kD kA kB imm : Int) (hm0 : 0 ≤ md) (hmd : md = 0 ∨ 4 < md) (ok : OpOk kD kA kB imm) (text : ByteArray) (R : Nat → Int) (hR : ∀ i, i < 8 → U64 (R i)) (L : List Value) (hL : L.length ≤ 1000) : Goes 157 E M md 26 kD kA kB imm text R L := by
  have hf := hq.fok
  obtain ⟨di, hdi, hdi8⟩ := and7 kD ok.d.1 ok.d.2
  obtain ⟨ai, hai, hai8⟩ := and7 kA ok.a.1 ok.a.2
  obtain ⟨bi, hbi, hbi8⟩ := and7 kB ok.b.1 ok.b.2
  have ua := hR ai hai8
  have ub := hR bi hbi8
  have ud := hR di hdi8
  have ui := ok.i
  obtain ⟨_, ⟨k, nn, dd, ee, pp, gg, rfl, k0, k4, hdd, he1, he2⟩, hS⟩ := hscan_x text
  have hS' : ∀ tb, DFT tb 266 #[.string text] (scanV k nn dd ee pp gg) := fun tb w K ho hK => hS w tb K ho hK
  obtain ⟨r, hr, hB⟩ := bits_x E M hf md nn dd (by omega) ee he1 he2
  unfold scanV at hS'
  rcases (show k = 0 ∨ k = 1 ∨ k = 2 ∨ k = 3 ∨ k = 4 by omega) with rfl | rfl | rfl | rfl | rfl
  · exact ⟨up R di r, L, up_w hR hr di, .inl rfl, nx_157_26_0 E M q hq md kD kA kB imm text nn dd ee pp gg di hdi hdi8 ai bi hai hai8 hbi hbi8 R L hL hS' r (fun tb w K ho hK => hB w tb K ho hK)⟩
  · exact ⟨R, L ++ [_], hR, .inr ⟨_, rfl⟩, nx_157_26_1 E M q hq md kD kA kB imm text nn dd ee pp gg di hdi hdi8 ai bi hai hai8 hbi hbi8 R L hL hS'⟩
  · exact ⟨R, L ++ [_], hR, .inr ⟨_, rfl⟩, nx_157_26_2 E M q hq md kD kA kB imm text nn dd ee pp gg di hdi hdi8 ai bi hai hai8 hbi hbi8 R L hL hS'⟩
  · exact ⟨R, L ++ [_], hR, .inr ⟨_, rfl⟩, nx_157_26_3 E M q hq md kD kA kB imm text nn dd ee pp gg di hdi hdi8 ai bi hai hai8 hbi hbi8 R L hL hS'⟩
  · exact ⟨R, L ++ [_], hR, .inr ⟨_, rfl⟩, nx_157_26_4 E M q hq md kD kA kB imm text nn dd ee pp gg di hdi hdi8 ai bi hai hai8 hbi hbi8 R L hL hS'⟩

theorem na_27 (E M : Nat) (q : Bool) (hq : NaF E M q) (md kD kA kB imm : Int) (hm0 : 0 ≤ md) (hmd : md = 0 ∨ 4 < md) (ok : OpOk kD kA kB imm) (text : ByteArray) (R : Nat → Int) (hR : ∀ i, i < 8 → U64 (R i)) (L : List Value) (hL : L.length ≤ 1000) : Goes 157 E M md 27 kD kA kB imm text R L := by
  have hf := hq.fok
  obtain ⟨di, hdi, hdi8⟩ := and7 kD ok.d.1 ok.d.2
  obtain ⟨ai, hai, hai8⟩ := and7 kA ok.a.1 ok.a.2
  obtain ⟨bi, hbi, hbi8⟩ := and7 kB ok.b.1 ok.b.2
  have ua := hR ai hai8
  have ub := hR bi hbi8
  have ud := hR di hdi8
  have ui := ok.i
  obtain ⟨R', L', h1, h2, h3⟩ := read_j300 E M hf 27 md kD kA kB imm hm0 ok text R hR L hL
  exact ⟨R', L', h1, h2, nx_157_27 E M q hq md kD kA kB imm text di ai bi hdi hdi8 hai hai8 hbi hbi8 R L R' L' h3⟩

theorem na_31 (E M : Nat) (q : Bool) (hq : NaF E M q) (md kD kA kB imm : Int) (hm0 : 0 ≤ md) (hmd : md = 0 ∨ 4 < md) (ok : OpOk kD kA kB imm) (text : ByteArray) (R : Nat → Int) (hR : ∀ i, i < 8 → U64 (R i)) (L : List Value) (hL : L.length ≤ 1000) : Goes 157 E M md 31 kD kA kB imm text R L := by
  have hf := hq.fok
  obtain ⟨di, hdi, hdi8⟩ := and7 kD ok.d.1 ok.d.2
  obtain ⟨ai, hai, hai8⟩ := and7 kA ok.a.1 ok.a.2
  obtain ⟨bi, hbi, hbi8⟩ := and7 kB ok.b.1 ok.b.2
  have ua := hR ai hai8
  have ub := hR bi hbi8
  have ud := hR di hdi8
  have ui := ok.i
  obtain ⟨r, ur, h⟩ := scaled_ex q (R ai) (wrap64 imm) ua (wr64i imm).1 (wr64i imm).2
  exact ⟨_, _, up_w hR ur di, .inl rfl, nx_157_31 E M q hq md kD kA kB imm text di ai bi hdi hdi8 hai hai8 hbi hbi8 R L r (NRet.dft h)⟩

theorem na_32 (E M : Nat) (q : Bool) (hq : NaF E M q) (md kD kA kB imm : Int) (hm0 : 0 ≤ md) (hmd : md = 0 ∨ 4 < md) (ok : OpOk kD kA kB imm) (text : ByteArray) (R : Nat → Int) (hR : ∀ i, i < 8 → U64 (R i)) (L : List Value) (hL : L.length ≤ 1000) : Goes 157 E M md 32 kD kA kB imm text R L := by
  have hf := hq.fok
  obtain ⟨di, hdi, hdi8⟩ := and7 kD ok.d.1 ok.d.2
  obtain ⟨ai, hai, hai8⟩ := and7 kA ok.a.1 ok.a.2
  obtain ⟨bi, hbi, hbi8⟩ := and7 kB ok.b.1 ok.b.2
  have ua := hR ai hai8
  have ub := hR bi hbi8
  have ud := hR di hdi8
  have ui := ok.i
  cases q
  · obtain ⟨z, uz, hW⟩ := widen_ex (R ai % 4294967296) (u32_mod _)
    obtain ⟨li, lb, l1, l2, h⟩ := logB64_ex z uz
    obtain ⟨_, ⟨s, rfl, hs⟩, hd⟩ := det288 li (by omega) (by omega) lb
    exact ⟨R, L ++ [.string s], hR, .inr ⟨_, rfl⟩, nx_157_32f E M false hq md kD kA kB imm text di ai bi hdi hdi8 hai hai8 hbi hbi8 R L hL s rfl li lb z (NRet.dft h) (fun tb w K ho hK => hd w tb K ho hK) (NRet.dft hW)⟩
  · obtain ⟨li, lb, l1, l2, h⟩ := logB64_ex (R ai) ua
    obtain ⟨_, ⟨s, rfl, hs⟩, hd⟩ := det288 li (by omega) (by omega) lb
    exact ⟨R, L ++ [.string s], hR, .inr ⟨_, rfl⟩, nx_157_32t E M true hq md kD kA kB imm text di ai bi hdi hdi8 hai hai8 hbi hbi8 R L hL s rfl li lb (NRet.dft h) (fun tb w K ho hK => hd w tb K ho hK)⟩

theorem na_more (E M : Nat) (q : Bool) (hq : NaF E M q) (md kd kD kA kB imm : Int) (hk0 : 0 ≤ kd) (hm0 : 0 ≤ md) (hmd : md = 0 ∨ 4 < md) (ok : OpOk kD kA kB imm) (text : ByteArray) (R : Nat → Int) (hR : ∀ i, i < 8 → U64 (R i)) (L : List Value) (hL : L.length ≤ 1000) (h15 : 15 ≤ kd) : Goes 157 E M md kd kD kA kB imm text R L := by
  by_cases h33 : kd ≤ 33
  · rcases (show kd = 15 ∨ kd = 16 ∨ kd = 17 ∨ kd = 18 ∨ kd = 19 ∨ kd = 20 ∨ kd = 21 ∨ kd = 22 ∨ kd = 23 ∨ kd = 24 ∨ kd = 25 ∨ kd = 26 ∨ kd = 27 ∨ kd = 28 ∨ kd = 29 ∨ kd = 30 ∨ kd = 31 ∨ kd = 32 ∨ kd = 33 by omega) with rfl | rfl | rfl | rfl | rfl | rfl | rfl | rfl | rfl | rfl | rfl | rfl | rfl | rfl | rfl | rfl | rfl | rfl | rfl
    · exact na_15 E M q hq md kD kA kB imm hm0 hmd ok text R hR L hL
    · exact na_16 E M q hq md kD kA kB imm hm0 hmd ok text R hR L hL
    · exact na_17 E M q hq md kD kA kB imm hm0 hmd ok text R hR L hL
    · exact na_18 E M q hq md kD kA kB imm hm0 hmd ok text R hR L hL
    · exact na_19 E M q hq md kD kA kB imm hm0 hmd ok text R hR L hL
    · exact na_20 E M q hq md kD kA kB imm hm0 hmd ok text R hR L hL
    · exact na_21 E M q hq md kD kA kB imm hm0 hmd ok text R hR L hL
    · exact na_22 E M q hq md kD kA kB imm hm0 hmd ok text R hR L hL
    · exact na_23 E M q hq md kD kA kB imm hm0 hmd ok text R hR L hL
    · exact na_24 E M q hq md kD kA kB imm hm0 hmd ok text R hR L hL
    · exact na_25 E M q hq md kD kA kB imm hm0 hmd ok text R hR L hL
    · exact na_26 E M q hq md kD kA kB imm hm0 hmd ok text R hR L hL
    · exact na_27 E M q hq md kD kA kB imm hm0 hmd ok text R hR L hL
    · exact na_28 E M q hq md kD kA kB imm hm0 hmd ok text R hR L hL
    · exact na_29 E M q hq md kD kA kB imm hm0 hmd ok text R hR L hL
    · exact na_30 E M q hq md kD kA kB imm hm0 hmd ok text R hR L hL
    · exact na_31 E M q hq md kD kA kB imm hm0 hmd ok text R hR L hL
    · exact na_32 E M q hq md kD kA kB imm hm0 hmd ok text R hR L hL
    · exact na_33 E M q hq md kD kA kB imm hm0 hmd ok text R hR L hL
  · obtain ⟨di, hdi, hdi8⟩ := and7 kD ok.d.1 ok.d.2
    obtain ⟨ai, hai, hai8⟩ := and7 kA ok.a.1 ok.a.2
    obtain ⟨bi, hbi, hbi8⟩ := and7 kB ok.b.1 ok.b.2
    exact ⟨R, L, hR, .inl rfl, nx_157_oth E M q hq md kD kA kB imm text di ai bi hdi hdi8 hai hai8 hbi hbi8 R L kd (by omega)⟩
theorem na_all (E M : Nat) (q : Bool) (hq : NaF E M q) (md kd kD kA kB imm : Int) (hk0 : 0 ≤ kd) (hm0 : 0 ≤ md) (hmd : md = 0 ∨ 4 < md) (ok : OpOk kD kA kB imm) (text : ByteArray) (R : Nat → Int) (hR : ∀ i, i < 8 → U64 (R i)) (L : List Value) (hL : L.length ≤ 1000) : Goes 83 E M md kd kD kA kB imm text R L := by
  by_cases h14 : kd ≤ 14
  · rcases (show kd = 0 ∨ kd = 1 ∨ kd = 2 ∨ kd = 3 ∨ kd = 4 ∨ kd = 5 ∨ kd = 6 ∨ kd = 7 ∨ kd = 8 ∨ kd = 9 ∨ kd = 10 ∨ kd = 11 ∨ kd = 12 ∨ kd = 13 ∨ kd = 14 by omega) with rfl | rfl | rfl | rfl | rfl | rfl | rfl | rfl | rfl | rfl | rfl | rfl | rfl | rfl | rfl
    · exact na_0 E M q hq md kD kA kB imm hm0 hmd ok text R hR L hL
    · exact na_1 E M q hq md kD kA kB imm hm0 hmd ok text R hR L hL
    · exact na_2 E M q hq md kD kA kB imm hm0 hmd ok text R hR L hL
    · exact na_3 E M q hq md kD kA kB imm hm0 hmd ok text R hR L hL
    · exact na_4 E M q hq md kD kA kB imm hm0 hmd ok text R hR L hL
    · exact na_5 E M q hq md kD kA kB imm hm0 hmd ok text R hR L hL
    · exact na_6 E M q hq md kD kA kB imm hm0 hmd ok text R hR L hL
    · exact na_7 E M q hq md kD kA kB imm hm0 hmd ok text R hR L hL
    · exact na_8 E M q hq md kD kA kB imm hm0 hmd ok text R hR L hL
    · exact na_9 E M q hq md kD kA kB imm hm0 hmd ok text R hR L hL
    · exact na_10 E M q hq md kD kA kB imm hm0 hmd ok text R hR L hL
    · exact na_11 E M q hq md kD kA kB imm hm0 hmd ok text R hR L hL
    · exact na_12 E M q hq md kD kA kB imm hm0 hmd ok text R hR L hL
    · exact na_13 E M q hq md kD kA kB imm hm0 hmd ok text R hR L hL
    · exact na_14 E M q hq md kD kA kB imm hm0 hmd ok text R hR L hL
  · obtain ⟨di, hdi, hdi8⟩ := and7 kD ok.d.1 ok.d.2
    obtain ⟨ai, hai, hai8⟩ := and7 kA ok.a.1 ok.a.2
    obtain ⟨bi, hbi, hbi8⟩ := and7 kB ok.b.1 ok.b.2
    obtain ⟨R', L', h1, h2, h3⟩ := na_more E M q hq md kd kD kA kB imm hk0 hm0 hmd ok text R hR L hL (by omega)
    exact ⟨R', L', h1, h2, nx_83_hi E M q hq md kD kA kB imm hmd text di ai bi hdi hdi8 hai hai8 hbi hbi8 R L R' L' kd (by omega) h3⟩
end Go.Proofs.YgcoaaGreat.NatW
