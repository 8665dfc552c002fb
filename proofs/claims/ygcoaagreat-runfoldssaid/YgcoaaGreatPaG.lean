/-
  parse.Parse, second.Parse: one answer in every memory.
-/
import Derived.Test.YgcoaaGreatPaB
import Derived.Test.YgcoaaGreatPaC
import Derived.Test.YgcoaaGreatPaD
import Derived.Test.YgcoaaGreatPaE
import Derived.Test.YgcoaaGreatPaF
import Derived.Test.YgcoaaGreatClB
import Derived.Test.YgcoaaGreatExK
import Derived.Test.YgcoaaGreatBtA
set_option linter.unusedVariables false
set_option linter.unusedSimpArgs false
set_option maxRecDepth 20000
namespace Go.Proofs.YgcoaaGreat.NatW
open Go.RowKit
open Go.Proofs.YgcoaaGreat.Det
open Go.Proofs.YgcoaaGreat.Limbs Go.Proofs.YgcoaaGreat.Bits
attribute [local go_sem] Go.Instr.field Go.asAgg

/-- A pattern and the way by which it was found: one answer in every memory. -/
def ParR (g : FuncId) (E M : Nat) (md : Int) (n : Bool) (d : ByteArray) (e : Int) (fast : Bool) : Prop :=
  ∃ r p, U64 r ∧ ∀ tb, DFT tb g #[.pointer (some ⟨tb, 0, none⟩), fmt E M, .int .u8 md, .agg #[.bool n, .string d, .int .i16 e], .bool fast] (.tuple #[.int .u64 r, .int .u8 p])
theorem sb_dft (E M : Nat) (hf : fok E M = true) : ∃ sb, U64 sb ∧ ∀ tb, DFT tb 104 #[fmt E M] (.int .u64 sb) :=
  ⟨_, sb_u64 hf, fun tb w K ho hK => (signBit_ret E M hf) w K fun v w' hv hb => by subst hv; exact hK w' hb⟩

theorem pj_54_11 (md : Int) (hmd : md = 0 ∨ 4 < md) (n : Bool) (d : ByteArray) (e : Int) (h1 : -32768 ≤ e) (h2 : e ≤ 32767) (hd : d.size ≤ 1000000) (hc : Canon d e) (hz : ¬ d.size = 0) (fast : Bool) : ParR 54 11 52 md n d e fast := by
  have hf : fok 11 52 = true := rfl
  have hsz : d.size ≤ 800 := by rcases hc with h | h <;> omega
  have he1 : -2000 ≤ e ∧ e ≤ 2000 := by rcases hc with h | h <;> omega
  obtain ⟨sb, usb, hSB⟩ := sb_dft 11 52 hf
  obtain ⟨r, f, ur, hSl, _⟩ := slow_x 11 52 hf md n d e h1 h2 hd
  obtain ⟨_, ⟨man, rfl, hm0, hm1⟩, hMan⟩ := det105 d (by omega)
  have um : U64 man := ⟨hm0, by omega⟩
  by_cases h19 : 19 < d.size
  · obtain ⟨_, hv, hLo⟩ := det106 11 52 hf man hm0 hm1 (e + ((d.size : Int) - 19)) (by omega) (by omega)
    obtain ⟨_, _, rfl, ⟨lo, rfl, l0, l1⟩, ⟨okl, rfl, _⟩⟩ := tup2_of hv
    have wu := wr64 (man + 1)
    obtain ⟨_, hv2, hHi⟩ := det106 11 52 hf (IntKind.u64.wrap (man + 1)) wu.1 (by have := wu.2; omega) (e + ((d.size : Int) - 19)) (by omega) (by omega)
    obtain ⟨_, _, rfl, ⟨hi, rfl, g0, g1⟩, ⟨okh, rfl, _⟩⟩ := tup2_of hv2
    cases hl : okl
    · exact ⟨r, _, ur, fun tb => pl_54_11_L1 md hmd n d e h1 h2 hd hc hz fast sb tb (hSB tb) h19 man (fun w K ho hK => hMan w tb K ho hK) lo okl hi okh (fun w K ho hK => hLo w tb K ho hK) (fun w K ho hK => hHi w tb K ho hK) hl r (hSl tb)⟩
    · cases hh : okh
      · exact ⟨r, _, ur, fun tb => pl_54_11_L2 md hmd n d e h1 h2 hd hc hz fast sb tb (hSB tb) h19 man (fun w K ho hK => hMan w tb K ho hK) lo okl hi okh (fun w K ho hK => hLo w tb K ho hK) (fun w K ho hK => hHi w tb K ho hK) hl hh r (hSl tb)⟩
      · cases heq : (lo == hi)
        · exact ⟨r, _, ur, fun tb => pl_54_11_L3 md hmd n d e h1 h2 hd hc hz fast sb tb (hSB tb) h19 man (fun w K ho hK => hMan w tb K ho hK) lo okl hi okh (fun w K ho hK => hLo w tb K ho hK) (fun w K ho hK => hHi w tb K ho hK) hl hh heq r (hSl tb)⟩
        · exact ⟨_, _, or64 _ _, fun tb => pl_54_11_Lt md hmd n d e h1 h2 hd hc hz fast sb tb (hSB tb) h19 man (fun w K ho hK => hMan w tb K ho hK) lo okl hi okh (fun w K ho hK => hLo w tb K ho hK) (fun w K ho hK => hHi w tb K ho hK) hl hh heq⟩
  · obtain ⟨_, hv, hLo⟩ := det106 11 52 hf man hm0 hm1 e h1 h2
    obtain ⟨_, _, rfl, ⟨lo, rfl, l0, l1⟩, ⟨okl, rfl, _⟩⟩ := tup2_of hv
    obtain ⟨cv, cb, ucv, hCl⟩ := clinger_11 man e um h1 h2
    cases hfa : fast
    · cases okl
      · exact ⟨r, _, ur, fun tb => hfa ▸ pl_54_11_Sfs md hmd n d e h1 h2 hd hc hz fast sb tb (hSB tb) (by omega) man (fun w K ho hK => hMan w tb K ho hK) hfa lo (fun w K ho hK => hLo w tb K ho hK) r (hSl tb)⟩
      · exact ⟨_, _, or64 _ _, fun tb => hfa ▸ pl_54_11_Sft md hmd n d e h1 h2 hd hc hz fast sb tb (hSB tb) (by omega) man (fun w K ho hK => hMan w tb K ho hK) hfa lo (fun w K ho hK => hLo w tb K ho hK)⟩
    · cases cb
      · cases okl
        · exact ⟨r, _, ur, fun tb => hfa ▸ pl_54_11_Sgs md hmd n d e h1 h2 hd hc hz fast sb tb (hSB tb) (by omega) man (fun w K ho hK => hMan w tb K ho hK) hfa cv (hCl tb) lo (fun w K ho hK => hLo w tb K ho hK) r (hSl tb)⟩
        · exact ⟨_, _, or64 _ _, fun tb => hfa ▸ pl_54_11_Sgt md hmd n d e h1 h2 hd hc hz fast sb tb (hSB tb) (by omega) man (fun w K ho hK => hMan w tb K ho hK) hfa cv (hCl tb) lo (fun w K ho hK => hLo w tb K ho hK)⟩
      · exact ⟨_, _, or64 _ _, fun tb => hfa ▸ pl_54_11_Sc md hmd n d e h1 h2 hd hc hz fast sb tb (hSB tb) (by omega) man (fun w K ho hK => hMan w tb K ho hK) hfa cv (hCl tb)⟩

theorem pj_54_8 (md : Int) (hmd : md = 0 ∨ 4 < md) (n : Bool) (d : ByteArray) (e : Int) (h1 : -32768 ≤ e) (h2 : e ≤ 32767) (hd : d.size ≤ 1000000) (hc : Canon d e) (hz : ¬ d.size = 0) (fast : Bool) : ParR 54 8 23 md n d e fast := by
  have hf : fok 8 23 = true := rfl
  have hsz : d.size ≤ 800 := by rcases hc with h | h <;> omega
  have he1 : -2000 ≤ e ∧ e ≤ 2000 := by rcases hc with h | h <;> omega
  obtain ⟨sb, usb, hSB⟩ := sb_dft 8 23 hf
  obtain ⟨r, f, ur, hSl, _⟩ := slow_x 8 23 hf md n d e h1 h2 hd
  obtain ⟨_, ⟨man, rfl, hm0, hm1⟩, hMan⟩ := det105 d (by omega)
  have um : U64 man := ⟨hm0, by omega⟩
  by_cases h19 : 19 < d.size
  · obtain ⟨_, hv, hLo⟩ := det106 8 23 hf man hm0 hm1 (e + ((d.size : Int) - 19)) (by omega) (by omega)
    obtain ⟨_, _, rfl, ⟨lo, rfl, l0, l1⟩, ⟨okl, rfl, _⟩⟩ := tup2_of hv
    have wu := wr64 (man + 1)
    obtain ⟨_, hv2, hHi⟩ := det106 8 23 hf (IntKind.u64.wrap (man + 1)) wu.1 (by have := wu.2; omega) (e + ((d.size : Int) - 19)) (by omega) (by omega)
    obtain ⟨_, _, rfl, ⟨hi, rfl, g0, g1⟩, ⟨okh, rfl, _⟩⟩ := tup2_of hv2
    cases hl : okl
    · exact ⟨r, _, ur, fun tb => pl_54_8_L1 md hmd n d e h1 h2 hd hc hz fast sb tb (hSB tb) h19 man (fun w K ho hK => hMan w tb K ho hK) lo okl hi okh (fun w K ho hK => hLo w tb K ho hK) (fun w K ho hK => hHi w tb K ho hK) hl r (hSl tb)⟩
    · cases hh : okh
      · exact ⟨r, _, ur, fun tb => pl_54_8_L2 md hmd n d e h1 h2 hd hc hz fast sb tb (hSB tb) h19 man (fun w K ho hK => hMan w tb K ho hK) lo okl hi okh (fun w K ho hK => hLo w tb K ho hK) (fun w K ho hK => hHi w tb K ho hK) hl hh r (hSl tb)⟩
      · cases heq : (lo == hi)
        · exact ⟨r, _, ur, fun tb => pl_54_8_L3 md hmd n d e h1 h2 hd hc hz fast sb tb (hSB tb) h19 man (fun w K ho hK => hMan w tb K ho hK) lo okl hi okh (fun w K ho hK => hLo w tb K ho hK) (fun w K ho hK => hHi w tb K ho hK) hl hh heq r (hSl tb)⟩
        · exact ⟨_, _, or64 _ _, fun tb => pl_54_8_Lt md hmd n d e h1 h2 hd hc hz fast sb tb (hSB tb) h19 man (fun w K ho hK => hMan w tb K ho hK) lo okl hi okh (fun w K ho hK => hLo w tb K ho hK) (fun w K ho hK => hHi w tb K ho hK) hl hh heq⟩
  · obtain ⟨_, hv, hLo⟩ := det106 8 23 hf man hm0 hm1 e h1 h2
    obtain ⟨_, _, rfl, ⟨lo, rfl, l0, l1⟩, ⟨okl, rfl, _⟩⟩ := tup2_of hv
    obtain ⟨cv, cb, ucv, hCl⟩ := clinger_8 man e um h1 h2
    cases hfa : fast
    · cases okl
      · exact ⟨r, _, ur, fun tb => hfa ▸ pl_54_8_Sfs md hmd n d e h1 h2 hd hc hz fast sb tb (hSB tb) (by omega) man (fun w K ho hK => hMan w tb K ho hK) hfa lo (fun w K ho hK => hLo w tb K ho hK) r (hSl tb)⟩
      · exact ⟨_, _, or64 _ _, fun tb => hfa ▸ pl_54_8_Sft md hmd n d e h1 h2 hd hc hz fast sb tb (hSB tb) (by omega) man (fun w K ho hK => hMan w tb K ho hK) hfa lo (fun w K ho hK => hLo w tb K ho hK)⟩
    · cases cb
      · cases okl
        · exact ⟨r, _, ur, fun tb => hfa ▸ pl_54_8_Sgs md hmd n d e h1 h2 hd hc hz fast sb tb (hSB tb) (by omega) man (fun w K ho hK => hMan w tb K ho hK) hfa cv (hCl tb) lo (fun w K ho hK => hLo w tb K ho hK) r (hSl tb)⟩
        · exact ⟨_, _, or64 _ _, fun tb => hfa ▸ pl_54_8_Sgt md hmd n d e h1 h2 hd hc hz fast sb tb (hSB tb) (by omega) man (fun w K ho hK => hMan w tb K ho hK) hfa cv (hCl tb) lo (fun w K ho hK => hLo w tb K ho hK)⟩
      · exact ⟨_, _, or64 _ _, fun tb => hfa ▸ pl_54_8_Sc md hmd n d e h1 h2 hd hc hz fast sb tb (hSB tb) (by omega) man (fun w K ho hK => hMan w tb K ho hK) hfa cv (hCl tb)⟩

/-- PARSE.PARSE. -/
theorem parse_x54 (E M : Nat) (hf : fok E M = true) (md : Int) (m0 : 0 ≤ md) (n : Bool) (d : ByteArray) (e : Int) (h1 : -32768 ≤ e) (h2 : e ≤ 32767) (hd : d.size ≤ 1000000) (fast : Bool) : ParR 54 E M md n d e fast := by
  obtain ⟨sb, usb, hSB⟩ := sb_dft E M hf
  by_cases hc : Canon d e
  · by_cases hz : d.size = 0
    · exact ⟨_, _, psg_u usb, fun tb => pl_54_z E M hf md n d e h1 h2 hd hc hz fast sb tb (hSB tb)⟩
    · obtain ⟨r, f, ur, hSl, _⟩ := slow_x E M hf md n d e h1 h2 hd
      by_cases h64 : E = 11 ∧ M = 52
      · obtain ⟨rfl, rfl⟩ := h64
        by_cases hm : md = 0 ∨ 4 < md
        · exact pj_54_11 md hm n d e h1 h2 hd hc hz fast
        · exact ⟨r, _, ur, fun tb => pl_54_m11 md n d e h1 h2 hd hc hz (by omega) (by omega) fast sb tb (hSB tb) r (hSl tb)⟩
      · by_cases h32 : E = 8 ∧ M = 23
        · obtain ⟨rfl, rfl⟩ := h32
          by_cases hm : md = 0 ∨ 4 < md
          · exact pj_54_8 md hm n d e h1 h2 hd hc hz fast
          · exact ⟨r, _, ur, fun tb => pl_54_m8 md n d e h1 h2 hd hc hz (by omega) (by omega) fast sb tb (hSB tb) r (hSl tb)⟩
        · exact ⟨r, _, ur, fun tb => pl_54_f E M hf md n d e h1 h2 hd hc hz h64 h32 fast sb tb (hSB tb) r (hSl tb)⟩
  · exact ⟨_, _, u64_zero, fun tb => pl_54_no E M hf md n d e h1 h2 hd hc fast sb tb (hSB tb)⟩

theorem pj_55_11 (md : Int) (hmd : md = 0 ∨ 4 < md) (n : Bool) (d : ByteArray) (e : Int) (h1 : -32768 ≤ e) (h2 : e ≤ 32767) (hd : d.size ≤ 1000000) (hc : Canon d e) (hz : ¬ d.size = 0) (fast : Bool) : ParR 55 11 52 md n d e fast := by
  have hf : fok 11 52 = true := rfl
  have hsz : d.size ≤ 800 := by rcases hc with h | h <;> omega
  have he1 : -2000 ≤ e ∧ e ≤ 2000 := by rcases hc with h | h <;> omega
  obtain ⟨sb, usb, hSB⟩ := sb_dft 11 52 hf
  obtain ⟨r, f, ur, hSl, _⟩ := slow_x 11 52 hf md n d e h1 h2 hd
  obtain ⟨_, ⟨man, rfl, hm0, hm1⟩, hMan⟩ := det108 d (by omega)
  have um : U64 man := ⟨hm0, by omega⟩
  by_cases h19 : 19 < d.size
  · obtain ⟨_, hv, hLo⟩ := det109 11 52 hf man hm0 hm1 (e + ((d.size : Int) - 19)) (by omega) (by omega)
    obtain ⟨_, _, rfl, ⟨lo, rfl, l0, l1⟩, ⟨okl, rfl, _⟩⟩ := tup2_of hv
    have wu := wr64 (man + 1)
    obtain ⟨_, hv2, hHi⟩ := det109 11 52 hf (IntKind.u64.wrap (man + 1)) wu.1 (by have := wu.2; omega) (e + ((d.size : Int) - 19)) (by omega) (by omega)
    obtain ⟨_, _, rfl, ⟨hi, rfl, g0, g1⟩, ⟨okh, rfl, _⟩⟩ := tup2_of hv2
    cases hl : okl
    · exact ⟨r, _, ur, fun tb => pl_55_11_L1 md hmd n d e h1 h2 hd hc hz fast sb tb (hSB tb) h19 man (fun w K ho hK => hMan w tb K ho hK) lo okl hi okh (fun w K ho hK => hLo w tb K ho hK) (fun w K ho hK => hHi w tb K ho hK) hl r (hSl tb)⟩
    · cases hh : okh
      · exact ⟨r, _, ur, fun tb => pl_55_11_L2 md hmd n d e h1 h2 hd hc hz fast sb tb (hSB tb) h19 man (fun w K ho hK => hMan w tb K ho hK) lo okl hi okh (fun w K ho hK => hLo w tb K ho hK) (fun w K ho hK => hHi w tb K ho hK) hl hh r (hSl tb)⟩
      · cases heq : (hi == lo)
        · exact ⟨r, _, ur, fun tb => pl_55_11_L3 md hmd n d e h1 h2 hd hc hz fast sb tb (hSB tb) h19 man (fun w K ho hK => hMan w tb K ho hK) lo okl hi okh (fun w K ho hK => hLo w tb K ho hK) (fun w K ho hK => hHi w tb K ho hK) hl hh heq r (hSl tb)⟩
        · exact ⟨_, _, or64 _ _, fun tb => pl_55_11_Lt md hmd n d e h1 h2 hd hc hz fast sb tb (hSB tb) h19 man (fun w K ho hK => hMan w tb K ho hK) lo okl hi okh (fun w K ho hK => hLo w tb K ho hK) (fun w K ho hK => hHi w tb K ho hK) hl hh heq⟩
  · obtain ⟨_, hv, hLo⟩ := det109 11 52 hf man hm0 hm1 e h1 h2
    obtain ⟨_, _, rfl, ⟨lo, rfl, l0, l1⟩, ⟨okl, rfl, _⟩⟩ := tup2_of hv
    obtain ⟨cv, cb, ucv, hCl⟩ := clinger_11 man e um h1 h2
    cases hfa : fast
    · cases okl
      · exact ⟨r, _, ur, fun tb => hfa ▸ pl_55_11_Sfs md hmd n d e h1 h2 hd hc hz fast sb tb (hSB tb) (by omega) man (fun w K ho hK => hMan w tb K ho hK) hfa lo (fun w K ho hK => hLo w tb K ho hK) r (hSl tb)⟩
      · exact ⟨_, _, or64 _ _, fun tb => hfa ▸ pl_55_11_Sft md hmd n d e h1 h2 hd hc hz fast sb tb (hSB tb) (by omega) man (fun w K ho hK => hMan w tb K ho hK) hfa lo (fun w K ho hK => hLo w tb K ho hK)⟩
    · cases cb
      · cases okl
        · exact ⟨r, _, ur, fun tb => hfa ▸ pl_55_11_Sgs md hmd n d e h1 h2 hd hc hz fast sb tb (hSB tb) (by omega) man (fun w K ho hK => hMan w tb K ho hK) hfa cv (hCl tb) lo (fun w K ho hK => hLo w tb K ho hK) r (hSl tb)⟩
        · exact ⟨_, _, or64 _ _, fun tb => hfa ▸ pl_55_11_Sgt md hmd n d e h1 h2 hd hc hz fast sb tb (hSB tb) (by omega) man (fun w K ho hK => hMan w tb K ho hK) hfa cv (hCl tb) lo (fun w K ho hK => hLo w tb K ho hK)⟩
      · exact ⟨_, _, or64 _ _, fun tb => hfa ▸ pl_55_11_Sc md hmd n d e h1 h2 hd hc hz fast sb tb (hSB tb) (by omega) man (fun w K ho hK => hMan w tb K ho hK) hfa cv (hCl tb)⟩

theorem pj_55_8 (md : Int) (hmd : md = 0 ∨ 4 < md) (n : Bool) (d : ByteArray) (e : Int) (h1 : -32768 ≤ e) (h2 : e ≤ 32767) (hd : d.size ≤ 1000000) (hc : Canon d e) (hz : ¬ d.size = 0) (fast : Bool) : ParR 55 8 23 md n d e fast := by
  have hf : fok 8 23 = true := rfl
  have hsz : d.size ≤ 800 := by rcases hc with h | h <;> omega
  have he1 : -2000 ≤ e ∧ e ≤ 2000 := by rcases hc with h | h <;> omega
  obtain ⟨sb, usb, hSB⟩ := sb_dft 8 23 hf
  obtain ⟨r, f, ur, hSl, _⟩ := slow_x 8 23 hf md n d e h1 h2 hd
  obtain ⟨_, ⟨man, rfl, hm0, hm1⟩, hMan⟩ := det108 d (by omega)
  have um : U64 man := ⟨hm0, by omega⟩
  by_cases h19 : 19 < d.size
  · obtain ⟨_, hv, hLo⟩ := det109 8 23 hf man hm0 hm1 (e + ((d.size : Int) - 19)) (by omega) (by omega)
    obtain ⟨_, _, rfl, ⟨lo, rfl, l0, l1⟩, ⟨okl, rfl, _⟩⟩ := tup2_of hv
    have wu := wr64 (man + 1)
    obtain ⟨_, hv2, hHi⟩ := det109 8 23 hf (IntKind.u64.wrap (man + 1)) wu.1 (by have := wu.2; omega) (e + ((d.size : Int) - 19)) (by omega) (by omega)
    obtain ⟨_, _, rfl, ⟨hi, rfl, g0, g1⟩, ⟨okh, rfl, _⟩⟩ := tup2_of hv2
    cases hl : okl
    · exact ⟨r, _, ur, fun tb => pl_55_8_L1 md hmd n d e h1 h2 hd hc hz fast sb tb (hSB tb) h19 man (fun w K ho hK => hMan w tb K ho hK) lo okl hi okh (fun w K ho hK => hLo w tb K ho hK) (fun w K ho hK => hHi w tb K ho hK) hl r (hSl tb)⟩
    · cases hh : okh
      · exact ⟨r, _, ur, fun tb => pl_55_8_L2 md hmd n d e h1 h2 hd hc hz fast sb tb (hSB tb) h19 man (fun w K ho hK => hMan w tb K ho hK) lo okl hi okh (fun w K ho hK => hLo w tb K ho hK) (fun w K ho hK => hHi w tb K ho hK) hl hh r (hSl tb)⟩
      · cases heq : (hi == lo)
        · exact ⟨r, _, ur, fun tb => pl_55_8_L3 md hmd n d e h1 h2 hd hc hz fast sb tb (hSB tb) h19 man (fun w K ho hK => hMan w tb K ho hK) lo okl hi okh (fun w K ho hK => hLo w tb K ho hK) (fun w K ho hK => hHi w tb K ho hK) hl hh heq r (hSl tb)⟩
        · exact ⟨_, _, or64 _ _, fun tb => pl_55_8_Lt md hmd n d e h1 h2 hd hc hz fast sb tb (hSB tb) h19 man (fun w K ho hK => hMan w tb K ho hK) lo okl hi okh (fun w K ho hK => hLo w tb K ho hK) (fun w K ho hK => hHi w tb K ho hK) hl hh heq⟩
  · obtain ⟨_, hv, hLo⟩ := det109 8 23 hf man hm0 hm1 e h1 h2
    obtain ⟨_, _, rfl, ⟨lo, rfl, l0, l1⟩, ⟨okl, rfl, _⟩⟩ := tup2_of hv
    obtain ⟨cv, cb, ucv, hCl⟩ := clinger_8 man e um h1 h2
    cases hfa : fast
    · cases okl
      · exact ⟨r, _, ur, fun tb => hfa ▸ pl_55_8_Sfs md hmd n d e h1 h2 hd hc hz fast sb tb (hSB tb) (by omega) man (fun w K ho hK => hMan w tb K ho hK) hfa lo (fun w K ho hK => hLo w tb K ho hK) r (hSl tb)⟩
      · exact ⟨_, _, or64 _ _, fun tb => hfa ▸ pl_55_8_Sft md hmd n d e h1 h2 hd hc hz fast sb tb (hSB tb) (by omega) man (fun w K ho hK => hMan w tb K ho hK) hfa lo (fun w K ho hK => hLo w tb K ho hK)⟩
    · cases cb
      · cases okl
        · exact ⟨r, _, ur, fun tb => hfa ▸ pl_55_8_Sgs md hmd n d e h1 h2 hd hc hz fast sb tb (hSB tb) (by omega) man (fun w K ho hK => hMan w tb K ho hK) hfa cv (hCl tb) lo (fun w K ho hK => hLo w tb K ho hK) r (hSl tb)⟩
        · exact ⟨_, _, or64 _ _, fun tb => hfa ▸ pl_55_8_Sgt md hmd n d e h1 h2 hd hc hz fast sb tb (hSB tb) (by omega) man (fun w K ho hK => hMan w tb K ho hK) hfa cv (hCl tb) lo (fun w K ho hK => hLo w tb K ho hK)⟩
      · exact ⟨_, _, or64 _ _, fun tb => hfa ▸ pl_55_8_Sc md hmd n d e h1 h2 hd hc hz fast sb tb (hSB tb) (by omega) man (fun w K ho hK => hMan w tb K ho hK) hfa cv (hCl tb)⟩

/-- SECOND.PARSE. -/
theorem parse_x55 (E M : Nat) (hf : fok E M = true) (md : Int) (m0 : 0 ≤ md) (n : Bool) (d : ByteArray) (e : Int) (h1 : -32768 ≤ e) (h2 : e ≤ 32767) (hd : d.size ≤ 1000000) (fast : Bool) : ParR 55 E M md n d e fast := by
  obtain ⟨sb, usb, hSB⟩ := sb_dft E M hf
  by_cases hc : Canon d e
  · by_cases hz : d.size = 0
    · exact ⟨_, _, psg_u usb, fun tb => pl_55_z E M hf md n d e h1 h2 hd hc hz fast sb tb (hSB tb)⟩
    · obtain ⟨r, f, ur, hSl, _⟩ := slow_x E M hf md n d e h1 h2 hd
      by_cases h64 : E = 11 ∧ M = 52
      · obtain ⟨rfl, rfl⟩ := h64
        by_cases hm : md = 0 ∨ 4 < md
        · exact pj_55_11 md hm n d e h1 h2 hd hc hz fast
        · exact ⟨r, _, ur, fun tb => pl_55_m11 md n d e h1 h2 hd hc hz (by omega) (by omega) fast sb tb (hSB tb) r (hSl tb)⟩
      · by_cases h32 : E = 8 ∧ M = 23
        · obtain ⟨rfl, rfl⟩ := h32
          by_cases hm : md = 0 ∨ 4 < md
          · exact pj_55_8 md hm n d e h1 h2 hd hc hz fast
          · exact ⟨r, _, ur, fun tb => pl_55_m8 md n d e h1 h2 hd hc hz (by omega) (by omega) fast sb tb (hSB tb) r (hSl tb)⟩
        · exact ⟨r, _, ur, fun tb => pl_55_f E M hf md n d e h1 h2 hd hc hz h64 h32 fast sb tb (hSB tb) r (hSl tb)⟩
  · exact ⟨_, _, u64_zero, fun tb => pl_55_no E M hf md n d e h1 h2 hd hc fast sb tb (hSB tb)⟩
end Go.Proofs.YgcoaaGreat.NatW
