/-
  One answer in every memory: the entry points that the law of one run has checked.
-/
import Derived.Test.YgcoaaGreatDetD
import Derived.Test.YgcoaaGreatSyC
set_option linter.unusedVariables false
set_option linter.unusedSimpArgs false
set_option maxRecDepth 20000
namespace Go.Proofs.YgcoaaGreat.Det
open Go Go.RowKit Go.Proofs.YgcoaaGreat.NatW Go.Proofs.Oaag.Twn Go.Proofs.YgcoaaGreat.SfW

theorem args_nil {Γ : Sf.Gam} : Sf.Args Γ .nil (List.toArray []) := ⟨rfl, fun j d h => by cases h⟩
theorem args_cons {Γ : Sf.Gam} {d ps : Sf.D} {v : Value} {l : List Value} (h : Sf.one Γ d v) (hl : Sf.Args Γ ps l.toArray) : Sf.Args Γ (.cons d ps) (v :: l).toArray := by
  obtain ⟨h1, h2⟩ := hl
  refine ⟨by simp only [List.size_toArray, List.length_cons] at h1 ⊢; rw [h1]; rfl, fun j e he => ?_⟩
  cases j with
  | zero =>
    have : d = e := by simpa [Sf.D.at] using he
    subst this
    exact ⟨v, by simp, h⟩
  | succ j =>
    obtain ⟨x, hx, hx2⟩ := h2 j e (by simpa [Sf.D.at] using he)
    exact ⟨x, by simpa using hx, hx2⟩
theorem fmt_one {Γ : Sf.Gam} {E M : Nat} (hf : fok E M = true) : Sf.one Γ (.agg (.cons (.int .u8 2 11) (.cons (.int .u8 2 52) .nil))) (fmt E M) := by
  obtain ⟨g1, g2, g3, g4⟩ := fok_bd hf
  refine ⟨#[.int .u8 E, .int .u8 M], rfl, rfl, fun j d hd => ?_⟩
  match j, hd with
  | 0, hd => cases hd; exact ⟨_, rfl, _, rfl, by omega, by omega⟩
  | 1, hd => cases hd; exact ⟨_, rfl, _, rfl, by omega, by omega⟩
theorem tab_one : Sf.one Γ0 (.ptr tabL) (.pointer (some ⟨1, 0, none⟩)) := by
  refine ⟨⟨1, 0, none⟩, rfl, rfl, fun j d hd => ?_⟩
  show (if 1 = 1 then tabL.at (0 + j) else none) = some d
  rw [if_pos rfl, Nat.zero_add]
  exact hd
theorem dec_one {Γ : Sf.Gam} {n : Nat} {b : Bool} {s : ByteArray} {e : Int} (hs : s.size ≤ n) (h0 : -32768 ≤ e) (h1 : e ≤ 32767) : Sf.one Γ (.agg (.cons (.bool none) (.cons (.str n) (.cons (.int .i16 (-32768) 32767) .nil)))) (.agg #[.bool b, .string s, .int .i16 e]) := by
  refine ⟨#[.bool b, .string s, .int .i16 e], rfl, rfl, fun j d hd => ?_⟩
  match j, hd with
  | 0, hd => cases hd; exact ⟨_, rfl, b, rfl, fun c hc => by cases hc⟩
  | 1, hd => cases hd; exact ⟨_, rfl, s, rfl, hs⟩
  | 2, hd => cases hd; exact ⟨_, rfl, e, rfl, h0, h1⟩

/-- softfloat/ieee.TheNaN -/
theorem det45 (E M : Nat) (hf : fok E M = true) : Det 45 (argsAt [.v (fmt E M)]) d2 :=
  detS [.v (fmt E M)] (.cons d0 .nil) d2 1 (by decide) rfl (by kernel_rfl) (by kernel_rfl) (by kernel_rfl) (by simp [Arg.ok, selfV, selfC, fmt]) con45 (args_cons (fmt_one hf) args_nil)

/-- softfloat/exact.RoundDec -/
theorem det58 (E M : Nat) (hf : fok E M = true) (a1 : Int) (l1 : 0 ≤ a1) (u1 : a1 ≤ 255) (b2 : Bool) (s2 : ByteArray) (z2 : s2.size ≤ 800) (a2 : Int) (l2 : -32768 ≤ a2) (u2 : a2 ≤ 32767) : Det 58 (argsAt [.v (fmt E M), .v (.int .u8 a1), .v (.agg #[.bool b2, .string s2, .int .i16 a2])]) d2 :=
  detS [.v (fmt E M), .v (.int .u8 a1), .v (.agg #[.bool b2, .string s2, .int .i16 a2])] (.cons d0 (.cons (.int .u8 0 255) (.cons d8 .nil))) d2 3 (by decide) rfl (by kernel_rfl) (by kernel_rfl) (by kernel_rfl) (by simp [Arg.ok, selfV, selfC, fmt]) con58 (args_cons (fmt_one hf) (args_cons ⟨a1, rfl, l1, u1⟩ (args_cons (dec_one z2 l2 u2) args_nil)))

/-- (softfloat/ieee.Format).Ok -/
theorem det67 (E M : Nat) (hf : fok E M = true) : Det 67 (argsAt [.v (fmt E M)]) (.bool none) :=
  detS [.v (fmt E M)] (.cons d0 .nil) (.bool none) 1 (by decide) rfl (by kernel_rfl) (by kernel_rfl) (by kernel_rfl) (by simp [Arg.ok, selfV, selfC, fmt]) con67 (args_cons (fmt_one hf) args_nil)

/-- softfloat/ieee.Binary32 -/
theorem det73  : Det 73 (argsAt []) d20 :=
  detS [] .nil d20 0 (by decide) rfl (by kernel_rfl) (by kernel_rfl) (by kernel_rfl) (by simp [Arg.ok, selfV, selfC, fmt]) con73 args_nil

/-- softfloat/ieee.Binary64 -/
theorem det74  : Det 74 (argsAt []) d20 :=
  detS [] .nil d20 0 (by decide) rfl (by kernel_rfl) (by kernel_rfl) (by kernel_rfl) (by simp [Arg.ok, selfV, selfC, fmt]) con74 args_nil

/-- softfloat/ieee.Inf -/
theorem det85 (E M : Nat) (hf : fok E M = true) (b1 : Bool) : Det 85 (argsAt [.v (fmt E M), .v (.bool b1)]) d2 :=
  detS [.v (fmt E M), .v (.bool b1)] (.cons d0 (.cons (.bool none) .nil)) d2 2 (by decide) rfl (by kernel_rfl) (by kernel_rfl) (by kernel_rfl) (by simp [Arg.ok, selfV, selfC, fmt]) con85 (args_cons (fmt_one hf) (args_cons ⟨b1, rfl, fun c hc => by cases hc⟩ args_nil))

/-- softfloat/law.allowed -/
theorem det88 (a0 : Int) (l0 : 0 ≤ a0) (u0 : a0 ≤ 255) (E M : Nat) (hf : fok E M = true) (a2 : Int) (l2 : 0 ≤ a2) (u2 : a2 ≤ 255) : Det 88 (argsAt [.v (.int .u8 a0), .v (fmt E M), .v (.int .u8 a2)]) (.bool none) :=
  detS [.v (.int .u8 a0), .v (fmt E M), .v (.int .u8 a2)] (.cons (.int .u8 0 255) (.cons d0 (.cons (.int .u8 0 255) .nil))) (.bool none) 3 (by decide) rfl (by kernel_rfl) (by kernel_rfl) (by kernel_rfl) (by simp [Arg.ok, selfV, selfC, fmt]) con88 (args_cons ⟨a0, rfl, l0, u0⟩ (args_cons (fmt_one hf) (args_cons ⟨a2, rfl, l2, u2⟩ args_nil)))

/-- softfloat/exact.Convert -/
theorem det100 (E M : Nat) (hf : fok E M = true) (G N : Nat) (hg : fok G N = true) (a2 : Int) (l2 : 0 ≤ a2) (u2 : a2 ≤ 255) (a3 : Int) (l3 : 0 ≤ a3) (u3 : a3 ≤ 18446744073709551615) : Det 100 (argsAt [.v (fmt E M), .v (fmt G N), .v (.int .u8 a2), .v (.int .u64 a3)]) d2 :=
  detS [.v (fmt E M), .v (fmt G N), .v (.int .u8 a2), .v (.int .u64 a3)] (.cons d0 (.cons d0 (.cons (.int .u8 0 255) (.cons d2 .nil)))) d2 4 (by decide) rfl (by kernel_rfl) (by kernel_rfl) (by kernel_rfl) (by simp [Arg.ok, selfV, selfC, fmt]) con100 (args_cons (fmt_one hf) (args_cons (fmt_one hg) (args_cons ⟨a2, rfl, l2, u2⟩ (args_cons ⟨a3, rfl, l3, u3⟩ args_nil))))

/-- softfloat/parse.head -/
theorem det105 (s0 : ByteArray) (z0 : s0.size ≤ 4096) : Det 105 (argsAt [.v (.string s0)]) d2 :=
  detS [.v (.string s0)] (.cons (.str 4096) .nil) d2 1 (by decide) rfl (by kernel_rfl) (by kernel_rfl) (by kernel_rfl) (by simp [Arg.ok, selfV, selfC, fmt]) con105 (args_cons ⟨s0, rfl, z0⟩ args_nil)

/-- softfloat/parse/lemire.Lemire -/
theorem det106  (E M : Nat) (hf : fok E M = true) (a2 : Int) (l2 : 0 ≤ a2) (u2 : a2 ≤ 18446744073709551615) (a3 : Int) (l3 : (-32768) ≤ a3) (u3 : a3 ≤ 32767) : Det 106 (argsAt [.tab, .v (fmt E M), .v (.int .u64 a2), .v (.int .i16 a3)]) d33 :=
  detS [.tab, .v (fmt E M), .v (.int .u64 a2), .v (.int .i16 a3)] (.cons d26 (.cons d0 (.cons d2 (.cons d7 .nil)))) d33 4 (by decide) rfl (by kernel_rfl) (by kernel_rfl) (by kernel_rfl) (by simp [Arg.ok, selfV, selfC, fmt]) con106 (args_cons tab_one (args_cons (fmt_one hf) (args_cons ⟨a2, rfl, l2, u2⟩ (args_cons ⟨a3, rfl, l3, u3⟩ args_nil))))

/-- softfloat/parse/second.head -/
theorem det108 (s0 : ByteArray) (z0 : s0.size ≤ 4096) : Det 108 (argsAt [.v (.string s0)]) d2 :=
  detS [.v (.string s0)] (.cons (.str 4096) .nil) d2 1 (by decide) rfl (by kernel_rfl) (by kernel_rfl) (by kernel_rfl) (by simp [Arg.ok, selfV, selfC, fmt]) con108 (args_cons ⟨s0, rfl, z0⟩ args_nil)

/-- softfloat/parse/total.Total -/
theorem det109  (E M : Nat) (hf : fok E M = true) (a2 : Int) (l2 : 0 ≤ a2) (u2 : a2 ≤ 18446744073709551615) (a3 : Int) (l3 : (-32768) ≤ a3) (u3 : a3 ≤ 32767) : Det 109 (argsAt [.tab, .v (fmt E M), .v (.int .u64 a2), .v (.int .i16 a3)]) d33 :=
  detS [.tab, .v (fmt E M), .v (.int .u64 a2), .v (.int .i16 a3)] (.cons d26 (.cons d0 (.cons d2 (.cons d7 .nil)))) d33 4 (by decide) rfl (by kernel_rfl) (by kernel_rfl) (by kernel_rfl) (by simp [Arg.ok, selfV, selfC, fmt]) con109 (args_cons tab_one (args_cons (fmt_one hf) (args_cons ⟨a2, rfl, l2, u2⟩ (args_cons ⟨a3, rfl, l3, u3⟩ args_nil))))

/-- softfloat/calc/ex.clean -/
theorem det120 (E M : Nat) (hf : fok E M = true) (a1 : Int) (l1 : 0 ≤ a1) (u1 : a1 ≤ 18446744073709551615) : Det 120 (argsAt [.v (fmt E M), .v (.int .u64 a1)]) d2 :=
  detS [.v (fmt E M), .v (.int .u64 a1)] (.cons d0 (.cons d2 .nil)) d2 2 (by decide) rfl (by kernel_rfl) (by kernel_rfl) (by kernel_rfl) (by simp [Arg.ok, selfV, selfC, fmt]) con120 (args_cons (fmt_one hf) (args_cons ⟨a1, rfl, l1, u1⟩ args_nil))

/-- softfloat/exact.Add -/
theorem det121 (E M : Nat) (hf : fok E M = true) (a1 : Int) (l1 : 0 ≤ a1) (u1 : a1 ≤ 255) (a2 : Int) (l2 : 0 ≤ a2) (u2 : a2 ≤ 18446744073709551615) (a3 : Int) (l3 : 0 ≤ a3) (u3 : a3 ≤ 18446744073709551615) : Det 121 (argsAt [.v (fmt E M), .v (.int .u8 a1), .v (.int .u64 a2), .v (.int .u64 a3)]) d2 :=
  detS [.v (fmt E M), .v (.int .u8 a1), .v (.int .u64 a2), .v (.int .u64 a3)] (.cons d0 (.cons (.int .u8 0 255) (.cons d2 (.cons d2 .nil)))) d2 4 (by decide) rfl (by kernel_rfl) (by kernel_rfl) (by kernel_rfl) (by simp [Arg.ok, selfV, selfC, fmt]) con121 (args_cons (fmt_one hf) (args_cons ⟨a1, rfl, l1, u1⟩ (args_cons ⟨a2, rfl, l2, u2⟩ (args_cons ⟨a3, rfl, l3, u3⟩ args_nil))))

/-- softfloat/exact.Sub -/
theorem det122 (E M : Nat) (hf : fok E M = true) (a1 : Int) (l1 : 0 ≤ a1) (u1 : a1 ≤ 255) (a2 : Int) (l2 : 0 ≤ a2) (u2 : a2 ≤ 18446744073709551615) (a3 : Int) (l3 : 0 ≤ a3) (u3 : a3 ≤ 18446744073709551615) : Det 122 (argsAt [.v (fmt E M), .v (.int .u8 a1), .v (.int .u64 a2), .v (.int .u64 a3)]) d2 :=
  detS [.v (fmt E M), .v (.int .u8 a1), .v (.int .u64 a2), .v (.int .u64 a3)] (.cons d0 (.cons (.int .u8 0 255) (.cons d2 (.cons d2 .nil)))) d2 4 (by decide) rfl (by kernel_rfl) (by kernel_rfl) (by kernel_rfl) (by simp [Arg.ok, selfV, selfC, fmt]) con122 (args_cons (fmt_one hf) (args_cons ⟨a1, rfl, l1, u1⟩ (args_cons ⟨a2, rfl, l2, u2⟩ (args_cons ⟨a3, rfl, l3, u3⟩ args_nil))))

/-- softfloat/exact.Mul -/
theorem det123 (E M : Nat) (hf : fok E M = true) (a1 : Int) (l1 : 0 ≤ a1) (u1 : a1 ≤ 255) (a2 : Int) (l2 : 0 ≤ a2) (u2 : a2 ≤ 18446744073709551615) (a3 : Int) (l3 : 0 ≤ a3) (u3 : a3 ≤ 18446744073709551615) : Det 123 (argsAt [.v (fmt E M), .v (.int .u8 a1), .v (.int .u64 a2), .v (.int .u64 a3)]) d2 :=
  detS [.v (fmt E M), .v (.int .u8 a1), .v (.int .u64 a2), .v (.int .u64 a3)] (.cons d0 (.cons (.int .u8 0 255) (.cons d2 (.cons d2 .nil)))) d2 4 (by decide) rfl (by kernel_rfl) (by kernel_rfl) (by kernel_rfl) (by simp [Arg.ok, selfV, selfC, fmt]) con123 (args_cons (fmt_one hf) (args_cons ⟨a1, rfl, l1, u1⟩ (args_cons ⟨a2, rfl, l2, u2⟩ (args_cons ⟨a3, rfl, l3, u3⟩ args_nil))))

/-- softfloat/exact.Div -/
theorem det124 (E M : Nat) (hf : fok E M = true) (a1 : Int) (l1 : 0 ≤ a1) (u1 : a1 ≤ 255) (a2 : Int) (l2 : 0 ≤ a2) (u2 : a2 ≤ 18446744073709551615) (a3 : Int) (l3 : 0 ≤ a3) (u3 : a3 ≤ 18446744073709551615) : Det 124 (argsAt [.v (fmt E M), .v (.int .u8 a1), .v (.int .u64 a2), .v (.int .u64 a3)]) d2 :=
  detS [.v (fmt E M), .v (.int .u8 a1), .v (.int .u64 a2), .v (.int .u64 a3)] (.cons d0 (.cons (.int .u8 0 255) (.cons d2 (.cons d2 .nil)))) d2 4 (by decide) rfl (by kernel_rfl) (by kernel_rfl) (by kernel_rfl) (by simp [Arg.ok, selfV, selfC, fmt]) con124 (args_cons (fmt_one hf) (args_cons ⟨a1, rfl, l1, u1⟩ (args_cons ⟨a2, rfl, l2, u2⟩ (args_cons ⟨a3, rfl, l3, u3⟩ args_nil))))

/-- softfloat/exact.Sqrt -/
theorem det125 (E M : Nat) (hf : fok E M = true) (a1 : Int) (l1 : 0 ≤ a1) (u1 : a1 ≤ 255) (a2 : Int) (l2 : 0 ≤ a2) (u2 : a2 ≤ 18446744073709551615) : Det 125 (argsAt [.v (fmt E M), .v (.int .u8 a1), .v (.int .u64 a2)]) d2 :=
  detS [.v (fmt E M), .v (.int .u8 a1), .v (.int .u64 a2)] (.cons d0 (.cons (.int .u8 0 255) (.cons d2 .nil))) d2 3 (by decide) rfl (by kernel_rfl) (by kernel_rfl) (by kernel_rfl) (by simp [Arg.ok, selfV, selfC, fmt]) con125 (args_cons (fmt_one hf) (args_cons ⟨a1, rfl, l1, u1⟩ (args_cons ⟨a2, rfl, l2, u2⟩ args_nil)))

/-- softfloat/calc/ex.order -/
theorem det126 (a0 : Int) (l0 : (-128) ≤ a0) (u0 : a0 ≤ 127) : Det 126 (argsAt [.v (.int .i8 a0)]) (.str 1) :=
  detS [.v (.int .i8 a0)] (.cons d15 .nil) (.str 1) 1 (by decide) rfl (by kernel_rfl) (by kernel_rfl) (by kernel_rfl) (by simp [Arg.ok, selfV, selfC, fmt]) con126 (args_cons ⟨a0, rfl, l0, u0⟩ args_nil)

/-- softfloat/exact.Cmp -/
theorem det127 (E M : Nat) (hf : fok E M = true) (a1 : Int) (l1 : 0 ≤ a1) (u1 : a1 ≤ 18446744073709551615) (a2 : Int) (l2 : 0 ≤ a2) (u2 : a2 ≤ 18446744073709551615) : Det 127 (argsAt [.v (fmt E M), .v (.int .u64 a1), .v (.int .u64 a2)]) (.int .i8 (-1) 2) :=
  detS [.v (fmt E M), .v (.int .u64 a1), .v (.int .u64 a2)] (.cons d0 (.cons d2 (.cons d2 .nil))) (.int .i8 (-1) 2) 3 (by decide) rfl (by kernel_rfl) (by kernel_rfl) (by kernel_rfl) (by simp [Arg.ok, selfV, selfC, fmt]) con127 (args_cons (fmt_one hf) (args_cons ⟨a1, rfl, l1, u1⟩ (args_cons ⟨a2, rfl, l2, u2⟩ args_nil)))

/-- softfloat/exact.FromInt64 -/
theorem det128 (E M : Nat) (hf : fok E M = true) (a1 : Int) (l1 : 0 ≤ a1) (u1 : a1 ≤ 255) (a2 : Int) (l2 : (-9223372036854775808) ≤ a2) (u2 : a2 ≤ 9223372036854775807) : Det 128 (argsAt [.v (fmt E M), .v (.int .u8 a1), .v (.int .i64 a2)]) d2 :=
  detS [.v (fmt E M), .v (.int .u8 a1), .v (.int .i64 a2)] (.cons d0 (.cons (.int .u8 0 255) (.cons d5 .nil))) d2 3 (by decide) rfl (by kernel_rfl) (by kernel_rfl) (by kernel_rfl) (by simp [Arg.ok, selfV, selfC, fmt]) con128 (args_cons (fmt_one hf) (args_cons ⟨a1, rfl, l1, u1⟩ (args_cons ⟨a2, rfl, l2, u2⟩ args_nil)))

/-- softfloat/exact.FromUint64 -/
theorem det129 (E M : Nat) (hf : fok E M = true) (a1 : Int) (l1 : 0 ≤ a1) (u1 : a1 ≤ 255) (a2 : Int) (l2 : 0 ≤ a2) (u2 : a2 ≤ 18446744073709551615) : Det 129 (argsAt [.v (fmt E M), .v (.int .u8 a1), .v (.int .u64 a2)]) d2 :=
  detS [.v (fmt E M), .v (.int .u8 a1), .v (.int .u64 a2)] (.cons d0 (.cons (.int .u8 0 255) (.cons d2 .nil))) d2 3 (by decide) rfl (by kernel_rfl) (by kernel_rfl) (by kernel_rfl) (by simp [Arg.ok, selfV, selfC, fmt]) con129 (args_cons (fmt_one hf) (args_cons ⟨a1, rfl, l1, u1⟩ (args_cons ⟨a2, rfl, l2, u2⟩ args_nil)))

/-- softfloat/calc/ex.toInt -/
theorem det130 (E M : Nat) (hf : fok E M = true) (a1 : Int) (l1 : 0 ≤ a1) (u1 : a1 ≤ 18446744073709551615) : Det 130 (argsAt [.v (fmt E M), .v (.int .u64 a1)]) (.str 20) :=
  detS [.v (fmt E M), .v (.int .u64 a1)] (.cons d0 (.cons d2 .nil)) (.str 20) 2 (by decide) rfl (by kernel_rfl) (by kernel_rfl) (by kernel_rfl) (by simp [Arg.ok, selfV, selfC, fmt]) con130 (args_cons (fmt_one hf) (args_cons ⟨a1, rfl, l1, u1⟩ args_nil))

/-- softfloat/calc/na.clean -/
theorem det148 (E M : Nat) (hf : fok E M = true) (a1 : Int) (l1 : 0 ≤ a1) (u1 : a1 ≤ 18446744073709551615) : Det 148 (argsAt [.v (fmt E M), .v (.int .u64 a1)]) d2 :=
  detS [.v (fmt E M), .v (.int .u64 a1)] (.cons d0 (.cons d2 .nil)) d2 2 (by decide) rfl (by kernel_rfl) (by kernel_rfl) (by kernel_rfl) (by simp [Arg.ok, selfV, selfC, fmt]) con148 (args_cons (fmt_one hf) (args_cons ⟨a1, rfl, l1, u1⟩ args_nil))

/-- softfloat/calc.Allowed -/
theorem det159  (a1 : Int) (l1 : 0 ≤ a1) (u1 : a1 ≤ 255) (E M : Nat) (hf : fok E M = true) (a3 : Int) (l3 : 0 ≤ a3) (u3 : a3 ≤ 255) : Det 159 (argsAt [.tab, .v (.int .u8 a1), .v (fmt E M), .v (.int .u8 a3)]) (.bool none) :=
  detS [.tab, .v (.int .u8 a1), .v (fmt E M), .v (.int .u8 a3)] (.cons d26 (.cons (.int .u8 0 255) (.cons d0 (.cons (.int .u8 0 255) .nil)))) (.bool none) 4 (by decide) rfl (by kernel_rfl) (by kernel_rfl) (by kernel_rfl) (by simp [Arg.ok, selfV, selfC, fmt]) con159 (args_cons tab_one (args_cons ⟨a1, rfl, l1, u1⟩ (args_cons (fmt_one hf) (args_cons ⟨a3, rfl, l3, u3⟩ args_nil))))

/-- softfloat/exact.ScaleBFlags -/
theorem det186 (E M : Nat) (hf : fok E M = true) (a1 : Int) (l1 : 0 ≤ a1) (u1 : a1 ≤ 255) (a2 : Int) (l2 : 0 ≤ a2) (u2 : a2 ≤ 18446744073709551615) (a3 : Int) (l3 : (-9223372036854775808) ≤ a3) (u3 : a3 ≤ 9223372036854775807) : Det 186 (argsAt [.v (fmt E M), .v (.int .u8 a1), .v (.int .u64 a2), .v (.int .i64 a3)]) d19 :=
  detS [.v (fmt E M), .v (.int .u8 a1), .v (.int .u64 a2), .v (.int .i64 a3)] (.cons d0 (.cons (.int .u8 0 255) (.cons d2 (.cons d5 .nil)))) d19 4 (by decide) rfl (by kernel_rfl) (by kernel_rfl) (by kernel_rfl) (by simp [Arg.ok, selfV, selfC, fmt]) con186 (args_cons (fmt_one hf) (args_cons ⟨a1, rfl, l1, u1⟩ (args_cons ⟨a2, rfl, l2, u2⟩ (args_cons ⟨a3, rfl, l3, u3⟩ args_nil))))

/-- softfloat/calc/ex.whole -/
theorem det227 (a0 : Int) (l0 : (-9223372036854775808) ≤ a0) (u0 : a0 ≤ 9223372036854775807) (b1 : Bool) : Det 227 (argsAt [.v (.int .i64 a0), .v (.bool b1)]) (.str 20) :=
  detS [.v (.int .i64 a0), .v (.bool b1)] (.cons d5 (.cons (.bool none) .nil)) (.str 20) 2 (by decide) rfl (by kernel_rfl) (by kernel_rfl) (by kernel_rfl) (by simp [Arg.ok, selfV, selfC, fmt]) con227 (args_cons ⟨a0, rfl, l0, u0⟩ (args_cons ⟨b1, rfl, fun c hc => by cases hc⟩ args_nil))

/-- softfloat/calc/ex.orName -/
theorem det229 (E M : Nat) (hf : fok E M = true) (a1 : Int) (l1 : 0 ≤ a1) (u1 : a1 ≤ 18446744073709551615) (s2 : ByteArray) (z2 : s2.size ≤ 4096) : Det 229 (argsAt [.v (fmt E M), .v (.int .u64 a1), .v (.string s2)]) (.str 4096) :=
  detS [.v (fmt E M), .v (.int .u64 a1), .v (.string s2)] (.cons d0 (.cons d2 (.cons (.str 4096) .nil))) (.str 4096) 3 (by decide) rfl (by kernel_rfl) (by kernel_rfl) (by kernel_rfl) (by simp [Arg.ok, selfV, selfC, fmt]) con229 (args_cons (fmt_one hf) (args_cons ⟨a1, rfl, l1, u1⟩ (args_cons ⟨s2, rfl, z2⟩ args_nil)))

/-- softfloat/exact.FMA -/
theorem det230 (E M : Nat) (hf : fok E M = true) (a1 : Int) (l1 : 0 ≤ a1) (u1 : a1 ≤ 255) (a2 : Int) (l2 : 0 ≤ a2) (u2 : a2 ≤ 18446744073709551615) (a3 : Int) (l3 : 0 ≤ a3) (u3 : a3 ≤ 18446744073709551615) (a4 : Int) (l4 : 0 ≤ a4) (u4 : a4 ≤ 18446744073709551615) : Det 230 (argsAt [.v (fmt E M), .v (.int .u8 a1), .v (.int .u64 a2), .v (.int .u64 a3), .v (.int .u64 a4)]) d2 :=
  detS [.v (fmt E M), .v (.int .u8 a1), .v (.int .u64 a2), .v (.int .u64 a3), .v (.int .u64 a4)] (.cons d0 (.cons (.int .u8 0 255) (.cons d2 (.cons d2 (.cons d2 .nil))))) d2 5 (by decide) rfl (by kernel_rfl) (by kernel_rfl) (by kernel_rfl) (by simp [Arg.ok, selfV, selfC, fmt]) con230 (args_cons (fmt_one hf) (args_cons ⟨a1, rfl, l1, u1⟩ (args_cons ⟨a2, rfl, l2, u2⟩ (args_cons ⟨a3, rfl, l3, u3⟩ (args_cons ⟨a4, rfl, l4, u4⟩ args_nil)))))

/-- softfloat/exact.Rem -/
theorem det231 (E M : Nat) (hf : fok E M = true) (a1 : Int) (l1 : 0 ≤ a1) (u1 : a1 ≤ 18446744073709551615) (a2 : Int) (l2 : 0 ≤ a2) (u2 : a2 ≤ 18446744073709551615) : Det 231 (argsAt [.v (fmt E M), .v (.int .u64 a1), .v (.int .u64 a2)]) d2 :=
  detS [.v (fmt E M), .v (.int .u64 a1), .v (.int .u64 a2)] (.cons d0 (.cons d2 (.cons d2 .nil))) d2 3 (by decide) rfl (by kernel_rfl) (by kernel_rfl) (by kernel_rfl) (by simp [Arg.ok, selfV, selfC, fmt]) con231 (args_cons (fmt_one hf) (args_cons ⟨a1, rfl, l1, u1⟩ (args_cons ⟨a2, rfl, l2, u2⟩ args_nil)))

/-- softfloat/exact.RoundInt -/
theorem det232 (E M : Nat) (hf : fok E M = true) (a1 : Int) (l1 : 0 ≤ a1) (u1 : a1 ≤ 255) (a2 : Int) (l2 : 0 ≤ a2) (u2 : a2 ≤ 18446744073709551615) : Det 232 (argsAt [.v (fmt E M), .v (.int .u8 a1), .v (.int .u64 a2)]) d2 :=
  detS [.v (fmt E M), .v (.int .u8 a1), .v (.int .u64 a2)] (.cons d0 (.cons (.int .u8 0 255) (.cons d2 .nil))) d2 3 (by decide) rfl (by kernel_rfl) (by kernel_rfl) (by kernel_rfl) (by simp [Arg.ok, selfV, selfC, fmt]) con232 (args_cons (fmt_one hf) (args_cons ⟨a1, rfl, l1, u1⟩ (args_cons ⟨a2, rfl, l2, u2⟩ args_nil)))

/-- softfloat/exact.Min -/
theorem det233 (E M : Nat) (hf : fok E M = true) (a1 : Int) (l1 : 0 ≤ a1) (u1 : a1 ≤ 18446744073709551615) (a2 : Int) (l2 : 0 ≤ a2) (u2 : a2 ≤ 18446744073709551615) : Det 233 (argsAt [.v (fmt E M), .v (.int .u64 a1), .v (.int .u64 a2)]) d2 :=
  detS [.v (fmt E M), .v (.int .u64 a1), .v (.int .u64 a2)] (.cons d0 (.cons d2 (.cons d2 .nil))) d2 3 (by decide) rfl (by kernel_rfl) (by kernel_rfl) (by kernel_rfl) (by simp [Arg.ok, selfV, selfC, fmt]) con233 (args_cons (fmt_one hf) (args_cons ⟨a1, rfl, l1, u1⟩ (args_cons ⟨a2, rfl, l2, u2⟩ args_nil)))

/-- softfloat/exact.Max -/
theorem det234 (E M : Nat) (hf : fok E M = true) (a1 : Int) (l1 : 0 ≤ a1) (u1 : a1 ≤ 18446744073709551615) (a2 : Int) (l2 : 0 ≤ a2) (u2 : a2 ≤ 18446744073709551615) : Det 234 (argsAt [.v (fmt E M), .v (.int .u64 a1), .v (.int .u64 a2)]) d2 :=
  detS [.v (fmt E M), .v (.int .u64 a1), .v (.int .u64 a2)] (.cons d0 (.cons d2 (.cons d2 .nil))) d2 3 (by decide) rfl (by kernel_rfl) (by kernel_rfl) (by kernel_rfl) (by simp [Arg.ok, selfV, selfC, fmt]) con234 (args_cons (fmt_one hf) (args_cons ⟨a1, rfl, l1, u1⟩ (args_cons ⟨a2, rfl, l2, u2⟩ args_nil)))

/-- softfloat/exact.NextUp -/
theorem det235 (E M : Nat) (hf : fok E M = true) (a1 : Int) (l1 : 0 ≤ a1) (u1 : a1 ≤ 18446744073709551615) : Det 235 (argsAt [.v (fmt E M), .v (.int .u64 a1)]) d2 :=
  detS [.v (fmt E M), .v (.int .u64 a1)] (.cons d0 (.cons d2 .nil)) d2 2 (by decide) rfl (by kernel_rfl) (by kernel_rfl) (by kernel_rfl) (by simp [Arg.ok, selfV, selfC, fmt]) con235 (args_cons (fmt_one hf) (args_cons ⟨a1, rfl, l1, u1⟩ args_nil))

/-- softfloat/exact.NextDown -/
theorem det236 (E M : Nat) (hf : fok E M = true) (a1 : Int) (l1 : 0 ≤ a1) (u1 : a1 ≤ 18446744073709551615) : Det 236 (argsAt [.v (fmt E M), .v (.int .u64 a1)]) d2 :=
  detS [.v (fmt E M), .v (.int .u64 a1)] (.cons d0 (.cons d2 .nil)) d2 2 (by decide) rfl (by kernel_rfl) (by kernel_rfl) (by kernel_rfl) (by simp [Arg.ok, selfV, selfC, fmt]) con236 (args_cons (fmt_one hf) (args_cons ⟨a1, rfl, l1, u1⟩ args_nil))

/-- softfloat/calc/ex.flags -/
theorem det238 (E M : Nat) (hf : fok E M = true) (a1 : Int) (l1 : 0 ≤ a1) (u1 : a1 ≤ 255) (a2 : Int) (l2 : 0 ≤ a2) (u2 : a2 ≤ 18446744073709551615) (a3 : Int) (l3 : 0 ≤ a3) (u3 : a3 ≤ 18446744073709551615) (a4 : Int) (l4 : 0 ≤ a4) (u4 : a4 ≤ 18446744073709551615) (a5 : Int) (l5 : 0 ≤ a5) (u5 : a5 ≤ 18446744073709551615) : Det 238 (argsAt [.v (fmt E M), .v (.int .u8 a1), .v (.int .u64 a2), .v (.int .u64 a3), .v (.int .u64 a4), .v (.int .u64 a5)]) (.int .u8 0 255) :=
  detS [.v (fmt E M), .v (.int .u8 a1), .v (.int .u64 a2), .v (.int .u64 a3), .v (.int .u64 a4), .v (.int .u64 a5)] (.cons d0 (.cons (.int .u8 0 255) (.cons d2 (.cons d2 (.cons d2 (.cons d2 .nil)))))) (.int .u8 0 255) 6 (by decide) rfl (by kernel_rfl) (by kernel_rfl) (by kernel_rfl) (by simp [Arg.ok, selfV, selfC, fmt]) con238 (args_cons (fmt_one hf) (args_cons ⟨a1, rfl, l1, u1⟩ (args_cons ⟨a2, rfl, l2, u2⟩ (args_cons ⟨a3, rfl, l3, u3⟩ (args_cons ⟨a4, rfl, l4, u4⟩ (args_cons ⟨a5, rfl, l5, u5⟩ args_nil))))))

/-- softfloat/exact.ScaleB -/
theorem det243 (E M : Nat) (hf : fok E M = true) (a1 : Int) (l1 : 0 ≤ a1) (u1 : a1 ≤ 255) (a2 : Int) (l2 : 0 ≤ a2) (u2 : a2 ≤ 18446744073709551615) (a3 : Int) (l3 : (-9223372036854775808) ≤ a3) (u3 : a3 ≤ 9223372036854775807) : Det 243 (argsAt [.v (fmt E M), .v (.int .u8 a1), .v (.int .u64 a2), .v (.int .i64 a3)]) d2 :=
  detS [.v (fmt E M), .v (.int .u8 a1), .v (.int .u64 a2), .v (.int .i64 a3)] (.cons d0 (.cons (.int .u8 0 255) (.cons d2 (.cons d5 .nil)))) d2 4 (by decide) rfl (by kernel_rfl) (by kernel_rfl) (by kernel_rfl) (by simp [Arg.ok, selfV, selfC, fmt]) con243 (args_cons (fmt_one hf) (args_cons ⟨a1, rfl, l1, u1⟩ (args_cons ⟨a2, rfl, l2, u2⟩ (args_cons ⟨a3, rfl, l3, u3⟩ args_nil))))

/-- softfloat/exact.LogB -/
theorem det244 (E M : Nat) (hf : fok E M = true) (a1 : Int) (l1 : 0 ≤ a1) (u1 : a1 ≤ 18446744073709551615) : Det 244 (argsAt [.v (fmt E M), .v (.int .u64 a1)]) d44 :=
  detS [.v (fmt E M), .v (.int .u64 a1)] (.cons d0 (.cons d2 .nil)) d44 2 (by decide) rfl (by kernel_rfl) (by kernel_rfl) (by kernel_rfl) (by simp [Arg.ok, selfV, selfC, fmt]) con244 (args_cons (fmt_one hf) (args_cons ⟨a1, rfl, l1, u1⟩ args_nil))

/-- softfloat/calc/ex.convFlags -/
theorem det245 (E M : Nat) (hf : fok E M = true) (a1 : Int) (l1 : 0 ≤ a1) (u1 : a1 ≤ 255) (a2 : Int) (l2 : 0 ≤ a2) (u2 : a2 ≤ 18446744073709551615) (a3 : Int) (l3 : 0 ≤ a3) (u3 : a3 ≤ 18446744073709551615) : Det 245 (argsAt [.v (fmt E M), .v (.int .u8 a1), .v (.int .u64 a2), .v (.int .u64 a3)]) d56 :=
  detS [.v (fmt E M), .v (.int .u8 a1), .v (.int .u64 a2), .v (.int .u64 a3)] (.cons d0 (.cons (.int .u8 0 255) (.cons d2 (.cons d2 .nil)))) d56 4 (by decide) rfl (by kernel_rfl) (by kernel_rfl) (by kernel_rfl) (by simp [Arg.ok, selfV, selfC, fmt]) con245 (args_cons (fmt_one hf) (args_cons ⟨a1, rfl, l1, u1⟩ (args_cons ⟨a2, rfl, l2, u2⟩ (args_cons ⟨a3, rfl, l3, u3⟩ args_nil))))

/-- softfloat/calc/na.whole -/
theorem det288 (a0 : Int) (l0 : (-9223372036854775808) ≤ a0) (u0 : a0 ≤ 9223372036854775807) (b1 : Bool) : Det 288 (argsAt [.v (.int .i64 a0), .v (.bool b1)]) (.str 20) :=
  detS [.v (.int .i64 a0), .v (.bool b1)] (.cons d5 (.cons (.bool none) .nil)) (.str 20) 2 (by decide) rfl (by kernel_rfl) (by kernel_rfl) (by kernel_rfl) (by simp [Arg.ok, selfV, selfC, fmt]) con288 (args_cons ⟨a0, rfl, l0, u0⟩ (args_cons ⟨b1, rfl, fun c hc => by cases hc⟩ args_nil))

/-- softfloat/calc/na.orName -/
theorem det292 (E M : Nat) (hf : fok E M = true) (a1 : Int) (l1 : 0 ≤ a1) (u1 : a1 ≤ 18446744073709551615) (s2 : ByteArray) (z2 : s2.size ≤ 4096) : Det 292 (argsAt [.v (fmt E M), .v (.int .u64 a1), .v (.string s2)]) (.str 4096) :=
  detS [.v (fmt E M), .v (.int .u64 a1), .v (.string s2)] (.cons d0 (.cons d2 (.cons (.str 4096) .nil))) (.str 4096) 3 (by decide) rfl (by kernel_rfl) (by kernel_rfl) (by kernel_rfl) (by simp [Arg.ok, selfV, selfC, fmt]) con292 (args_cons (fmt_one hf) (args_cons ⟨a1, rfl, l1, u1⟩ (args_cons ⟨s2, rfl, z2⟩ args_nil)))

/-- softfloat/hexa.digit -/
theorem det378 (a0 : Int) (l0 : (-2147483648) ≤ a0) (u0 : a0 ≤ 2147483647) : Det 378 (argsAt [.v (.int .i32 a0)]) (.int .i64 (-1) 15) :=
  detS [.v (.int .i32 a0)] (.cons d57 .nil) (.int .i64 (-1) 15) 1 (by decide) rfl (by kernel_rfl) (by kernel_rfl) (by kernel_rfl) (by simp [Arg.ok, selfV, selfC, fmt]) con378 (args_cons ⟨a0, rfl, l0, u0⟩ args_nil)

/-- (softfloat/ieee.Format).SignBit -/
theorem det104 (E M : Nat) (hf : fok E M = true) : Det 104 (argsAt [.v (fmt E M)]) d1 :=
  detS [.v (fmt E M)] (.cons d0 .nil) d1 1 (by decide) rfl (by kernel_rfl) (by kernel_rfl) (by kernel_rfl) (by simp [Arg.ok, selfV, selfC, fmt]) con104 (args_cons (fmt_one hf) args_nil)

/-- softfloat/calc/so.clean -/
theorem det134 (E M : Nat) (hf : fok E M = true) (a1 : Int) (l1 : 0 ≤ a1) (u1 : a1 ≤ 18446744073709551615) : Det 134 (argsAt [.v (fmt E M), .v (.int .u64 a1)]) d2 :=
  detS [.v (fmt E M), .v (.int .u64 a1)] (.cons d0 (.cons d2 .nil)) d2 2 (by decide) rfl (by kernel_rfl) (by kernel_rfl) (by kernel_rfl) (by simp [Arg.ok, selfV, selfC, fmt]) con134 (args_cons (fmt_one hf) (args_cons ⟨a1, rfl, l1, u1⟩ args_nil))

/-- softfloat/calc/so.order -/
theorem det140 (a0 : Int) (l0 : (-128) ≤ a0) (u0 : a0 ≤ 127) : Det 140 (argsAt [.v (.int .i8 a0)]) (.str 1) :=
  detS [.v (.int .i8 a0)] (.cons d15 .nil) (.str 1) 1 (by decide) rfl (by kernel_rfl) (by kernel_rfl) (by kernel_rfl) (by simp [Arg.ok, selfV, selfC, fmt]) con140 (args_cons ⟨a0, rfl, l0, u0⟩ args_nil)

/-- softfloat/calc/so.whole -/
theorem det253 (a0 : Int) (l0 : (-9223372036854775808) ≤ a0) (u0 : a0 ≤ 9223372036854775807) (b1 : Bool) : Det 253 (argsAt [.v (.int .i64 a0), .v (.bool b1)]) (.str 20) :=
  detS [.v (.int .i64 a0), .v (.bool b1)] (.cons d5 (.cons (.bool none) .nil)) (.str 20) 2 (by decide) rfl (by kernel_rfl) (by kernel_rfl) (by kernel_rfl) (by simp [Arg.ok, selfV, selfC, fmt]) con253 (args_cons ⟨a0, rfl, l0, u0⟩ (args_cons ⟨b1, rfl, fun c hc => by cases hc⟩ args_nil))

/-- softfloat/calc/so.orName -/
theorem det256 (E M : Nat) (hf : fok E M = true) (a1 : Int) (l1 : 0 ≤ a1) (u1 : a1 ≤ 18446744073709551615) (s2 : ByteArray) (z2 : s2.size ≤ 4096) : Det 256 (argsAt [.v (fmt E M), .v (.int .u64 a1), .v (.string s2)]) (.str 4096) :=
  detS [.v (fmt E M), .v (.int .u64 a1), .v (.string s2)] (.cons d0 (.cons d2 (.cons (.str 4096) .nil))) (.str 4096) 3 (by decide) rfl (by kernel_rfl) (by kernel_rfl) (by kernel_rfl) (by simp [Arg.ok, selfV, selfC, fmt]) con256 (args_cons (fmt_one hf) (args_cons ⟨a1, rfl, l1, u1⟩ (args_cons ⟨s2, rfl, z2⟩ args_nil)))

end Go.Proofs.YgcoaaGreat.Det
