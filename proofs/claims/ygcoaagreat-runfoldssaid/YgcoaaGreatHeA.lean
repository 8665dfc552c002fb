/-
  Package exact: Hex: one answer in every memory.
-/
import Derived.Test.YgcoaaGreatRhA
import Derived.Test.YgcoaaGreatCdA
set_option linter.unusedVariables false
set_option linter.unusedSimpArgs false
set_option maxRecDepth 20000
namespace Go.Proofs.YgcoaaGreat.NatW
open Go.RowKit
open Go.Proofs.YgcoaaGreat.Det
open Go.Proofs.YgcoaaGreat.Limbs Go.Proofs.YgcoaaGreat.Bits
attribute [local go_sem] Go.Instr.field Go.asAgg

def natT (n : Nat) : Sf.D := .slc 1 (.int .u32 0 4294967295) n
def i64T : Sf.D := .int .i64 (-9223372036854775808) 9223372036854775807
def u64T : Sf.D := .int .u64 0 18446744073709551615
def fmtT : Sf.D := .agg (.cons (.int .u8 2 11) (.cons (.int .u8 2 52) .nil))
def opdT : Sf.D := .agg (.cons u64T (.cons (.bool none) (.cons (.int .i8 (-128) 127) (.cons (.bool none) (.cons (natT 16384) (.cons (natT 4096) .nil))))))
theorem hc222 : Sf.Con Oaag.prog 222 (.cons fmtT (.cons u64T .nil)) opdT := SfW.con_row (by kernel_rfl)
theorem hc332 : Sf.Con Oaag.prog 332 (.cons (natT 16384) (.cons (natT 4096) (.cons i64T (.cons i64T .nil)))) i64T := SfW.con_row (by kernel_rfl)
theorem hc333 : Sf.Con Oaag.prog 333 (.cons (natT 16384) (.cons (natT 4096) (.cons i64T .nil))) (.tup (.cons (natT 18432) (.cons (natT 18432) .nil))) := SfW.con_row (by kernel_rfl)
theorem hc334 : Sf.Con Oaag.prog 334 (.cons (natT 18432) (.cons (natT 18432) .nil)) (.tup (.cons (natT 65536) (.cons (.agg (.cons (.int .i8 (-128) 127) (.cons (.bool none) .nil))) .nil))) := SfW.con_row (by kernel_rfl)
theorem hc335 : Sf.Con Oaag.prog 335 (.cons (natT 65536) .nil) u64T := SfW.con_row (by kernel_rfl)

theorem opd_of {Γ : Sf.Gam} {v : Value} (h : Sf.val Γ opdT v) : ∃ b n c vn num den, v = opd b n c vn num den ∧ U64 b ∧ -128 ≤ c ∧ c ≤ 127 ∧ Sf.one Γ (natT 16384) num ∧ Sf.one Γ (natT 4096) den := by
  obtain ⟨xs, rfl, hs, hc⟩ := h
  obtain ⟨x0, e0, b, rfl, b0, b1⟩ := hc 0 _ rfl
  obtain ⟨x1, e1, n, rfl, _⟩ := hc 1 _ rfl
  obtain ⟨x2, e2, c, rfl, c0, c1⟩ := hc 2 _ rfl
  obtain ⟨x3, e3, vn, rfl, _⟩ := hc 3 _ rfl
  obtain ⟨num, e4, hnum⟩ := hc 4 _ rfl
  obtain ⟨den, e5, hden⟩ := hc 5 _ rfl
  refine ⟨b, n, c, vn, num, den, ?_, ⟨b0, by omega⟩, c0, c1, hnum, hden⟩
  unfold opd
  congr 1
  have hs' : xs.size = 6 := hs
  apply Array.ext (by simpa using hs')
  intro i hi hj
  match i, hj with
  | 0, _ => have := (Array.getElem?_eq_some_iff.1 e0).2; simpa using this
  | 1, _ => have := (Array.getElem?_eq_some_iff.1 e1).2; simpa using this
  | 2, _ => have := (Array.getElem?_eq_some_iff.1 e2).2; simpa using this
  | 3, _ => have := (Array.getElem?_eq_some_iff.1 e3).2; simpa using this
  | 4, _ => have := (Array.getElem?_eq_some_iff.1 e4).2; simpa using this
  | 5, _ => have := (Array.getElem?_eq_some_iff.1 e5).2; simpa using this

theorem rest_of {Γ : Sf.Gam} {v : Value} (h : Sf.one Γ (.agg (.cons (.int .i8 (-128) 127) (.cons (.bool none) .nil))) v) : ∃ (a : Int) (b : Bool), v = .agg #[.int .i8 a, .bool b] := by
  obtain ⟨xs, rfl, hs, hc⟩ := h
  obtain ⟨x0, e0, a, rfl, _⟩ := hc 0 _ rfl
  obtain ⟨x1, e1, b, rfl, _⟩ := hc 1 _ rfl
  refine ⟨a, b, ?_⟩
  congr 1
  have hs' : xs.size = 2 := hs
  apply Array.ext (by simpa using hs')
  intro i hi hj
  match i, hj with
  | 0, _ => have := (Array.getElem?_eq_some_iff.1 e0).2; simpa using this
  | 1, _ => have := (Array.getElem?_eq_some_iff.1 e1).2; simpa using this
/-- A text, not long. -/
def StrR (n : Nat) (v : Value) : Prop := ∃ s : ByteArray, v = .string s ∧ s.size ≤ n
theorem bsz (a : Array UInt8) : (ByteArray.mk a).size = a.size := rfl
def lev (r : Nat) : Nat → Nat
  | 0 => 13
  | k + 1 => if r % 16 ^ (k + 1) = 0 then 13 - (k + 1) else lev r k
theorem lev_spec (r : Nat) : ∀ n, ∃ j, j ≤ n ∧ r % 16 ^ j = 0 ∧ lev r n = 13 - j
  | 0 => ⟨0, Nat.le_refl _, Nat.mod_one _, rfl⟩
  | n + 1 => by
    unfold lev
    split
    · rename_i h; exact ⟨n + 1, Nat.le_refl _, h, rfl⟩
    · obtain ⟨j, h1, h2, h3⟩ := lev_spec r n
      exact ⟨j, by omega, h2, h3⟩
theorem lev_le (r : Nat) : ∀ n k, k ≤ n → r % 16 ^ k = 0 → lev r n ≤ 13 - k
  | 0, k, hk, h => by unfold lev; omega
  | n + 1, k, hk, h => by
    unfold lev
    split
    · omega
    · rename_i h'
      have : k ≠ n + 1 := fun e => h' (e ▸ h)
      exact lev_le r n k (by omega) h
theorem lev_13 (r : Nat) : lev r 13 ≤ 13 := by
  obtain ⟨j, _, _, h⟩ := lev_spec r 13
  omega
theorem lev_next (r : Nat) (h0 : r ≠ 0) (h1 : r < 4503599627370496) : lev (r * 16 % 4503599627370496) 13 + 1 ≤ lev r 13 := by
  obtain ⟨j, hj, hd, he⟩ := lev_spec r 13
  have e13 : (4503599627370496 : Nat) = 16 ^ 13 := by decide
  have hj13 : j ≠ 13 := by
    intro e
    subst e
    rw [← e13, Nat.mod_eq_of_lt h1] at hd
    exact h0 hd
  have : lev (r * 16 % 4503599627370496) 13 ≤ 13 - (j + 1) := by
    refine lev_le _ 13 (j + 1) (by omega) ?_
    rw [e13, Nat.mod_mod_of_dvd _ (Nat.pow_dvd_pow 16 (by omega))]
    have : r = 16 ^ j * (r / 16 ^ j) := by
      have := Nat.div_add_mod r (16 ^ j)
      omega
    rw [this, Nat.mul_assoc, Nat.mul_comm (r / 16 ^ j) 16, ← Nat.mul_assoc, ← Nat.pow_succ]
    exact Nat.mul_mod_right _ _
  omega
def HeR (t12 t13 : Value) : Prop := ∃ (r : Nat) (s : ByteArray), t13 = .int .u64 r ∧ r < 4503599627370496 ∧ t12 = .string s ∧ s.size + 16 * lev r 13 ≤ 208
theorem he_mask (x : Nat) (h : x < 18446744073709551616) : bits .and .u64 (x : Int) 4503599627370495 = ((x % 4503599627370496 : Nat) : Int) := by
  have := fM_int 52 x (by omega) h
  simpa [fM] using this

set_option maxHeartbeats 4000000 in
theorem hex_run (w : World) (tb E M : Nat) (hf : fok E M = true) (x : Int) (hx : U64 x) (ho : On tb w) (ht : w.tape = fun _ _ => 0) :
    Calls Oaag.prog 180 #[fmt E M, .int .u64 x] w (fun z w' => ∃ v, z = .returned v ∧ StrR 400 v) := by
  have HT := hide ht
  have HX := hide hx
  clear ht hx ho
  go_enter Oaag.func180, Oaag.ntmps180
  go_wp2_with (first
    | (with_reducible refine at_fn 67 ?_
       refine gen_calls ?_
       intro W hW
       have h0 : W.heap[w.heap.size]? = some (.cells #[.int .u8 E, .int .u8 M] 23 (0, 0)) := by rw [← hW]; exact row_new _ _ _ rfl
       have htp : W.tape = fun _ _ => 0 := by rw [← hW]; exact unhide HT
       clear hW
       refine (fmtOk_ret E M hf) W _ ?_
       rintro _ W2 rfl hb
       replace h0 := (hb.block _ (Array.getElem?_eq_some_iff.1 h0).1).trans h0
       replace htp := hb.tape.trans htp
       have k0 := cellr h0 0 _ rfl
       have k1 := cellr h0 1 _ rfl
       clear hb h0)
    | (with_reducible refine at_fn 222 ?_
       refine (hc222 (fun _ _ => none) _ _ ⟨fun b o d hd => (by cases hd), htp⟩ (args_cons (fmt_one hf) (args_cons ⟨x, rfl, (unhide HX).1, (unhide HX).le⟩ args_nil))).mono ?_
       rintro _ W3 ⟨_, Γ3, rfl, hx3, hv⟩
       obtain ⟨bb, nn, cc, vn, num, den, rfl, hbb, hc0, hc1, hnum, hden⟩ := opd_of hv
       have hwt := hx3.wt
       have HN := hide hnum
       have HDn := hide hden
       obtain ⟨an, ln, cn, rfl, _⟩ := hnum
       obtain ⟨ad, ld, cd, rfl, _⟩ := hden
       have hno : ∀ o, Γ3 W3.heap.size o = none := fun o => hwt.none (Nat.le_refl _) o
       clear hx3 hv k0 k1 htp
       unfold opd
       have h5 : (W3.alloc (.cells #[.int .u64 bb, .bool nn, .int .i8 cc, .bool vn, .slice an ln cn, .slice ad ld cd] 236)).heap[W3.heap.size]? = _ := row_new _ _ _ rfl
       have c1 := cellr h5 1 _ rfl
       have c2 := cellr h5 2 _ rfl
       have c4 := cellr h5 4 _ rfl
       have c5 := cellr h5 5 _ rfl)
    | (with_reducible refine at_fn 332 ?_
       refine gen_calls ?_
       intro W hW
       have hex : Sf.Ex Γ3 W3 Γ3 W := by rw [← hW]; exact (Sf.Ex.refl hwt).alloc _
       clear h5
       obtain ⟨nx, h5⟩ : ∃ nx, W.heap[W3.heap.size]? = some (.cells #[.int .u64 bb, .bool nx, .int .i8 cc, .bool vn, .slice an ln cn, .slice ad ld cd] 236 (0, 0)) := by rw [← hW]; exact ⟨_, row_new _ _ _ rfl⟩
       clear hW c1 c2 c4 c5
       have hlt := (Array.getElem?_eq_some_iff.1 h5).1
       refine (hc332 Γ3 W _ hex.wt (args_cons (unhide HN) (args_cons (unhide HDn) (args_cons ⟨_, rfl, by decide, by decide⟩ (args_cons ⟨_, rfl, by decide, by decide⟩ args_nil))))).mono ?_
       rintro _ W4 ⟨_, Γ4, rfl, hx4, ev, rfl, he1, he2⟩
       have h6 := (hx4.old _ hlt hno).trans h5
       have c4 := cellr h6 4 _ rfl
       have c5 := cellr h6 5 _ rfl
       have HN4 := hide ((unhide HN).mono hx4.le)
       have HD4 := hide ((unhide HDn).mono hx4.le)
       have hwt4 := hx4.wt
       clear hx4 HN HDn h5 h6 hex hlt)
    | (with_reducible refine at_fn 333 ?_
       refine (hc333 Γ4 _ _ hwt4 (args_cons (unhide HN4) (args_cons (unhide HD4) (args_cons ⟨_, rfl, (wrap64_in64 _).1, (wrap64_in64 _).2⟩ args_nil)))).mono ?_
       rintro _ W5 ⟨_, Γ5, rfl, hx5, hv5⟩
       obtain ⟨n5, d5, rfl, hn5, hd5⟩ := tup2_g hv5
       have hwt5 := hx5.wt
       clear hx5 hv5 hwt4 HN4 HD4 c4 c5)
    | (with_reducible refine at_fn 334 ?_
       refine (hc334 Γ5 _ _ hwt5 (args_cons hn5 (args_cons hd5 args_nil))).mono ?_
       rintro _ W6 ⟨_, Γ6, rfl, hx6, hv6⟩
       obtain ⟨n6, r6, rfl, hn6, hr6⟩ := tup2_g hv6
       obtain ⟨q0, q1, rfl⟩ := rest_of hr6
       have hwt6 := hx6.wt
       clear hx6 hv6 hwt5 hn5 hd5)
    | (with_reducible refine at_fn 335 ?_
       refine gen_calls ?_
       intro W hW
       have hwt7 : Sf.Wt Γ6 W := by rw [← hW]; exact ((Sf.Ex.refl hwt6).alloc _).wt
       clear hW
       refine (hc335 Γ6 W _ hwt7 (args_cons hn6 args_nil)).mono ?_
       rintro _ W7 ⟨_, Γ7, rfl, hx7, u7, rfl, hu0, hu1⟩
       obtain ⟨U, rfl⟩ := Int.eq_ofNat_of_zero_le hu0
       have hm := he_mask U (by omega)
       clear hx7 hwt7 hn6)
    | fail)
  all_goals first
    | (go_ret; exact ⟨_, rfl, ⟨_, rfl, by decide⟩⟩)
    | skip
  all_goals
    go_loop [12, 13] HeR (fun t12 t13 => lev (intOf t13).toNat 13)
    case atStart => exact ⟨U % 4503599627370496, ⟨#[]⟩, by simp, Nat.mod_lt _ (by decide), rfl, by have := lev_13 (U % 4503599627370496); show 0 + 16 * lev (U % 4503599627370496) 13 ≤ 208; omega⟩
    case round =>
      obtain ⟨r, s, rfl, hr, rfl, hs⟩ := hrel
      by_cases h0 : r = 0
      · subst h0
        go_wp2_with (first
          | (with_reducible refine at_fn 36 ?_
             refine (itoa_ret _ ?_ ?_) _ _ ?_
             · first | exact (wrap64_in64 _).1 | omega
             · first | exact (wrap64_in64 _).2 | omega
             rintro _ W8 ⟨si, rfl, hsi⟩ hb8)
          | fail)
        all_goals
          go_ret
          exact ⟨_, rfl, ⟨_, rfl, by simp [ByteArray.size_append, bsz]; omega⟩⟩
      · have hn := lev_next r h0 hr
        have hmk : bits .and .u64 ((r : Int) * 16) 4503599627370495 = (r : Int) * 16 % 4503599627370496 := by simpa using he_mask (r * 16) (by omega)
        have h0' : ¬ ((r : Int) = 0) := by omega
        go_wp2_with (first
          | (with_reducible refine at_fn 336 ?_
             refine (hexDigit_any _ _ ?_ ?_).mono ?_
             · omega
             · omega
             rintro _ _ ⟨sd, rfl, hsd, rfl⟩)
          | fail)
        refine ⟨⟨r * 16 % 4503599627370496, s ++ sd, by simp [hmk], Nat.mod_lt _ (by decide), rfl, by rw [ByteArray.size_append]; omega⟩, ?_⟩
        have e2 : ((r : Int) * 16 % 4503599627370496).toNat = r * 16 % 4503599627370496 := by omega
        simp only [intOf, hmk, e2, Int.toNat_natCast]
        omega

/-- EXACT.HEX: one answer in every memory. -/
theorem hex_x (E M : Nat) (hf : fok E M = true) (x : Int) (hx : U64 x) : ∃ v, StrR 400 v ∧ DR 180 (argsAt [.v (fmt E M), .v (.int .u64 x)]) v :=
  detP [.v (fmt E M), .v (.int .u64 x)] 2 (by decide) rfl (by kernel_rfl) (by kernel_rfl) (by simp [Arg.ok, selfV, selfC, fmt]) (hex_run w0 1 E M hf x hx ⟨by omega, w0_row⟩ rfl) (by rintro _ ⟨_, rfl, _⟩; rfl)
end Go.Proofs.YgcoaaGreat.NatW
