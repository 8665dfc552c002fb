/-
  Package exact: digitsOf.
-/
import Derived.Test.YgcoaaGreatApp
import Derived.Test.YgcoaaGreatRsG
import Derived.Test.YgcoaaGreatRatE
import Derived.Test.YgcoaaGreatExD
set_option linter.unusedVariables false
set_option linter.unusedSimpArgs false
set_option maxRecDepth 20000
namespace Go.Proofs.YgcoaaGreat.NatW
open Go.RowKit
open Go.Proofs.YgcoaaGreat.Limbs
attribute [local go_sem] Go.Instr.field Go.asAgg

/-- make([]byte, n). -/
theorem wpList_mkB {w : World} {ops : Array Oper} {rest : List Oper} {o : Oper} {a : Act} {Q : Exit → Act → World → Prop}
    (hg : o.guard = none) (x : Operand) (hop : o.op = Op.makeSlice 119 x x) (n : Nat) (C : Int) (hx : a.eval x = .int .i64 C) (hC : C = (n : Int)) (hn : n ≤ 1000000000)
    (hK : ∀ w', Bank w' w.heap.size 0 n .u8 (fun _ => True) → Mine w' w.heap.size → Below w.heap.size w w' → wpList Oaag.prog ops Q rest (a.put o.dst (.slice (some ⟨w.heap.size, 0, none⟩) n n)) w') :
    wpList Oaag.prog ops Q (o :: rest) a w := by
  obtain ⟨i, hi, hz, hs, hbt⟩ := info_parts info5
  refine wpList_make_full w hg x x 119 hop w.heap.size 5 i (.int .u8 0) 1 u119 hi hz hs .i64 .i64 C C n hx hx hC hC (by rw [hbt]; omega) (by unfold maxLen; omega) (Nat.le_refl _) fun w' h1 h2 => hK w' ?_ ?_ ?_
  · rcases h1.2 with ⟨h', _⟩ | ⟨g', cap', cur, h', _, hg', _, _, hcs, htake⟩
    · simp at h'
    · simp only [Value.slice.injEq, Option.some.injEq, Addr.mk.injEq, and_true, true_and] at h'
      obtain ⟨rfl, rfl⟩ := h'
      intro j hj
      rw [List.take_of_length_le (by simp [hcs])] at htake
      have e : (Value.int .u8 0).cells = #[Value.int .u8 0] := rfl
      rw [e, toList_madeCells_one, Nat.mul_one] at htake
      have hc := cell_of_row w' w.heap.size (0 + j) _ _ _ hg'
      refine ⟨0, ?_, trivial⟩
      rw [hc]
      have e2 : cur = (List.replicate n (Value.int .u8 0)).toArray := by
        apply Array.ext'
        simp [htake]
      rw [e2]
      simp [hj]
  · rcases h1.2 with ⟨h', _⟩ | ⟨g', cap', cur, h', _, hg', _, _, hcs, htake⟩
    · simp at h'
    · simp only [Value.slice.injEq, Option.some.injEq, Addr.mk.injEq, and_true, true_and] at h'
      obtain ⟨rfl, rfl⟩ := h'
      exact ⟨(Array.getElem?_eq_some_iff.1 hg').1, fun j => frozen_of_row w' w.heap.size j _ _ hg'⟩
  · exact (Below.refl _ _).grown h2 (Nat.le_refl _) (fun k hk => by cases hk)

set_option maxHeartbeats 1000000 in
theorem toU64_u (n : Nat) (hn : (lim n).length ≤ 70368744177664) (w : World) (a : Option Addr) (cap : Nat) (hs : Sl w a cap (lim n)) :
    Calls Oaag.prog 335 #[.slice a (lim n).length cap] w fun e w' => ∃ r : Nat, e = .returned (.int .u64 (r : Int)) ∧ r < 18446744073709551616 ∧ w = w' := by
  by_cases h1 : 1 < (lim n).length
  · have p1 := getD_lt (lim n) (Lt_lim n) 1
    have p0 := getD_lt (lim n) (Lt_lim n) 0
    obtain ⟨X1, hX1⟩ : ∃ X, X = (lim n).getD 1 0 := ⟨_, rfl⟩
    obtain ⟨X0, hX0⟩ : ∃ X, X = (lim n).getD 0 0 := ⟨_, rfl⟩
    rw [← hX1] at p1
    rw [← hX0] at p0
    have HX1 := hide hX1
    have HX0 := hide hX0
    have hor := or_join X1 X0 p1 p0
    clear hX1 hX0
    obtain ⟨b, off, rfl, hc⟩ := hs.row (by omega)
    have c1 := hc 1 (by omega)
    have c0 := hc 0 (by omega)
    rw [← unhide HX1] at c1
    rw [← unhide HX0, Nat.add_zero] at c0
    clear hc
    go_enter Oaag.func335, Oaag.ntmps335
    go_wp2
    go_ret
    exact ⟨X1 * 4294967296 + X0, by simp, by omega, rfl⟩
  · by_cases h0 : 0 < (lim n).length
    · have p0 := getD_lt (lim n) (Lt_lim n) 0
      obtain ⟨X0, hX0⟩ : ∃ X, X = (lim n).getD 0 0 := ⟨_, rfl⟩
      rw [← hX0] at p0
      have HX0 := hide hX0
      clear hX0
      obtain ⟨b, off, rfl, hc⟩ := hs.row (by omega)
      have c0 := hc 0 (by omega)
      rw [← unhide HX0, Nat.add_zero] at c0
      clear hc
      go_enter Oaag.func335, Oaag.ntmps335
      go_wp2
      go_ret
      have ho := or_join 0 X0 (by decide) p0
      simp at ho
      refine ⟨X0, ?_, by omega, rfl⟩
      simp [ho]
    · go_enter Oaag.func335, Oaag.ntmps335
      go_wp2
      go_ret
      exact ⟨0, rfl, by decide, rfl⟩

theorem bl_div (n : Nat) (h : n / 1000000000 ≠ 0) : bl (n / 1000000000) + 29 ≤ bl n := by
  have h1 := bl_ge _ h
  have h2 := bl_lt n
  have h3 := bl_pos _ h
  have h4 : n / 1000000000 * 1000000000 ≤ n := Nat.div_mul_le_self _ _
  have h5 : n / 1000000000 * 536870912 ≤ n := Nat.le_trans (Nat.mul_le_mul_left _ (by decide)) h4
  have h6 : 2 ^ (bl (n / 1000000000) - 1 + 29) ≤ n := by
    rw [Nat.pow_add]
    exact Nat.le_trans (Nat.mul_le_mul_right _ h1) h5
  have h7 := (Nat.pow_lt_pow_iff_right (by decide : 1 < 2)).1 (Nat.lt_of_le_of_lt h6 h2)
  omega
/-- The digits' row and the number that is left. -/
structure DoS (w : World) (b N : Nat) (a : Option Addr) (cap m : Nat) (W : World) : Prop where
  res : Res 0 W a cap m
  ne : ∀ g, a = some ⟨g, 0, none⟩ → g ≠ b
  bank : Bank W b 0 N .u8 (fun _ => True)
  mine : Mine W b
  below : Below w.heap.size w W
theorem DoS.later {w : World} {b N : Nat} {a : Option Addr} {cap m : Nat} {W W' : World} (h : DoS w b N a cap m W) (hb : Below W.heap.size W W') : DoS w b N a cap m W' :=
  ⟨h.res.later hb, h.ne, h.bank.kept hb h.mine.1, h.mine.kept hb h.mine.1, h.below.trans (hb.mono h.below.size)⟩
theorem DoS.set {w : World} {b N : Nat} {a : Option Addr} {cap m : Nat} {W : World} (h : DoS w b N a cap m W) (hb : w.heap.size ≤ b) (j : Nat) (v : Int) : DoS w b N a cap m (W.setCell ⟨b, j, none⟩ (.int .u8 v)) :=
  ⟨h.res.away _ h.ne, h.ne, h.bank.set j trivial, h.mine.set _ _, below_store h.below hb _⟩
def DoR (w : World) (b N : Nat) (t0 t4 : Value) (wr : World) : Prop :=
  ∃ (a : Option Addr) (cap m p : Nat), t0 = .slice a (lim m).length cap ∧ t4 = .int .i64 (p : Int) ∧ p ≤ N ∧ (m ≠ 0 → bl m / 3 + 9 ≤ p) ∧ (lim m).length ≤ 2000000 ∧ DoS w b N a cap m wr
def DoI (w : World) (b N : Nat) (a : Option Addr) (cap m p : Nat) (t4 t6 t25 : Value) (wr : World) : Prop :=
  ∃ (j : Nat) (v : Nat), t25 = .int .i64 (j : Int) ∧ j ≤ 9 ∧ t4 = .int .i64 ((p - j : Nat) : Int) ∧ t6 = .int .u64 (v : Int) ∧ v < 18446744073709551616 ∧ DoS w b N a cap m wr

def DoQ (w : World) (b N : Nat) (t4 : Value) (wr : World) : Prop := ∃ p : Nat, t4 = .int .i64 (p : Int) ∧ p ≤ N ∧ DoS w b N none 0 0 wr

set_option maxHeartbeats 2000000 in
theorem digitsOf_run (w : World) (a : Option Addr) (cap n B : Nat) (h : Res B w a cap n) (hl : (lim n).length ≤ 2000000) :
    Calls Oaag.prog 327 #[.slice a (lim n).length cap] w fun e w' => (∃ s : ByteArray, e = .returned (.string s) ∧ s.size ≤ bl n / 3 + 9) ∧ Below w.heap.size w w' := by
  have q24 := nenil24
  have hbl := bitLen_any w a cap (lim n) n (val_lim n) h.sl (by omega)
  have hbb := bl_len n
  obtain ⟨L, hL⟩ : ∃ L, L = bl n := ⟨_, rfl⟩
  rw [← hL] at hbl hbb ⊢
  have HL := hide hL
  clear hL
  have HB := hide hbl
  have HR := hide h
  have hal : ∀ g, a = some ⟨g, 0, none⟩ → g < w.heap.size := fun g hg => (h.block g hg).2
  clear hbl h
  go_enter Oaag.func327, Oaag.ntmps327
  go_wp2_with fail
  refine (unhide HB).mono ?_
  rintro _ _ ⟨rfl, rfl⟩
  clear HB
  go_wp2_with (refine wpList_mkB rfl _ rfl (L / 3 + 9) _ rfl (by simp) (by omega) ?_; intro w1 hk1 hm1 hb1; have HS := hide (show DoS w w.heap.size (L / 3 + 9) a cap n w1 from ⟨((unhide HR).later hb1).lower (Nat.zero_le _), fun g hg => by have := hal g hg; omega, hk1, hm1, hb1⟩); clear hk1 hm1 hb1)
  go_loopw [0, 4, 5, 6, 25] (fun t0 t4 _ _ _ wr => DoR w w.heap.size (L / 3 + 9) t0 t4 wr) (fun _ t4 _ _ _ wr => (intOf t4).toNat)
  case atStart => exact ⟨a, cap, n, L / 3 + 9, rfl, by simp, Nat.le_refl _, fun _ => by rw [unhide HL]; exact Nat.le_refl _, hl, unhide HS⟩
  case round =>
    obtain ⟨a1, cap1, m, p, rfl, rfl, hpN, hmp, hlm, S⟩ := hrel
    clear HS HR hal
    rcases S.res with ⟨rfl, rfl, rfl⟩ | ⟨hm0, g0, _, rfl, -⟩
    · have HS := hide S
      clear S hmp
      go_wp2_with fail
      go_loopw [4] (fun t4 wr => DoQ w w.heap.size (L / 3 + 9) t4 wr) (fun t4 wr => L / 3 + 9 - (intOf t4).toNat)
      case atStart => exact ⟨p, rfl, hpN, unhide HS⟩
      case round =>
        obtain ⟨p, rfl, hpN, S⟩ := hrel
        clear HS
        by_cases hlt : p < L / 3 + 9
        · obtain ⟨x, hc, -⟩ := S.bank.cell p (by omega)
          obtain ⟨s, hs, hcv⟩ := bytes_string wr 119 9 5 NatW.u119 NatW.u5 NatW.u9 w.heap.size p (L / 3 + 9 - p) (L / 3 + 9 - p) (fun _ => True) (fun j hj => by
            have := S.bank (p + j) (by omega)
            rwa [Nat.zero_add] at this)
          have HS := hide S
          clear S
          go_wp2_with fail
          all_goals first
            | exact ⟨⟨p + 1, by simp, by omega, unhide HS⟩, by simp [intOf]; omega⟩
            | (go_ret; exact ⟨⟨_, rfl, by omega⟩, (unhide HS).below⟩)
            | fail
        · have HS := hide S
          clear S
          go_wp2_with fail
          all_goals
            go_ret
            exact ⟨⟨_, rfl, by show 1 ≤ _; omega⟩, (unhide HS).below⟩
    · have hp := hmp hm0
      have hdv := bl_div m
      have HS := hide S
      clear S
      go_wp2_with (first
        | (with_reducible refine at_fn 25 ?_
           refine (fromU64_any _ 1000000000 (by omega)).mono ?_
           rintro _ W2 ⟨a2, cap2, rfl, hres2, hb2⟩
           have S2 := (unhide HS).later hb2
           clear HS hb2)
        | (with_reducible refine at_fn 62 ?_
           refine (divMod_any _ _ _ (lim m) m (val_lim _) S2.res.sl (by omega) a2 cap2 (lim 1000000000) 1000000000 (val_lim _) hres2.sl (by have := lim_length_le 1000000000 1 (by decide); omega)).mono ?_
           rintro _ W3 ⟨a3, cap3, a4, cap4, rfl, hq, hr, hb3⟩
           have hW2 := S2.mine.1
           have S3 : DoS w w.heap.size (L / 3 + 9) a3 cap3 (dq m 1000000000) W3 := ⟨hq.lower (Nat.zero_le _), fun g hg => by have := (hq.block g hg).1; omega, S2.bank.kept hb3 S2.mine.1, S2.mine.kept hb3 S2.mine.1, S2.below.trans (hb3.mono S2.below.size)⟩
           clear S2 hb3 hq hres2)
        | (with_reducible refine at_fn 335 ?_
           refine (toU64_u (dr m 1000000000) (by have := lim_length_mono _ _ (dr_le m 1000000000); omega) _ _ _ hr.sl).mono ?_
           rintro _ _ ⟨v0, rfl, hv0, rfl⟩
           have HS3 := hide S3
           clear S3 hr)
        | fail)
      go_loopw [4, 6, 25] (fun t4 t6 t25 wr => DoI w w.heap.size (L / 3 + 9) a3 cap3 (dq m 1000000000) p t4 t6 t25 wr) (fun _ _ t25 wr => 9 - (intOf t25).toNat)
      case atStart => exact ⟨0, v0, rfl, by omega, rfl, rfl, hv0, unhide HS3⟩
      case round =>
        obtain ⟨j, v, rfl, hj, rfl, rfl, hv, S⟩ := hrel
        clear HS3
        by_cases hl9 : j < 9
        · obtain ⟨q, hq⟩ : ∃ q, q + 1 = p - j := ⟨p - j - 1, by omega⟩
          have eq1 : ((p - j : Nat) : Int) = (q : Int) + 1 := by omega
          rw [eq1]
          obtain ⟨x, hc, -⟩ := S.bank.cell q (by omega)
          have hfz := S.mine.2 q
          have HS := hide S
          clear S eq1
          go_wp2_with fail
          exact ⟨⟨j + 1, v / 10, by simp, by omega, by congr 1; omega, by simp, by omega, (unhide HS).set (Nat.le_refl _) q _⟩, by simp [intOf]; omega⟩
        · have e9 : j = 9 := by omega
          subst e9
          have HS := hide S
          clear S
          go_wp2_with fail
          refine ⟨⟨a3, cap3, dq m 1000000000, p - 9, rfl, rfl, by omega, fun h0 => ?_, ?_, unhide HS⟩, by simp [intOf]; omega⟩
          · have e : dq m 1000000000 = m / 1000000000 := by unfold dq; rw [if_neg (by decide)]
            rw [e] at h0 ⊢
            have := hdv h0
            omega
          · have := lim_length_mono _ _ (dq_le m 1000000000)
            omega
end Go.Proofs.YgcoaaGreat.NatW
