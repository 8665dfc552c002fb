/-
  natAnswer: the walk, a case each.
-/
import Derived.Test.YgcoaaSqrt
set_option linter.unusedVariables false
set_option linter.unusedSimpArgs false
namespace Go.Proofs.Ygcoaa.NatW
open Go.RowKit
open Go.Proofs.Ygcoaa.Limbs

/-- natAnswer's answer: two naturals in memory of their own, two numbers. -/
def Ans (w w' : World) (e : Ending) (rx ry : Nat) (u v : Int) : Prop :=
  ∃ a1 c1 a2 c2, e = .returned (.tuple #[.slice a1 (lim rx).length c1, .slice a2 (lim ry).length c2, .int .i64 u, .int .i64 v]) ∧ Res w.heap.size w' a1 c1 rx ∧ Res w.heap.size w' a2 c2 ry ∧ Below w.heap.size w w'

theorem cmpI_bd (x y : Nat) : -1 ≤ cmpI x y ∧ cmpI x y ≤ 1 := by
  unfold cmpI
  split
  · omega
  · split <;> omega

theorem normal_lim {B : Nat} {w : World} {a : Option Addr} {cap n : Nat} (h : Res B w a cap n) : (a.isNone || (decide (0 < (lim n).length) && (lim n).getD ((lim n).length - 1) 0 != 0)) = true := by
  rcases h with ⟨rfl, rfl, rfl⟩ | ⟨h0, g, l, rfl, _⟩
  · rfl
  · have h1 := (lim_length_pos n).2 h0
    have h2 := lim_top n h0
    simp only [h1, decide_true, Bool.true_and, Bool.or_eq_true, bne_iff_ne]
    exact .inr h2

def bI (b : Bool) : Int := if b then 1 else 0

set_option maxRecDepth 20000 in
set_option maxHeartbeats 1000000 in
theorem ans_0 (w : World) (fn : Int) (hm : fn % 15 = 0) (hf0 : 0 ≤ fn) (hf1 : fn ≤ 255) (a : Option Addr) (cap : Nat) (l : List Nat) (x : Nat) (hx : val l = x) (h : Sl w a cap l)
    (a2 : Option Addr) (cap2 : Nat) (l2 : List Nat) (y : Nat) (hy : val l2 = y) (h2 : Sl w a2 cap2 l2) (hb : l.length ≤ 35184372088000) (hb2 : l2.length ≤ 35184372088000) (k : Nat) (hk : k < 65536) (i : Int) (hi : -9223372036854775808 ≤ i ∧ i ≤ 9223372036854775807) :
    Calls Oaag.prog 9 #[.int .u8 fn, .slice a l.length cap, .slice a2 l2.length cap2, .int .u16 k, .int .i64 i] w fun e w' => Ans w w' e x 0 0 0 := by
  have hc := take_any w a cap l h (by omega)
  have HC := hide hc
  clear hc
  go_enter Oaag.func9, Oaag.ntmps9
  go_wp2_with fail
  refine (unhide HC).mono ?_
  rintro e w1 ⟨a1, cap1, rfl, hres, hbel⟩
  rw [hx] at hres ⊢
  go_wp2
  refine bodyPost_ret (v := .tuple #[.slice a1 (lim x).length cap1, .slice none (lim 0).length 0, .int .i64 0, .int .i64 0]) (by simp [results, Oaag.results9, go_sem, lim_zero]) rfl ⟨_, _, _, _, rfl, hres, Res.nil, hbel⟩

set_option maxRecDepth 20000 in
set_option maxHeartbeats 1000000 in
theorem ans_4 (w : World) (fn : Int) (hm : fn % 15 = 4) (hf0 : 0 ≤ fn) (hf1 : fn ≤ 255) (a : Option Addr) (cap : Nat) (l : List Nat) (x : Nat) (hx : val l = x) (h : Sl w a cap l)
    (a2 : Option Addr) (cap2 : Nat) (l2 : List Nat) (y : Nat) (hy : val l2 = y) (h2 : Sl w a2 cap2 l2) (hb : l.length ≤ 35184372088000) (hb2 : l2.length ≤ 35184372088000) (k : Nat) (hk : k < 65536) (i : Int) (hi : -9223372036854775808 ≤ i ∧ i ≤ 9223372036854775807) :
    Calls Oaag.prog 9 #[.int .u8 fn, .slice a l.length cap, .slice a2 l2.length cap2, .int .u16 k, .int .i64 i] w fun e w' => Ans w w' e (x + 1) 0 0 0 := by
  have hc := succ_any w a cap l x hx h (by omega)
  have HC := hide hc
  clear hc
  go_enter Oaag.func9, Oaag.ntmps9
  go_wp2_with fail
  refine (unhide HC).mono ?_
  rintro e w1 ⟨a1, cap1, rfl, hres, hbel⟩
  go_wp2
  refine bodyPost_ret (v := .tuple #[.slice a1 (lim (x + 1)).length cap1, .slice none (lim 0).length 0, .int .i64 0, .int .i64 0]) (by simp [results, Oaag.results9, go_sem, lim_zero]) rfl ⟨_, _, _, _, rfl, hres, Res.nil, hbel⟩

set_option maxRecDepth 20000 in
set_option maxHeartbeats 1000000 in
theorem ans_5 (w : World) (fn : Int) (hm : fn % 15 = 5) (hf0 : 0 ≤ fn) (hf1 : fn ≤ 255) (a : Option Addr) (cap : Nat) (l : List Nat) (x : Nat) (hx : val l = x) (h : Sl w a cap l)
    (a2 : Option Addr) (cap2 : Nat) (l2 : List Nat) (y : Nat) (hy : val l2 = y) (h2 : Sl w a2 cap2 l2) (hb : l.length ≤ 35184372088000) (hb2 : l2.length ≤ 35184372088000) (k : Nat) (hk : k < 65536) (i : Int) (hi : -9223372036854775808 ≤ i ∧ i ≤ 9223372036854775807) :
    Calls Oaag.prog 9 #[.int .u8 fn, .slice a l.length cap, .slice a2 l2.length cap2, .int .u16 k, .int .i64 i] w fun e w' => Ans w w' e (x + y) 0 0 0 := by
  have hc := add_any w a cap l x hx h a2 cap2 l2 y hy h2 (by omega) (by omega)
  have HC := hide hc
  clear hc
  go_enter Oaag.func9, Oaag.ntmps9
  go_wp2_with fail
  refine (unhide HC).mono ?_
  rintro e w1 ⟨a1, cap1, rfl, hres, hbel⟩
  go_wp2
  refine bodyPost_ret (v := .tuple #[.slice a1 (lim (x + y)).length cap1, .slice none (lim 0).length 0, .int .i64 0, .int .i64 0]) (by simp [results, Oaag.results9, go_sem, lim_zero]) rfl ⟨_, _, _, _, rfl, hres, Res.nil, hbel⟩

set_option maxRecDepth 20000 in
set_option maxHeartbeats 1000000 in
theorem ans_6 (w : World) (fn : Int) (hm : fn % 15 = 6) (hf0 : 0 ≤ fn) (hf1 : fn ≤ 255) (a : Option Addr) (cap : Nat) (l : List Nat) (x : Nat) (hx : val l = x) (h : Sl w a cap l)
    (a2 : Option Addr) (cap2 : Nat) (l2 : List Nat) (y : Nat) (hy : val l2 = y) (h2 : Sl w a2 cap2 l2) (hb : l.length ≤ 35184372088000) (hb2 : l2.length ≤ 35184372088000) (k : Nat) (hk : k < 65536) (i : Int) (hi : -9223372036854775808 ≤ i ∧ i ≤ 9223372036854775807) :
    Calls Oaag.prog 9 #[.int .u8 fn, .slice a l.length cap, .slice a2 l2.length cap2, .int .u16 k, .int .i64 i] w fun e w' => Ans w w' e (x * y) 0 0 0 := by
  have hc := mul_any w a cap l x hx h a2 cap2 l2 y hy h2 (by omega)
  have HC := hide hc
  clear hc
  go_enter Oaag.func9, Oaag.ntmps9
  go_wp2_with fail
  refine (unhide HC).mono ?_
  rintro e w1 ⟨a1, cap1, rfl, hres, hbel⟩
  go_wp2
  refine bodyPost_ret (v := .tuple #[.slice a1 (lim (x * y)).length cap1, .slice none (lim 0).length 0, .int .i64 0, .int .i64 0]) (by simp [results, Oaag.results9, go_sem, lim_zero]) rfl ⟨_, _, _, _, rfl, hres, Res.nil, hbel⟩

set_option maxRecDepth 20000 in
set_option maxHeartbeats 1000000 in
theorem ans_10 (w : World) (fn : Int) (hm : fn % 15 = 10) (hf0 : 0 ≤ fn) (hf1 : fn ≤ 255) (a : Option Addr) (cap : Nat) (l : List Nat) (x : Nat) (hx : val l = x) (h : Sl w a cap l)
    (a2 : Option Addr) (cap2 : Nat) (l2 : List Nat) (y : Nat) (hy : val l2 = y) (h2 : Sl w a2 cap2 l2) (hb : l.length ≤ 35184372088000) (hb2 : l2.length ≤ 35184372088000) (k : Nat) (hk : k < 65536) (i : Int) (hi : -9223372036854775808 ≤ i ∧ i ≤ 9223372036854775807) :
    Calls Oaag.prog 9 #[.int .u8 fn, .slice a l.length cap, .slice a2 l2.length cap2, .int .u16 k, .int .i64 i] w fun e w' => Ans w w' e (x * 2 ^ k) 0 0 0 := by
  have hc := shl_any w a cap l x hx h k hk (by omega)
  have HC := hide hc
  clear hc
  go_enter Oaag.func9, Oaag.ntmps9
  go_wp2_with fail
  refine (unhide HC).mono ?_
  rintro e w1 ⟨a1, cap1, rfl, hres, hbel⟩
  go_wp2
  refine bodyPost_ret (v := .tuple #[.slice a1 (lim (x * 2 ^ k)).length cap1, .slice none (lim 0).length 0, .int .i64 0, .int .i64 0]) (by simp [results, Oaag.results9, go_sem, lim_zero]) rfl ⟨_, _, _, _, rfl, hres, Res.nil, hbel⟩

set_option maxRecDepth 20000 in
set_option maxHeartbeats 1000000 in
theorem ans_13 (w : World) (fn : Int) (hm : fn % 15 = 13) (hf0 : 0 ≤ fn) (hf1 : fn ≤ 255) (a : Option Addr) (cap : Nat) (l : List Nat) (x : Nat) (hx : val l = x) (h : Sl w a cap l)
    (a2 : Option Addr) (cap2 : Nat) (l2 : List Nat) (y : Nat) (hy : val l2 = y) (h2 : Sl w a2 cap2 l2) (hb : l.length ≤ 35184372088000) (hb2 : l2.length ≤ 35184372088000) (k : Nat) (hk : k < 65536) (i : Int) (hi : -9223372036854775808 ≤ i ∧ i ≤ 9223372036854775807) :
    Calls Oaag.prog 9 #[.int .u8 fn, .slice a l.length cap, .slice a2 l2.length cap2, .int .u16 k, .int .i64 i] w fun e w' => Ans w w' e (5 ^ k) 0 0 0 := by
  have hc := pow5_any w k hk
  have HC := hide hc
  clear hc
  go_enter Oaag.func9, Oaag.ntmps9
  go_wp2_with fail
  refine (unhide HC).mono ?_
  rintro e w1 ⟨a1, cap1, rfl, hres, hbel⟩
  go_wp2
  refine bodyPost_ret (v := .tuple #[.slice a1 (lim (5 ^ k)).length cap1, .slice none (lim 0).length 0, .int .i64 0, .int .i64 0]) (by simp [results, Oaag.results9, go_sem, lim_zero]) rfl ⟨_, _, _, _, rfl, hres, Res.nil, hbel⟩

set_option maxRecDepth 20000 in
set_option maxHeartbeats 1000000 in
theorem ans_3 (w : World) (fn : Int) (hm : fn % 15 = 3) (hf0 : 0 ≤ fn) (hf1 : fn ≤ 255) (a : Option Addr) (cap : Nat) (l : List Nat) (x : Nat) (hx : val l = x) (h : Sl w a cap l)
    (a2 : Option Addr) (cap2 : Nat) (l2 : List Nat) (y : Nat) (hy : val l2 = y) (h2 : Sl w a2 cap2 l2) (hb : l.length ≤ 35184372088000) (hb2 : l2.length ≤ 35184372088000) (k : Nat) (hk : k < 65536) (i : Int) (hi : -9223372036854775808 ≤ i ∧ i ≤ 9223372036854775807) :
    Calls Oaag.prog 9 #[.int .u8 fn, .slice a l.length cap, .slice a2 l2.length cap2, .int .u16 k, .int .i64 i] w fun e w' => Ans w w' e 0 0 (bl x : Nat) 0 := by
  have hc := bitLen_any w a cap l x hx h (by omega)
  have HC := hide hc
  clear hc
  go_enter Oaag.func9, Oaag.ntmps9
  go_wp2_with fail
  refine (unhide HC).mono ?_
  rintro e w1 ⟨rfl, rfl⟩
  go_wp2
  refine bodyPost_ret (v := .tuple #[.slice none (lim 0).length 0, .slice none (lim 0).length 0, .int .i64 (bl x : Nat), .int .i64 0]) (by simp [results, Oaag.results9, go_sem, lim_zero]) rfl ⟨_, _, _, _, rfl, Res.nil, Res.nil, Below.refl _ _⟩

set_option maxRecDepth 20000 in
set_option maxHeartbeats 1000000 in
theorem ans_7 (w : World) (fn : Int) (hm : fn % 15 = 7) (hf0 : 0 ≤ fn) (hf1 : fn ≤ 255) (a : Option Addr) (cap : Nat) (l : List Nat) (x : Nat) (hx : val l = x) (h : Sl w a cap l)
    (a2 : Option Addr) (cap2 : Nat) (l2 : List Nat) (y : Nat) (hy : val l2 = y) (h2 : Sl w a2 cap2 l2) (hb : l.length ≤ 35184372088000) (hb2 : l2.length ≤ 35184372088000) (k : Nat) (hk : k < 65536) (i : Int) (hi : -9223372036854775808 ≤ i ∧ i ≤ 9223372036854775807) :
    Calls Oaag.prog 9 #[.int .u8 fn, .slice a l.length cap, .slice a2 l2.length cap2, .int .u16 k, .int .i64 i] w fun e w' => Ans w w' e 0 0 (cmpI x y) 0 := by
  have hc := cmp_any w a cap l x hx h (by omega) a2 cap2 l2 y hy h2 (by omega)
  have HC := hide hc
  clear hc
  go_enter Oaag.func9, Oaag.ntmps9
  go_wp2_with fail
  refine (unhide HC).mono ?_
  rintro e w1 ⟨hbel, rfl⟩
  obtain ⟨hcb1, hcb2⟩ := cmpI_bd x y
  go_wp2
  refine bodyPost_ret (v := .tuple #[.slice none (lim 0).length 0, .slice none (lim 0).length 0, .int .i64 (cmpI x y), .int .i64 0]) (by simp [results, Oaag.results9, go_sem, lim_zero]) rfl ⟨_, _, _, _, rfl, Res.nil, Res.nil, hbel⟩

set_option maxRecDepth 20000 in
set_option maxHeartbeats 1000000 in
theorem ans_1 (w : World) (fn : Int) (hm : fn % 15 = 1) (hf0 : 0 ≤ fn) (hf1 : fn ≤ 255) (a : Option Addr) (cap : Nat) (l : List Nat) (x : Nat) (hx : val l = x) (h : Sl w a cap l)
    (a2 : Option Addr) (cap2 : Nat) (l2 : List Nat) (y : Nat) (hy : val l2 = y) (h2 : Sl w a2 cap2 l2) (hb : l.length ≤ 35184372088000) (hb2 : l2.length ≤ 35184372088000) (k : Nat) (hk : k < 65536) (i : Int) (hi : -9223372036854775808 ≤ i ∧ i ≤ 9223372036854775807) :
    Calls Oaag.prog 9 #[.int .u8 fn, .slice a l.length cap, .slice a2 l2.length cap2, .int .u16 k, .int .i64 i] w fun e w' => Ans w w' e (i % 18446744073709551616).toNat 0 0 0 := by
  obtain ⟨n, hn⟩ : ∃ n : Nat, n = (i % 18446744073709551616).toNat := ⟨_, rfl⟩
  have hn2 : n < 18446744073709551616 := by omega
  have hwr : IntKind.u64.wrap i = (n : Int) := by rw [IntKind.wrap_u64]; omega
  have hwr2 : i % 18446744073709551616 = (n : Int) := by omega
  rw [← hn]
  have hc := fromU64_any w n hn2
  have HC := hide hc
  clear hc hn
  go_enter Oaag.func9, Oaag.ntmps9
  go_wp2_with fail
  refine (unhide HC).mono ?_
  rintro e w1 ⟨a1, cap1, rfl, hres, hbel⟩
  go_wp2
  exact bodyPost_ret (v := .tuple #[.slice a1 (lim n).length cap1, .slice none (lim 0).length 0, .int .i64 0, .int .i64 0]) (by simp [results, Oaag.results9, go_sem, lim_zero]) rfl ⟨_, _, _, _, rfl, hres, Res.nil, hbel⟩

set_option maxRecDepth 20000 in
set_option maxHeartbeats 1000000 in
theorem ans_2 (w : World) (fn : Int) (hm : fn % 15 = 2) (hf0 : 0 ≤ fn) (hf1 : fn ≤ 255) (a : Option Addr) (cap : Nat) (l : List Nat) (x : Nat) (hx : val l = x) (h : Sl w a cap l)
    (a2 : Option Addr) (cap2 : Nat) (l2 : List Nat) (y : Nat) (hy : val l2 = y) (h2 : Sl w a2 cap2 l2) (hb : l.length ≤ 35184372088000) (hb2 : l2.length ≤ 35184372088000) (k : Nat) (hk : k < 65536) (i : Int) (hi : -9223372036854775808 ≤ i ∧ i ≤ 9223372036854775807) :
    Calls Oaag.prog 9 #[.int .u8 fn, .slice a l.length cap, .slice a2 l2.length cap2, .int .u16 k, .int .i64 i] w fun e w' => Ans w w' e 0 0 0 (bI (bitAt x i)) := by
  have hc := bit_any w a cap l x hx h (by omega) i hi
  obtain ⟨z, hz⟩ : ∃ z, z = bitAt x i := ⟨_, rfl⟩
  rw [← hz] at hc ⊢
  have HC := hide hc
  clear hc hz
  cases z
  all_goals
    go_enter Oaag.func9, Oaag.ntmps9
    go_wp2_with fail
    refine (unhide HC).mono ?_
    rintro e w1 ⟨rfl, rfl⟩
    go_wp2
    first
      | exact bodyPost_ret (v := .tuple #[.slice none (lim 0).length 0, .slice none (lim 0).length 0, .int .i64 0, .int .i64 (bI true)]) (by simp [results, Oaag.results9, go_sem, bI, lim_zero]) rfl ⟨_, _, _, _, rfl, Res.nil, Res.nil, Below.refl _ _⟩
      | exact bodyPost_ret (v := .tuple #[.slice none (lim 0).length 0, .slice none (lim 0).length 0, .int .i64 0, .int .i64 (bI false)]) (by simp [results, Oaag.results9, go_sem, bI, lim_zero]) rfl ⟨_, _, _, _, rfl, Res.nil, Res.nil, Below.refl _ _⟩

set_option maxRecDepth 20000 in
set_option maxHeartbeats 1000000 in
theorem ans_8 (w : World) (fn : Int) (hm : fn % 15 = 8) (hf0 : 0 ≤ fn) (hf1 : fn ≤ 255) (a : Option Addr) (cap : Nat) (l : List Nat) (x : Nat) (hx : val l = x) (h : Sl w a cap l)
    (a2 : Option Addr) (cap2 : Nat) (l2 : List Nat) (y : Nat) (hy : val l2 = y) (h2 : Sl w a2 cap2 l2) (hb : l.length ≤ 35184372088000) (hb2 : l2.length ≤ 35184372088000) (k : Nat) (hk : k < 65536) (i : Int) (hi : -9223372036854775808 ≤ i ∧ i ≤ 9223372036854775807) :
    Calls Oaag.prog 9 #[.int .u8 fn, .slice a l.length cap, .slice a2 l2.length cap2, .int .u16 k, .int .i64 i] w fun e w' => Ans w w' e (x - y) 0 0 (bI (decide (y ≤ x))) := by
  have hc := sub_any w a cap l x hx h a2 cap2 l2 y hy h2 (by omega) (by omega)
  obtain ⟨z, hz⟩ : ∃ z, z = decide (y ≤ x) := ⟨_, rfl⟩
  rw [← hz] at hc ⊢
  have HC := hide hc
  clear hc hz
  cases z
  all_goals
    go_enter Oaag.func9, Oaag.ntmps9
    go_wp2_with fail
    refine (unhide HC).mono ?_
    rintro e w1 ⟨a1, cap1, rfl, hres, hbel⟩
    go_wp2
    first
      | exact bodyPost_ret (v := .tuple #[.slice a1 (lim (x - y)).length cap1, .slice none (lim 0).length 0, .int .i64 0, .int .i64 (bI true)]) (by simp [results, Oaag.results9, go_sem, bI, lim_zero]) rfl ⟨_, _, _, _, rfl, hres, Res.nil, hbel⟩
      | exact bodyPost_ret (v := .tuple #[.slice a1 (lim (x - y)).length cap1, .slice none (lim 0).length 0, .int .i64 0, .int .i64 (bI false)]) (by simp [results, Oaag.results9, go_sem, bI, lim_zero]) rfl ⟨_, _, _, _, rfl, hres, Res.nil, hbel⟩

set_option maxRecDepth 20000 in
set_option maxHeartbeats 1000000 in
theorem ans_9 (w : World) (fn : Int) (hm : fn % 15 = 9) (hf0 : 0 ≤ fn) (hf1 : fn ≤ 255) (a : Option Addr) (cap : Nat) (l : List Nat) (x : Nat) (hx : val l = x) (h : Sl w a cap l)
    (a2 : Option Addr) (cap2 : Nat) (l2 : List Nat) (y : Nat) (hy : val l2 = y) (h2 : Sl w a2 cap2 l2) (hb : l.length ≤ 35184372088000) (hb2 : l2.length ≤ 35184372088000) (k : Nat) (hk : k < 65536) (i : Int) (hi : -9223372036854775808 ≤ i ∧ i ≤ 9223372036854775807) :
    Calls Oaag.prog 9 #[.int .u8 fn, .slice a l.length cap, .slice a2 l2.length cap2, .int .u16 k, .int .i64 i] w fun e w' => Ans w w' e (dq x y) (dr x y) 0 (bI (decide (y ≠ 0))) := by
  have hc := divMod_any w a cap l x hx h (by omega) a2 cap2 l2 y hy h2 (by omega)
  obtain ⟨z, hz⟩ : ∃ z, z = decide (y ≠ 0) := ⟨_, rfl⟩
  rw [← hz] at hc ⊢
  have HC := hide hc
  clear hc hz
  cases z
  all_goals
    go_enter Oaag.func9, Oaag.ntmps9
    go_wp2_with fail
    refine (unhide HC).mono ?_
    rintro e w1 ⟨a1, cap1, b1, capb1, rfl, hres, hres2, hbel⟩
    go_wp2
    first
      | exact bodyPost_ret (v := .tuple #[.slice a1 (lim (dq x y)).length cap1, .slice b1 (lim (dr x y)).length capb1, .int .i64 0, .int .i64 (bI true)]) (by simp [results, Oaag.results9, go_sem, bI, lim_zero]) rfl ⟨_, _, _, _, rfl, hres, hres2, hbel⟩
      | exact bodyPost_ret (v := .tuple #[.slice a1 (lim (dq x y)).length cap1, .slice b1 (lim (dr x y)).length capb1, .int .i64 0, .int .i64 (bI false)]) (by simp [results, Oaag.results9, go_sem, bI, lim_zero]) rfl ⟨_, _, _, _, rfl, hres, hres2, hbel⟩

set_option maxRecDepth 20000 in
set_option maxHeartbeats 1000000 in
theorem ans_11 (w : World) (fn : Int) (hm : fn % 15 = 11) (hf0 : 0 ≤ fn) (hf1 : fn ≤ 255) (a : Option Addr) (cap : Nat) (l : List Nat) (x : Nat) (hx : val l = x) (h : Sl w a cap l)
    (a2 : Option Addr) (cap2 : Nat) (l2 : List Nat) (y : Nat) (hy : val l2 = y) (h2 : Sl w a2 cap2 l2) (hb : l.length ≤ 35184372088000) (hb2 : l2.length ≤ 35184372088000) (k : Nat) (hk : k < 65536) (i : Int) (hi : -9223372036854775808 ≤ i ∧ i ≤ 9223372036854775807) :
    Calls Oaag.prog 9 #[.int .u8 fn, .slice a l.length cap, .slice a2 l2.length cap2, .int .u16 k, .int .i64 i] w fun e w' => Ans w w' e (x / 2 ^ k) 0 0 (bI (lostB (x % 2 ^ k))) := by
  have hc := shr_any w a cap l x hx h k hk (by omega)
  obtain ⟨z, hz⟩ : ∃ z, z = lostB (x % 2 ^ k) := ⟨_, rfl⟩
  rw [← hz] at hc ⊢
  have HC := hide hc
  clear hc hz
  cases z
  all_goals
    go_enter Oaag.func9, Oaag.ntmps9
    go_wp2_with fail
    refine (unhide HC).mono ?_
    rintro e w1 ⟨a1, cap1, rfl, hres, hbel⟩
    go_wp2
    first
      | exact bodyPost_ret (v := .tuple #[.slice a1 (lim (x / 2 ^ k)).length cap1, .slice none (lim 0).length 0, .int .i64 0, .int .i64 (bI true)]) (by simp [results, Oaag.results9, go_sem, bI, lim_zero]) rfl ⟨_, _, _, _, rfl, hres, Res.nil, hbel⟩
      | exact bodyPost_ret (v := .tuple #[.slice a1 (lim (x / 2 ^ k)).length cap1, .slice none (lim 0).length 0, .int .i64 0, .int .i64 (bI false)]) (by simp [results, Oaag.results9, go_sem, bI, lim_zero]) rfl ⟨_, _, _, _, rfl, hres, Res.nil, hbel⟩

set_option maxRecDepth 20000 in
set_option maxHeartbeats 1000000 in
theorem ans_12 (w : World) (fn : Int) (hm : fn % 15 = 12) (hf0 : 0 ≤ fn) (hf1 : fn ≤ 255) (a : Option Addr) (cap : Nat) (l : List Nat) (x : Nat) (hx : val l = x) (h : Sl w a cap l)
    (a2 : Option Addr) (cap2 : Nat) (l2 : List Nat) (y : Nat) (hy : val l2 = y) (h2 : Sl w a2 cap2 l2) (hb : l.length ≤ 35184372088000) (hb2 : l2.length ≤ 35184372088000) (k : Nat) (hk : k < 65536) (i : Int) (hi : -9223372036854775808 ≤ i ∧ i ≤ 9223372036854775807) :
    Calls Oaag.prog 9 #[.int .u8 fn, .slice a l.length cap, .slice a2 l2.length cap2, .int .u16 k, .int .i64 i] w fun e w' => Ans w w' e (isq x) 0 0 (bI (decide (isq x * isq x = x))) := by
  have hc := sqrt_any w a cap l x hx h (by omega)
  obtain ⟨z, hz⟩ : ∃ z, z = decide (isq x * isq x = x) := ⟨_, rfl⟩
  rw [← hz] at hc ⊢
  have HC := hide hc
  clear hc hz
  cases z
  all_goals
    go_enter Oaag.func9, Oaag.ntmps9
    go_wp2_with fail
    refine (unhide HC).mono ?_
    rintro e w1 ⟨a1, cap1, rfl, hres, hbel⟩
    go_wp2
    first
      | exact bodyPost_ret (v := .tuple #[.slice a1 (lim (isq x)).length cap1, .slice none (lim 0).length 0, .int .i64 0, .int .i64 (bI true)]) (by simp [results, Oaag.results9, go_sem, bI, lim_zero]) rfl ⟨_, _, _, _, rfl, hres, Res.nil, hbel⟩
      | exact bodyPost_ret (v := .tuple #[.slice a1 (lim (isq x)).length cap1, .slice none (lim 0).length 0, .int .i64 0, .int .i64 (bI false)]) (by simp [results, Oaag.results9, go_sem, bI, lim_zero]) rfl ⟨_, _, _, _, rfl, hres, Res.nil, hbel⟩

set_option maxRecDepth 20000 in
set_option maxHeartbeats 1000000 in
theorem ans_14 (w : World) (fn : Int) (hm : fn % 15 = 14) (hf0 : 0 ≤ fn) (hf1 : fn ≤ 255) (a : Option Addr) (cap : Nat) (l : List Nat) (x : Nat) (hx : val l = x) (h : Sl w a cap l)
    (a2 : Option Addr) (cap2 : Nat) (l2 : List Nat) (y : Nat) (hy : val l2 = y) (h2 : Sl w a2 cap2 l2) (hb : l.length ≤ 35184372088000) (hb2 : l2.length ≤ 35184372088000) (k : Nat) (hk : k < 65536) (i : Int) (hi : -9223372036854775808 ≤ i ∧ i ≤ 9223372036854775807) :
    Calls Oaag.prog 9 #[.int .u8 fn, .slice a l.length cap, .slice a2 l2.length cap2, .int .u16 k, .int .i64 i] w fun e w' => Ans w w' e 0 0 0 1 := by
  have hl1 := lim_length_le' l h.lt
  have hl2 := lim_length_le' l2 h2.lt
  rw [hx] at hl1
  rw [hy] at hl2
  have hc := take_any w a cap l h (by omega)
  rw [hx] at hc
  have HC := hide hc
  clear hc
  go_enter Oaag.func9, Oaag.ntmps9
  go_wp2_with fail
  refine (unhide HC).mono ?_
  rintro e w1 ⟨a1, cap1, rfl, hres, hbel⟩
  have hnm := normal_any w1 a1 cap1 _ hres.sl (by omega)
  rw [normal_lim hres] at hnm
  have HN := hide hnm
  clear hnm hres
  go_wp2_with fail
  refine (unhide HN).mono ?_
  rintro e w2 ⟨rfl, rfl⟩
  have hsz := hbel.size
  have hc2 := take_any w1 a2 cap2 l2 (h2.later hbel) (by omega)
  rw [hy] at hc2
  have HC2 := hide hc2
  clear hc2
  go_wp2_with fail
  refine (unhide HC2).mono ?_
  rintro e w3 ⟨a3, cap3, rfl, hres3, hbel3⟩
  have hnm := normal_any w3 a3 cap3 _ hres3.sl (by omega)
  rw [normal_lim hres3] at hnm
  have HN3 := hide hnm
  clear hnm hres3
  go_wp2_with fail
  refine (unhide HN3).mono ?_
  rintro e w4 ⟨rfl, rfl⟩
  go_wp2
  exact bodyPost_ret (v := .tuple #[.slice none (lim 0).length 0, .slice none (lim 0).length 0, .int .i64 0, .int .i64 1]) (by simp [results, Oaag.results9, go_sem, lim_zero]) rfl ⟨_, _, _, _, rfl, Res.nil, Res.nil, hbel.trans (hbel3.mono hsz)⟩

end Go.Proofs.Ygcoaa.NatW
