/-
  One run of one text: natural numbers, as their contracts tell of them.
-/
import Derived.Test.YgcoaaGreatSfN
import Derived.Test.YgcoaaGreatAdd
import Derived.Test.YgcoaaGreatSub
import Derived.Test.YgcoaaGreatMul
import Derived.Test.YgcoaaGreatPow
import Derived.Test.YgcoaaGreatDivMod
import Derived.Test.YgcoaaGreatSqrt
import Derived.Test.YgcoaaGreatLaxC
set_option linter.unusedVariables false
set_option linter.unusedSimpArgs false
set_option maxRecDepth 20000
namespace Go.Proofs.YgcoaaGreat.SfW
open Go.RowKit
open Go.Proofs.YgcoaaGreat.Limbs Go.Proofs.YgcoaaGreat.NatW

def u32D : Sf.D := .int .u32 0 4294967295
/-- A natural of at most n limbs. -/
def nat (n : Nat) : Sf.D := .slc 1 u32D n

section
variable {Γ Γ1 : Sf.Gam} {w w' : World}

theorem args1 {d : Sf.D} {xs : Array Value} (h : Sf.Args Γ (.cons d .nil) xs) : ∃ v, xs = #[v] ∧ Sf.one Γ d v := by
  obtain ⟨h1, h2⟩ := h
  obtain ⟨v, e, hv⟩ := h2 0 d rfl
  refine ⟨v, ?_, hv⟩
  have hs : xs.size = 1 := h1
  apply Array.ext (by simp [hs])
  intro i hi hj
  have : i = 0 := by simp at hj; omega
  subst this
  simp only [Array.getElem?_eq_some_iff] at e
  obtain ⟨_, e⟩ := e
  simpa using e

theorem args2 {d d' : Sf.D} {xs : Array Value} (h : Sf.Args Γ (.cons d (.cons d' .nil)) xs) : ∃ v v', xs = #[v, v'] ∧ Sf.one Γ d v ∧ Sf.one Γ d' v' := by
  obtain ⟨h1, h2⟩ := h
  obtain ⟨v, e, hv⟩ := h2 0 d rfl
  obtain ⟨v', e', hv'⟩ := h2 1 d' rfl
  refine ⟨v, v', ?_, hv, hv'⟩
  have hs : xs.size = 2 := h1
  apply Array.ext (by simp [hs])
  intro i hi hj
  simp only [Array.getElem?_eq_some_iff] at e e'
  obtain ⟨_, e⟩ := e
  obtain ⟨_, e'⟩ := e'
  have : i = 0 ∨ i = 1 := by simp at hj; omega
  rcases this with rfl | rfl
  · simpa using e
  · simpa using e'

/-- What a slice of limbs reads as. -/
theorem sl_of {v : Value} {n : Nat} (hw : Sf.Wt Γ w) (h : Sf.one Γ (nat n) v) : ∃ a cap l, v = .slice a l.length cap ∧ Sl w a cap l ∧ l.length ≤ n := by
  obtain ⟨a, len, cap, rfl, h1, h2, h3, h4⟩ := h
  cases a with
  | none =>
    have : len = 0 := by have := h3 rfl; omega
    subst this
    exact ⟨none, cap, [], rfl, ⟨Nat.zero_le _, fun _ => h3 rfl, Lt_nil, fun i hi => by simp at hi⟩, Nat.zero_le _⟩
  | some ad =>
    obtain ⟨hs, hc⟩ := h4 ad rfl
    obtain ⟨b, off, spot⟩ := ad
    have hs : spot = none := hs
    subst hs
    have cell : ∀ i, i < cap → ∃ z : Nat, z < 4294967296 ∧ w.cell? ⟨b, off + i, none⟩ = some (.int .u32 (z : Nat)) := by
      intro i hi
      obtain ⟨cs, e, fz, x, q1, q2, q3, z, e', z1, z2⟩ := hw.cell _ _ _ (hc i (by omega))
      refine ⟨z.toNat, by omega, ?_⟩
      simp only [World.cell?, q1, q2, e']
      simp
      omega
    let l := (List.range len).map fun i => match w.cell? ⟨b, off + i, none⟩ with | some (.int _ z) => z.toNat | _ => 0
    have hl : l.length = len := by simp [l]
    have hg : ∀ i, i < len → l.getD i 0 < 4294967296 ∧ w.cell? ⟨b, off + i, none⟩ = some (.int .u32 (l.getD i 0 : Nat)) := by
      intro i hi
      obtain ⟨z, hz, e⟩ := cell i (by omega)
      have : l.getD i 0 = z := by
        simp only [l, List.getD_eq_getElem?_getD, List.getElem?_map, List.getElem?_range hi, Option.map_some, Option.getD_some, e]
        simp
      rw [this]
      exact ⟨hz, e⟩
    refine ⟨some ⟨b, off, none⟩, cap, l, by rw [hl], ⟨by omega, fun e => (by cases e), ?_, fun i hi => ?_⟩, by omega⟩
    · intro x hx
      obtain ⟨i, hi, e⟩ := List.getElem_of_mem hx
      have := (hg i (by omega)).1
      rw [List.getD_eq_getElem?_getD, List.getElem?_eq_getElem hi] at this
      simp only [Option.getD_some] at this
      omega
    · exact ⟨b, off, rfl, (hg i (by omega)).2⟩

/-- Old memory stands, new memory holds limbs. -/
structure NEx (Γ : Sf.Gam) (w : World) (Γ1 : Sf.Gam) (w' : World) : Prop where
  ex : Sf.Ex Γ w Γ1 w'
  lim : ∀ b o d, w.heap.size ≤ b → Γ1 b o = some d → d = u32D

theorem ty_lt (hw : Sf.Wt Γ w) {b o : Nat} {d : Sf.D} (h : Γ b o = some d) : b < w.heap.size := by
  obtain ⟨cs, e, fz, v, q1, _⟩ := hw.cell b o d h
  exact (Array.getElem?_eq_some_iff.1 q1).1

theorem nex_below (hw : Sf.Wt Γ w) (hb : Below w.heap.size w w') : NEx Γ w Γ w' := by
  refine ⟨⟨Sf.Le.refl _, ⟨fun b o d hd => ?_, by rw [hb.tape]; exact hw.tape⟩, hb.size, fun b o d hd => .inl hd, fun b hb' _ => hb.block b hb'⟩, fun b o d hge hd => ?_⟩
  · obtain ⟨cs, e, fz, v, q1, q2, q3, q4⟩ := hw.cell b o d hd
    exact ⟨cs, e, fz, v, by rw [hb.block b (ty_lt hw hd)]; exact q1, q2, q3, q4⟩
  · have := ty_lt hw hd
    omega

theorem nex_res (hn : NEx Γ w Γ1 w') {a : Option Addr} {cap x n : Nat} (hr : Res w.heap.size w' a cap x) (hl : (lim x).length ≤ n) :
    ∃ Γ2, NEx Γ w Γ2 w' ∧ Sf.Le Γ1 Γ2 ∧ Sf.one Γ2 (nat n) (.slice a (lim x).length cap) := by
  rcases hr with ⟨rfl, rfl, rfl⟩ | ⟨h0, g, l, rfl, hB, hrow, hlt, hlen, rfl⟩
  · exact ⟨Γ1, hn, Sf.Le.refl _, none, _, 0, rfl, hl, by simp [lim_zero], fun _ => rfl, fun a' ha => by cases ha⟩
  · let Γ2 : Sf.Gam := fun b o => match Γ1 b o with | some d => some d | none => if b = g ∧ o < cap then some u32D else none
    have hle : Sf.Le Γ1 Γ2 := by
      intro b o d hd
      simp only [Γ2, hd]
    have hty : ∀ o, o < cap → Γ2 g o = some u32D := by
      intro o ho
      simp only [Γ2]
      cases h1 : Γ1 g o with
      | some d => dsimp only; rw [hn.lim g o d hB h1]
      | none => simp [ho]
    have hlim := lim_length_le' l hlt
    refine ⟨Γ2, ⟨⟨hn.ex.le.trans hle, ⟨fun b o d hd => ?_, hn.ex.wt.tape⟩, hn.ex.size, fun b o d hd => ?_, hn.ex.old⟩, fun b o d hge hd => ?_⟩, hle, some ⟨g, 0, none⟩, _, cap, rfl, hl, by omega, (fun e => by cases e), ?_⟩
    · simp only [Γ2] at hd
      cases h1 : Γ1 b o with
      | some d' =>
        rw [h1] at hd
        cases hd
        obtain ⟨cs, e, fz, v, q1, q2, q3, q4⟩ := hn.ex.wt.cell b o _ h1
        exact ⟨cs, e, fz, v, q1, q2, q3, q4.mono hle⟩
      | none =>
        rw [h1] at hd
        dsimp only at hd
        split at hd
        · rename_i hh
          cases hd
          obtain ⟨rfl, ho⟩ := hh
          have hol : o < l.length := by omega
          refine ⟨_, _, _, .int .u32 (l.getD o 0 : Nat), hrow, ?_, by simp, ⟨_, rfl, by omega, ?_⟩⟩
          · simp [hol]
          · have := getD_lt l hlt o
            omega
        · cases hd
    · simp only [Γ2] at hd
      cases h1 : Γ1 b o with
      | some d' => rw [h1] at hd; cases hd; exact hn.ex.new b o _ h1
      | none =>
        rw [h1] at hd
        dsimp only at hd
        split at hd
        · rename_i hh; exact .inr (by omega)
        · cases hd
    · simp only [Γ2] at hd
      cases h1 : Γ1 b o with
      | some d' => rw [h1] at hd; cases hd; exact hn.lim b o _ hge h1
      | none =>
        rw [h1] at hd
        dsimp only at hd
        split at hd
        · cases hd; rfl
        · cases hd
    · rintro a' ha
      cases ha
      exact ⟨rfl, fun j hj => by simpa using hty j (by omega)⟩
end

theorem pow_len {x y n m : Nat} (hx : x < 4294967296 ^ n) (hy : y < 4294967296 ^ m) : x * y < 4294967296 ^ (n + m) := by
  rw [Nat.pow_add]
  exact Nat.mul_lt_mul'' hx hy

theorem pow_mono' {n m : Nat} (h : n ≤ m) : 4294967296 ^ n ≤ 4294967296 ^ m := Nat.pow_le_pow_right (by omega) h

theorem pow2_lt {k n : Nat} (h : k < 32 * n) : 2 ^ k < 4294967296 ^ n := by rw [base_pow]; exact Nat.pow_lt_pow_right (by omega) h
theorem pow5_lt {k n : Nat} (h : 3 * k < 32 * n) : 5 ^ k < 4294967296 ^ n := by
  have h1 : (5 : Nat) ^ k ≤ 8 ^ k := Nat.pow_le_pow_left (by omega) k
  have h2 : (8 : Nat) ^ k = 2 ^ (3 * k) := by rw [Nat.pow_mul]
  have h3 := pow2_lt h
  omega

theorem lim_pow5 {k n : Nat} (h : 3 * k < 32 * n) : (lim (5 ^ k)).length ≤ n := lim_length_le _ _ (pow5_lt h)

theorem con_mul (n m : Nat) (h : n + m ≤ 70368744177664) : Sf.Con Oaag.prog 27 (.cons (nat n) (.cons (nat m) .nil)) (nat (n + m)) := by
  intro Γ w xs hw ha
  obtain ⟨v1, v2, rfl, h1, h2⟩ := args2 ha
  obtain ⟨a, cap, l, rfl, hl, hn⟩ := sl_of hw h1
  obtain ⟨a2, cap2, l2, rfl, hl2, hn2⟩ := sl_of hw h2
  refine (mul_any w a cap l _ rfl hl a2 cap2 l2 _ rfl hl2 (by omega)).mono ?_
  rintro e w' ⟨a', cap', rfl, hr, hb⟩
  obtain ⟨Γ2, q1, _, q3⟩ := nex_res (n := n + m) (nex_below hw hb) hr (Nat.le_trans (lim_length_le _ _ (pow_len (val_lt l hl.lt) (val_lt l2 hl2.lt))) (by omega))
  exact ⟨_, Γ2, rfl, q1.ex, Sf.val_of_one q3⟩

theorem con_add (n m : Nat) (h : n + m + 1 ≤ 70368744177664) : Sf.Con Oaag.prog 80 (.cons (nat n) (.cons (nat m) .nil)) (nat (max n m + 1)) := by
  intro Γ w xs hw ha
  obtain ⟨v1, v2, rfl, h1, h2⟩ := args2 ha
  obtain ⟨a, cap, l, rfl, hl, hn⟩ := sl_of hw h1
  obtain ⟨a2, cap2, l2, rfl, hl2, hn2⟩ := sl_of hw h2
  refine (add_any w a cap l _ rfl hl a2 cap2 l2 _ rfl hl2 (by omega) (by omega)).mono ?_
  rintro e w' ⟨a', cap', rfl, hr, hb⟩
  have b1 : val l < 4294967296 ^ max n m := Nat.lt_of_lt_of_le (val_lt l hl.lt) (pow_mono' (by omega))
  have b2 : val l2 < 4294967296 ^ max n m := Nat.lt_of_lt_of_le (val_lt l2 hl2.lt) (pow_mono' (by omega))
  have b3 : val l + val l2 < 4294967296 ^ (max n m + 1) := by rw [Nat.pow_succ]; omega
  obtain ⟨Γ2, q1, _, q3⟩ := nex_res (nex_below hw hb) hr (lim_length_le _ _ b3)
  exact ⟨_, Γ2, rfl, q1.ex, Sf.val_of_one q3⟩

theorem con_sub (n m : Nat) (h : n + m ≤ 70368744177664) : Sf.Con Oaag.prog 31 (.cons (nat n) (.cons (nat m) .nil)) (.tup (.cons (nat n) (.cons (.bool none) .nil))) := by
  intro Γ w xs hw ha
  obtain ⟨v1, v2, rfl, h1, h2⟩ := args2 ha
  obtain ⟨a, cap, l, rfl, hl, hn⟩ := sl_of hw h1
  obtain ⟨a2, cap2, l2, rfl, hl2, hn2⟩ := sl_of hw h2
  refine (sub_any w a cap l _ rfl hl a2 cap2 l2 _ rfl hl2 (by omega) (by omega)).mono ?_
  rintro e w' ⟨a', cap', rfl, hr, hb⟩
  have b1 : val l - val l2 < 4294967296 ^ n := Nat.lt_of_le_of_lt (Nat.sub_le _ _) (Nat.lt_of_lt_of_le (val_lt l hl.lt) (pow_mono' (by omega)))
  obtain ⟨Γ2, q1, _, q3⟩ := nex_res (nex_below hw hb) hr (lim_length_le _ _ b1)
  refine ⟨_, Γ2, rfl, q1.ex, _, rfl, rfl, fun j d hd => ?_⟩
  match j with
  | 0 => cases hd; exact ⟨_, rfl, q3⟩
  | 1 => cases hd; exact ⟨_, rfl, _, rfl, fun c hc => by cases hc⟩
  | j + 2 => cases hd

theorem con_fromU64 : Sf.Con Oaag.prog 25 (.cons (.int .u64 0 18446744073709551615) .nil) (nat 2) := by
  intro Γ w xs hw ha
  obtain ⟨v1, rfl, h1⟩ := args1 ha
  obtain ⟨z, rfl, z1, z2⟩ := h1
  obtain ⟨n, rfl⟩ := Int.eq_ofNat_of_zero_le z1
  refine (fromU64_any w n (by omega)).mono ?_
  rintro e w' ⟨a', cap', rfl, hr, hb⟩
  obtain ⟨Γ2, q1, _, q3⟩ := nex_res (n := 2) (nex_below hw hb) hr (lim_length_le _ _ (by omega))
  exact ⟨_, Γ2, rfl, q1.ex, Sf.val_of_one q3⟩

theorem con_succ (n : Nat) (h : n + 1 ≤ 70368744177664) : Sf.Con Oaag.prog 414 (.cons (nat n) .nil) (nat (n + 1)) := by
  intro Γ w xs hw ha
  obtain ⟨v1, rfl, h1⟩ := args1 ha
  obtain ⟨a, cap, l, rfl, hl, hn⟩ := sl_of hw h1
  refine (succ_any w a cap l _ rfl hl (by omega)).mono ?_
  rintro e w' ⟨a', cap', rfl, hr, hb⟩
  have b1 : val l < 4294967296 ^ n := Nat.lt_of_lt_of_le (val_lt l hl.lt) (pow_mono' (by omega))
  have b3 : val l + 1 < 4294967296 ^ (n + 1) := by rw [Nat.pow_succ]; omega
  obtain ⟨Γ2, q1, _, q3⟩ := nex_res (nex_below hw hb) hr (lim_length_le _ _ b3)
  exact ⟨_, Γ2, rfl, q1.ex, Sf.val_of_one q3⟩

theorem con_take (n : Nat) (h : n ≤ 70368744177664) : Sf.Con Oaag.prog 42 (.cons (nat n) .nil) (nat n) := by
  intro Γ w xs hw ha
  obtain ⟨v1, rfl, h1⟩ := args1 ha
  obtain ⟨a, cap, l, rfl, hl, hn⟩ := sl_of hw h1
  refine (take_any w a cap l hl (by omega)).mono ?_
  rintro e w' ⟨a', cap', rfl, hr, hb⟩
  obtain ⟨Γ2, q1, _, q3⟩ := nex_res (n := n) (nex_below hw hb) hr (Nat.le_trans (lim_length_le' l hl.lt) hn)
  exact ⟨_, Γ2, rfl, q1.ex, Sf.val_of_one q3⟩

theorem con_bitLen (n : Nat) (h : n ≤ 70368744177664) : Sf.Con Oaag.prog 61 (.cons (nat n) .nil) (.int .i64 0 ((32 * n : Nat) : Int)) := by
  intro Γ w xs hw ha
  obtain ⟨v1, rfl, h1⟩ := args1 ha
  obtain ⟨a, cap, l, rfl, hl, hn⟩ := sl_of hw h1
  refine (bitLen_any w a cap l _ rfl hl (by omega)).mono ?_
  rintro e w' ⟨rfl, rfl⟩
  refine ⟨_, Γ, rfl, Sf.Ex.refl hw, _, rfl, by omega, ?_⟩
  have : bl (val l) ≤ 32 * n := by
    refine bl_le _ _ ?_
    rw [← base_pow]
    exact Nat.lt_of_lt_of_le (val_lt l hl.lt) (pow_mono' (by omega))
  omega

theorem con_bit (n : Nat) (h : n ≤ 70368744177664) : Sf.Con Oaag.prog 407 (.cons (nat n) (.cons (.int .i64 (-9223372036854775808) 9223372036854775807) .nil)) (.bool none) := by
  intro Γ w xs hw ha
  obtain ⟨v1, v2, rfl, h1, h2⟩ := args2 ha
  obtain ⟨a, cap, l, rfl, hl, hn⟩ := sl_of hw h1
  obtain ⟨z, rfl, z1, z2⟩ := h2
  refine (bit_any w a cap l _ rfl hl (by omega) z ⟨z1, z2⟩).mono ?_
  rintro e w' ⟨rfl, rfl⟩
  exact ⟨_, Γ, rfl, Sf.Ex.refl hw, _, rfl, fun c hc => by cases hc⟩

theorem con_cmp (n m : Nat) (h : n + m ≤ 70368744177664) : Sf.Con Oaag.prog 66 (.cons (nat n) (.cons (nat m) .nil)) (.int .i8 (-1) 1) := by
  intro Γ w xs hw ha
  obtain ⟨v1, v2, rfl, h1, h2⟩ := args2 ha
  obtain ⟨a, cap, l, rfl, hl, hn⟩ := sl_of hw h1
  obtain ⟨a2, cap2, l2, rfl, hl2, hn2⟩ := sl_of hw h2
  refine (cmp_any w a cap l _ rfl hl (by omega) a2 cap2 l2 _ rfl hl2 (by omega)).mono ?_
  rintro e w' ⟨hb, rfl⟩
  refine ⟨_, Γ, rfl, (nex_below hw hb).ex, _, rfl, ?_, ?_⟩ <;> (unfold cmpI; repeat' split) <;> omega

theorem con_shl (n : Nat) (h : n ≤ 70368744170000) : Sf.Con Oaag.prog 63 (.cons (nat n) (.cons (.int .u16 0 65535) .nil)) (nat (n + 2048)) := by
  intro Γ w xs hw ha
  obtain ⟨v1, v2, rfl, h1, h2⟩ := args2 ha
  obtain ⟨a, cap, l, rfl, hl, hn⟩ := sl_of hw h1
  obtain ⟨z, rfl, z1, z2⟩ := h2
  obtain ⟨k, rfl⟩ := Int.eq_ofNat_of_zero_le z1
  refine (shl_any w a cap l _ rfl hl k (by omega) (by omega)).mono ?_
  rintro e w' ⟨a', cap', rfl, hr, hb⟩
  have b1 : val l < 4294967296 ^ n := Nat.lt_of_lt_of_le (val_lt l hl.lt) (pow_mono' (by omega))
  obtain ⟨Γ2, q1, _, q3⟩ := nex_res (n := n + 2048) (nex_below hw hb) hr (lim_length_le _ _ (pow_len b1 (pow2_lt (n := 2048) (by omega))))
  exact ⟨_, Γ2, rfl, q1.ex, Sf.val_of_one q3⟩

theorem con_pow5 : Sf.Con Oaag.prog 30 (.cons (.int .u16 0 65535) .nil) (nat 6144) := by
  intro Γ w xs hw ha
  obtain ⟨v1, rfl, h1⟩ := args1 ha
  obtain ⟨z, rfl, z1, z2⟩ := h1
  obtain ⟨k, rfl⟩ := Int.eq_ofNat_of_zero_le z1
  refine (pow5_any w k (by omega)).mono ?_
  rintro e w' ⟨a', cap', rfl, hr, hb⟩
  obtain ⟨Γ2, q1, _, q3⟩ := nex_res (n := 6144) (nex_below hw hb) hr (lim_pow5 (by omega))
  exact ⟨_, Γ2, rfl, q1.ex, Sf.val_of_one q3⟩

theorem con_sqrt (n : Nat) (h : n + 8 ≤ 70368744177664) : Sf.Con Oaag.prog 416 (.cons (nat n) .nil) (.tup (.cons (nat (n + 2)) (.cons (.bool none) .nil))) := by
  intro Γ w xs hw ha
  obtain ⟨v1, rfl, h1⟩ := args1 ha
  obtain ⟨a, cap, l, rfl, hl, hn⟩ := sl_of hw h1
  refine (sqrt_any w a cap l _ rfl hl (by omega)).mono ?_
  rintro e w' ⟨a', cap', rfl, hr, hb⟩
  have b0 : isq (val l) ≤ s0 (val l) := by
    unfold isq
    split
    · exact Nat.zero_le _
    · exact nwt_le _ _ _
  have b1 := lim_length_mono _ _ b0
  have b2 := s0_len (val l)
  have b3 := lim_length_le' l hl.lt
  obtain ⟨Γ2, q1, _, q3⟩ := nex_res (n := n + 2) (nex_below hw hb) hr (by omega)
  refine ⟨_, Γ2, rfl, q1.ex, _, rfl, rfl, fun j d hd => ?_⟩
  match j with
  | 0 => cases hd; exact ⟨_, rfl, q3⟩
  | 1 => cases hd; exact ⟨_, rfl, _, rfl, fun c hc => by cases hc⟩
  | j + 2 => cases hd

theorem con_divMod (n m : Nat) (h : n + m + 2 ≤ 70368744177664) : Sf.Con Oaag.prog 62 (.cons (nat n) (.cons (nat m) .nil)) (.tup (.cons (nat n) (.cons (nat m) (.cons (.bool none) .nil)))) := by
  intro Γ w xs hw ha
  obtain ⟨v1, v2, rfl, h1, h2⟩ := args2 ha
  obtain ⟨a, cap, l, rfl, hl, hn⟩ := sl_of hw h1
  obtain ⟨a2, cap2, l2, rfl, hl2, hn2⟩ := sl_of hw h2
  refine (divMod_any w a cap l _ rfl hl (by omega) a2 cap2 l2 _ rfl hl2 (by omega)).mono ?_
  rintro e w' ⟨a', cap', a2', cap2', rfl, hr, hr2, hb⟩
  have b1 : dq (val l) (val l2) < 4294967296 ^ n := by
    refine Nat.lt_of_le_of_lt ?_ (Nat.lt_of_lt_of_le (val_lt l hl.lt) (pow_mono' (by omega)))
    unfold dq
    split <;> first | exact Nat.zero_le _ | exact Nat.div_le_self _ _
  have b2 : dr (val l) (val l2) < 4294967296 ^ m := by
    have : dr (val l) (val l2) ≤ val l2 := by
      unfold dr
      split
      · exact Nat.zero_le _
      · exact Nat.le_of_lt (Nat.mod_lt _ (by omega))
    exact Nat.lt_of_le_of_lt this (Nat.lt_of_lt_of_le (val_lt l2 hl2.lt) (pow_mono' (by omega)))
  obtain ⟨Γ2, q1, _, q3⟩ := nex_res (nex_below hw hb) hr (lim_length_le _ _ b1)
  obtain ⟨Γ3, r1, r2, r3⟩ := nex_res q1 hr2 (lim_length_le _ _ b2)
  refine ⟨_, Γ3, rfl, r1.ex, _, rfl, rfl, fun j d hd => ?_⟩
  match j with
  | 0 => cases hd; exact ⟨_, rfl, q3.mono r2⟩
  | 1 => cases hd; exact ⟨_, rfl, r3⟩
  | 2 => cases hd; exact ⟨_, rfl, _, rfl, fun c hc => by cases hc⟩
  | j + 3 => cases hd
end Go.Proofs.YgcoaaGreat.SfW
