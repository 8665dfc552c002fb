/-
  Floats: conversions between the two kinds.
-/
import Derived.Test.YgcoaaGreatFlG
set_option linter.unusedVariables false
set_option maxRecDepth 20000
namespace Go.Proofs.YgcoaaGreat.NatW
open Go.RowKit

theorem cut_even_zero (s : Bool) (n : Nat) : Ieee.Toward.even.cut s n 0 = n := by
  unfold Ieee.Toward.cut
  simp [Nat.mod_one]
theorem cut_even_le (s : Bool) (n d : Nat) : Ieee.Toward.even.cut s n d ≤ n / 2 ^ d + 1 := by
  unfold Ieee.Toward.cut
  simp only [Nat.one_shiftLeft]
  by_cases h : d ≤ n.log2 + 2
  · rw [Nat.min_eq_left h]
    exact Nat.add_le_add (Nat.le_refl _) (Bool.toNat_le _)
  · rw [Nat.min_eq_right (by omega)]
    have h1 : n < 2 ^ (n.log2 + 1) := Nat.lt_log2_self
    have h2 : 2 ^ (n.log2 + 2) = 2 * 2 ^ (n.log2 + 1) := by rw [Nat.pow_succ, Nat.mul_comm]
    rw [Nat.div_eq_of_lt (show n < 2 ^ (n.log2 + 2) by omega)]
    exact Nat.add_le_add (Nat.zero_le _) (Bool.toNat_le _)

theorem kept_le (s : Bool) (F mag : Nat) (place last : Int) (hm : mag ≠ 0) (hl : place + mag.log2 - F ≤ last) :
    Ieee.Toward.even.cut s (mag <<< (place - last).toNat) (last - place).toNat ≤ 2 ^ (F + 1) := by
  have h1 : mag < 2 ^ (mag.log2 + 1) := Nat.lt_log2_self
  by_cases h : last ≤ place
  · have e : (last - place).toNat = 0 := by omega
    rw [e, cut_even_zero, Nat.shiftLeft_eq]
    calc mag * 2 ^ (place - last).toNat ≤ 2 ^ (mag.log2 + 1) * 2 ^ (place - last).toNat := Nat.mul_le_mul_right _ (by omega)
      _ = 2 ^ (mag.log2 + 1 + (place - last).toNat) := by rw [← Nat.pow_add]
      _ ≤ 2 ^ (F + 1) := Nat.pow_le_pow_right (by decide) (by omega)
  · have e : (place - last).toNat = 0 := by omega
    rw [e, Nat.shiftLeft_zero]
    refine Nat.le_trans (cut_even_le _ _ _) ?_
    obtain ⟨d, hd⟩ : ∃ d, (last - place).toNat = d := ⟨_, rfl⟩
    rw [hd]
    by_cases hdl : d ≤ mag.log2 + 1
    · have : mag / 2 ^ d < 2 ^ (mag.log2 + 1 - d) := by
        rw [Nat.div_lt_iff_lt_mul (Nat.two_pow_pos _), ← Nat.pow_add]
        rw [show mag.log2 + 1 - d + d = mag.log2 + 1 by omega]
        exact h1
      have h3 : 2 ^ (mag.log2 + 1 - d) ≤ 2 ^ (F + 1) := Nat.pow_le_pow_right (by decide) (by omega)
      omega
    · have h3 : 2 ^ (mag.log2 + 1) ≤ 2 ^ d := Nat.pow_le_pow_right (by decide) (by omega)
      rw [Nat.div_eq_of_lt (by omega)]
      have := Nat.two_pow_pos (F + 1)
      omega

/-- A word below infinity's. -/
theorem read_word {f : Ieee.Format} (neg : Bool) {rung : Nat} (h : rung < f.infRung) : (f.read (f.word neg rung)).isInfinity = false := by
  have hs := Ieee.Format.infRung_lt f
  have e : f.word neg rung % f.signWeight = rung := by
    unfold Ieee.Format.word
    split
    · rw [Nat.add_mod_left]; exact Nat.mod_eq_of_lt (by omega)
    · exact Nat.mod_eq_of_lt (by omega)
  unfold Ieee.Format.read
  simp only [e]
  split
  · rfl
  · first
      | (rw [if_pos h]; rfl)
      | rfl

theorem nearest_fin {f : Ieee.Format} (neg : Bool) (mag : Nat) (place : Int) (h0 : 0 < f.infRung) (h : mag ≠ 0 → (max (place + mag.log2 - f.fractionBits) f.leastPlace - f.leastPlace).toNat * f.binade + 2 ^ (f.fractionBits + 1) < f.infRung) :
    (f.read (f.nearest neg mag place)).isInfinity = false := by
  unfold Ieee.Format.nearest
  split
  · exact read_word neg h0
  · rename_i hm
    have h1 := h hm
    have h2 := kept_le neg f.fractionBits mag place (max (place + mag.log2 - f.fractionBits) f.leastPlace) hm (by omega)
    refine read_word neg ?_
    omega

/-- What a conversion gives. -/
def convC (dst : FloatKind) : Ieee.Datum → Nat
  | .nan _ _ => theNan dst
  | d => dst.encode d
theorem convC_lt (dst : FloatKind) (d : Ieee.Datum) : convC dst d < 2 ^ dst.format.width := by
  cases d with
  | nan s f => exact theNan_lt dst
  | infinity s => exact Ieee.Format.write_lt dst.format (.infinity s)
  | number s m i => exact Ieee.Format.write_lt dst.format (.number s m i)
theorem run_conv {P : Program} {src dst : FloatKind} (hne : src ≠ dst) (x : Nat) (hfin : ∀ s m e, src.decode x = .number s m e → (dst.decode (dst.encode (.number s m e))).isInfinity = false) (w : World) :
    ∃ r w', (Conv.floatToFloat src x dst).run P w = .ok (.float dst r) w' ∧ Like dst r (convC dst (src.decode x)) ∧ Same w w' := by
  unfold Conv.floatToFloat
  rw [if_neg hne]
  cases hd : src.decode x with
  | nan s f =>
    obtain ⟨r, e, h1, h2⟩ := run_draw (P := P) (nanQ_conv dst x) w
    exact ⟨r, w.drew, e, ⟨h2, Or.inr ⟨h1, theNan_nan dst⟩⟩, Same.drew w⟩
  | infinity s => exact ⟨_, w, rfl, Like.self (Ieee.Format.write_lt _ _), Same.refl _⟩
  | number s m i =>
    refine ⟨dst.encode (.number s m i), w, ?_, Like.self (Ieee.Format.write_lt _ _), Same.refl _⟩
    have := hfin s m i hd
    simp only [this, Bool.false_eq_true, if_false]
    rfl
theorem upon_conv {o : Oper} {a : Act} {next : Act → World → Prop} {Q : Exit → Act → World → Prop} {w : World} {ts td : TypeId} {src dst : FloatKind} {x : Nat} (hs : Oaag.prog.underlying ts = some (.float src)) (hd : Oaag.prog.underlying td = some (.float dst)) (hne : src ≠ dst)
    (hfin : ∀ s m e, src.decode x = .number s m e → (dst.decode (dst.encode (.number s m e))).isInfinity = false)
    (h : ∀ r w', Like dst r (convC dst (src.decode x)) → Same w w' → Oper.upon Oaag.prog o a next Q (.ok (.value (.float dst r)) w')) :
    Oper.upon Oaag.prog o a next Q ((Sem.run Oaag.prog (convert ts td (.float src x)) w).andThen fun a w' => .ok (.value a) w') := by
  obtain ⟨r, w', e, h1, h2⟩ := run_conv (P := Oaag.prog) hne x hfin w
  have e1 : Sem.run Oaag.prog (convert ts td (.float src x)) w = .ok (.float dst r) w' := by
    rw [← e]
    simp [convert, run_underlying hs, run_underlying hd]
  rw [e1]
  exact h r w' h1 h2
theorem upon_toInt {o : Oper} {a : Act} {next : Act → World → Prop} {Q : Exit → Act → World → Prop} {w : World} {ts td : TypeId} {src : FloatKind} {x : Nat} {n : Int} (hs : (Oaag.prog.underlying ts).isSome = true) (hd : Oaag.prog.underlying td = some (.int .i64))
    (hn : floatToIntVal src x .i64 = some n)
    (h : Oper.upon Oaag.prog o a next Q (.ok (.value (.int .i64 n)) w)) :
    Oper.upon Oaag.prog o a next Q ((Sem.run Oaag.prog (convert ts td (.float src x)) w).andThen fun a w' => .ok (.value a) w') := by
  rw [run_convert_float_int _ ts td src .i64 x n hs hd hn]
  exact h

theorem und210 : Oaag.prog.underlying 210 = some (.float .f64) := by kernel_rfl
theorem und213 : Oaag.prog.underlying 213 = some (.float .f32) := by kernel_rfl
theorem und2 : Oaag.prog.underlying 2 = some (.int .i64) := by kernel_rfl

/-- A float32's number fits a float64. -/
theorem widen_fin (x : Nat) (s : Bool) (m : Nat) (e : Int) (h : FloatKind.f32.decode x = .number s m e) : (FloatKind.f64.decode (FloatKind.f64.encode (.number s m e))).isInfinity = false := by
  have hb : m < 16777216 ∧ e ≤ 104 := by
    unfold FloatKind.decode Ieee.Format.read at h
    have e1 : Ieee.Format.binade FloatKind.f32.format = 8388608 := by decide
    have e2 : Ieee.Format.infRung FloatKind.f32.format = 2139095040 := by decide
    have e3 : Ieee.Format.leastPlace FloatKind.f32.format = -149 := by decide
    simp only [e1, e2, e3] at h
    generalize x % Ieee.Format.signWeight FloatKind.f32.format = r at h
    split at h
    · injection h with h1 h2 h3; omega
    · split at h
      · injection h with h1 h2 h3
        have := Nat.mod_lt r (show 0 < 8388608 by decide)
        omega
      · split at h <;> cases h
  refine nearest_fin s m e (by decide) fun hm => ?_
  have hl : m.log2 < 24 := (Nat.log2_lt hm).2 (by omega)
  have e1 : Ieee.Format.binade FloatKind.f64.format = 4503599627370496 := by decide
  have e2 : Ieee.Format.infRung FloatKind.f64.format = 9218868437227405312 := by decide
  have e3 : Ieee.Format.leastPlace FloatKind.f64.format = -1074 := by decide
  have e4 : FloatKind.f64.format.fractionBits = 52 := by decide
  rw [e1, e2, e3, e4]
  omega

/-- The numbers of a float64. -/
theorem f64_num {x : Nat} {s : Bool} {m : Nat} {e : Int} (h : FloatKind.f64.decode x = .number s m e) : m < 9007199254740992 ∧ -1074 ≤ e ∧ e ≤ 971 := by
  unfold FloatKind.decode Ieee.Format.read at h
  have e1 : Ieee.Format.binade FloatKind.f64.format = 4503599627370496 := by decide
  have e2 : Ieee.Format.infRung FloatKind.f64.format = 9218868437227405312 := by decide
  have e3 : Ieee.Format.leastPlace FloatKind.f64.format = -1074 := by decide
  simp only [e1, e2, e3] at h
  generalize x % Ieee.Format.signWeight FloatKind.f64.format = r at h
  split at h
  · injection h with h1 h2 h3; omega
  · split at h
    · injection h with h1 h2 h3
      have := Nat.mod_lt r (show 0 < 4503599627370496 by decide)
      omega
    · split at h <;> cases h
theorem r47 : FloatKind.f64.format.read 5183643170835005440 = .number false 9007198986305536 75 := by decide
theorem r47n : FloatKind.f64.format.read (Op.negFloat .f64 5183643170835005440) = .number true 9007198986305536 75 := by decide
theorem cut_even_div {s : Bool} {n d T : Nat} (hd : d ≤ n.log2 + 2) (h : 2 * n < (2 * T - 1) * 2 ^ d) (hT : 0 < T) : Ieee.Toward.even.cut s n d < T := by
  unfold Ieee.Toward.cut
  simp only [Nat.one_shiftLeft]
  rw [Nat.min_eq_left hd]
  have hp := Nat.two_pow_pos d
  generalize 2 ^ d = g at *
  have hq : n / g < T := by
    rw [Nat.div_lt_iff_lt_mul hp]
    have : (2 * T - 1) * g ≤ 2 * (T * g) := by rw [← Nat.mul_assoc]; exact Nat.mul_le_mul_right _ (by omega)
    omega
  by_cases hlast : n / g + 1 = T
  · have hdm := Nat.div_add_mod n g
    have hr : 2 * (n % g) < g := by
      have e : 2 * T - 1 = 2 * (n / g) + 1 := by omega
      rw [e, Nat.add_mul, Nat.one_mul] at h
      have : 2 * (n / g) * g = 2 * (g * (n / g)) := by rw [Nat.mul_assoc, Nat.mul_comm (n / g)]
      omega
    have e1 : decide (g < 2 * (n % g)) = false := by simp; omega
    have e2 : (g == 2 * (n % g)) = false := by simp; omega
    rw [e1, e2]
    simp
    omega
  · have := Bool.toNat_le (decide (g < 2 * (n % g)) || (g == 2 * (n % g)) && n / g % 2 == 1)
    exact Nat.lt_of_le_of_lt (Nat.add_le_add (Nat.le_refl _) (Bool.toNat_le _)) (by omega)
/-- A float64's number below 2^128 - 2^103 fits a float32. -/
theorem narrow_fin (x : Nat) (s : Bool) (m : Nat) (e : Int) (h : FloatKind.f64.decode x = .number s m e)
    (hb : m <<< (e - min e 75).toNat < 9007198986305536 <<< (75 - min e 75).toNat) : (FloatKind.f32.decode (FloatKind.f32.encode (.number s m e))).isInfinity = false := by
  obtain ⟨h1, h2, h3⟩ := f64_num h
  have e1 : Ieee.Format.binade FloatKind.f32.format = 8388608 := by decide
  have e2 : Ieee.Format.infRung FloatKind.f32.format = 2139095040 := by decide
  have e3 : Ieee.Format.leastPlace FloatKind.f32.format = -149 := by decide
  have e4 : FloatKind.f32.format.fractionBits = 23 := by decide
  by_cases hm : m = 0
  · subst hm
    exact nearest_fin s 0 e (by decide) (fun h => absurd rfl h)
  have hm1 : 2 ^ m.log2 ≤ m := Nat.log2_self_le hm
  have hm2 : m < 2 ^ (m.log2 + 1) := Nat.lt_log2_self
  have hl53 : m.log2 < 53 := (Nat.log2_lt hm).2 (by omega)
  rw [Nat.shiftLeft_eq, Nat.shiftLeft_eq] at hb
  have hL : e + m.log2 ≤ 127 := by
    by_cases hc : e + m.log2 ≤ 127
    · exact hc
    · exfalso
      by_cases he : 75 ≤ e
      · have a1 : (e - min e 75).toNat = (e - 75).toNat := by congr 1; omega
        have a2 : (75 - min e 75).toNat = 0 := by omega
        rw [a1, a2, Nat.pow_zero, Nat.mul_one] at hb
        have : 2 ^ m.log2 * 2 ^ (e - 75).toNat ≤ m * 2 ^ (e - 75).toNat := Nat.mul_le_mul_right _ hm1
        rw [← Nat.pow_add] at this
        have h53 : 2 ^ 53 ≤ 2 ^ (m.log2 + (e - 75).toNat) := Nat.pow_le_pow_right (by decide) (by omega)
        have : (2 : Nat) ^ 53 = 9007199254740992 := by decide
        omega
      · have a1 : (e - min e 75).toNat = 0 := by omega
        have a2 : (75 - min e 75).toNat = (75 - e).toNat := by congr 1; omega
        rw [a1, a2, Nat.pow_zero, Nat.mul_one] at hb
        have h53 : 2 ^ m.log2 ≥ 2 ^ (53 + (75 - e).toNat) := Nat.pow_le_pow_right (by decide) (by omega)
        rw [Nat.pow_add] at h53
        have h9 : 9007198986305536 * 2 ^ (75 - e).toNat ≤ 2 ^ 53 * 2 ^ (75 - e).toNat := Nat.mul_le_mul_right _ (by decide)
        omega
  by_cases hL2 : e + m.log2 ≤ 126
  · refine nearest_fin s m e (by decide) fun _ => ?_
    rw [e1, e2, e3, e4]
    omega
  -- the top binade
  have hLe : e + m.log2 = 127 := by omega
  show (FloatKind.f32.format.read (FloatKind.f32.format.nearest s m e)).isInfinity = false
  unfold Ieee.Format.nearest
  rw [if_neg hm]
  simp only [e1, e2, e3, e4]
  have elast : max (e + (m.log2 : Int) - ((23 : Nat) : Int)) (-149) = 104 := by omega
  rw [elast]
  refine read_word s ?_
  rw [e2]
  have hkept : Ieee.Toward.even.cut s (m <<< (e - 104).toNat) (104 - e).toNat < 16777216 := by
    by_cases he : e ≤ 104
    · have e5 : (e - 104).toNat = 0 := by omega
      rw [e5, Nat.shiftLeft_zero]
      refine cut_even_div (by omega) ?_ (by decide)
      have a1 : (e - min e 75).toNat = (e - 75).toNat := by congr 1; omega
      have a2 : (75 - min e 75).toNat = 0 := by omega
      rw [a1, a2, Nat.pow_zero, Nat.mul_one] at hb
      obtain ⟨p, hp⟩ : ∃ p, (e - 75).toNat = p := ⟨_, rfl⟩
      obtain ⟨q, hq⟩ : ∃ q, (104 - e).toNat = q := ⟨_, rfl⟩
      rw [hp] at hb
      rw [hq]
      have hpq : p + q = 29 := by omega
      have h29 : 2 ^ p * 2 ^ q = 536870912 := by rw [← Nat.pow_add, hpq]
      have hpp := Nat.two_pow_pos p
      have : 2 * m * 2 ^ p < (2 * 16777216 - 1) * 2 ^ q * 2 ^ p := by
        have a : (2 * 16777216 - 1) * 2 ^ q * 2 ^ p = (2 * 16777216 - 1) * 536870912 := by rw [Nat.mul_assoc, Nat.mul_comm (2 ^ q), h29]
        rw [a, Nat.mul_assoc]
        omega
      exact Nat.lt_of_mul_lt_mul_right this
    · have e5 : (104 - e).toNat = 0 := by omega
      rw [e5, cut_even_zero, Nat.shiftLeft_eq]
      calc m * 2 ^ (e - 104).toNat < 2 ^ (m.log2 + 1) * 2 ^ (e - 104).toNat := Nat.mul_lt_mul_of_pos_right hm2 (Nat.two_pow_pos _)
        _ = 2 ^ (m.log2 + 1 + (e - 104).toNat) := by rw [← Nat.pow_add]
        _ = 2 ^ 24 := by congr 1; omega
  have e6 : ((104 : Int) - -149).toNat = 253 := by decide
  rw [e6]
  omega
end Go.Proofs.YgcoaaGreat.NatW
