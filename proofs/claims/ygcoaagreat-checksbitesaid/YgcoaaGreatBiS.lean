/-
  Package law: biteSound.
-/
import Derived.Test.YgcoaaGreatSdB
import Derived.Test.YgcoaaGreatNatO
import Derived.Test.YgcoaaGreatLaxG
import Derived.Test.YgcoaaGreatZ51
set_option linter.unusedVariables false
set_option linter.unusedSimpArgs false
namespace Go.Proofs.YgcoaaGreat.NatW
attribute [local go_sem] Go.Instr.field Go.asAgg
open Go.RowKit
open Go.Proofs.YgcoaaGreat.Limbs Go.Proofs.YgcoaaGreat.Bits

theorem format_d (w : World) (b : Nat) (h : Dice b w) : Calls Oaag.prog 34 #[.pointer (some ⟨b, 0, none⟩)] w fun e w' => ∃ (E M : Nat), e = .returned (fmt E M) ∧ fok E M = true ∧ Dice b w' ∧ Below b w w' := by
  have hl := h.lt
  obtain ⟨x, t, hx⟩ := h
  refine (format_any w b x t hx).mono ?_
  rintro e w' ⟨E, M, x', rfl, hf, u, hb⟩
  have hd : Dice b (w.setCell ⟨b, 0, none⟩ (.int .u64 x')) := Dice.set ⟨x, t, hx⟩ x'
  exact ⟨E, M, rfl, hf, hd.kept hb hl, (below_store (Below.refl _ _) (Nat.le_refl _) _).trans (hb.mono (by omega))⟩

theorem TabZ.row {w : World} {g : Nat} (h : w.heap[g]? = some (.cells tz 51 (0, 0))) : TabZ g w :=
  ⟨fun i hi => by rw [cell_of_row _ _ _ _ _ _ h]; exact tz_u i hi, fun i hi => by rw [cell_of_row _ _ _ _ _ _ h]; exact tz_e i hi⟩
theorem snd_0 (E M : Nat) (hf : fok E M = true) : Snd E M 0 := by
  obtain ⟨g1, g2, g3, g4⟩ := fok_bd hf
  have := snd_zero E M false (by omega)
  simpa [sgn] using this

theorem xor1 (n : Nat) (h : n % 2 = 0) : n ^^^ 1 = n + 1 := by
  have h1 : (n ^^^ 1) / 2 = n / 2 := by rw [Nat.xor_div_two]; simp
  have h2 : (n ^^^ 1) % 2 = 1 := by rw [Nat.xor_mod_two_eq_one]; omega
  omega
theorem nan_even (E M : Nat) (hf : fok E M = true) : nanP E M % 2 = 0 := by
  obtain ⟨g1, g2, g3, g4⟩ := fok_bd hf
  unfold nanP infP
  obtain ⟨k, rfl⟩ : ∃ k, M = k + 2 := ⟨M - 2, by omega⟩
  have e1 : (2 ^ E - 1) * 2 ^ (k + 2) = 2 * ((2 ^ E - 1) * 2 ^ (k + 1)) := by rw [Nat.pow_succ 2 (k + 1)]; rw [← Nat.mul_assoc]; omega
  have e2 : 2 ^ (k + 2 - 1) = 2 * 2 ^ k := by rw [show k + 2 - 1 = k + 1 by omega, Nat.pow_succ]; omega
  omega
theorem nan1_cls (E M : Nat) (hf : fok E M = true) : cls E M (nanP E M + 1) = 4 := by
  obtain ⟨g1, g2, g3, g4⟩ := fok_bd hf
  obtain ⟨k, rfl⟩ : ∃ k, M = k + 2 := ⟨M - 2, by omega⟩
  have e2 : 2 ^ (k + 2) = 4 * 2 ^ k := by rw [Nat.pow_succ, Nat.pow_succ]; omega
  have e3 : 2 ^ (k + 2 - 1) = 2 * 2 ^ k := by rw [show k + 2 - 1 = k + 1 by omega, Nat.pow_succ]; omega
  have hp := Nat.pow_pos (n := k) (show 0 < 2 by decide)
  have hE := Nat.pow_pos (n := E) (show 0 < 2 by decide)
  have hd : (nanP E (k + 2) + 1) / 2 ^ (k + 2) = 2 ^ E - 1 := by
    unfold nanP infP
    rw [e3, Nat.add_assoc, Nat.add_comm, Nat.add_mul_div_right _ _ (by omega), Nat.div_eq_of_lt (by omega)]
    omega
  have hm : (nanP E (k + 2) + 1) % 2 ^ (k + 2) = 2 * 2 ^ k + 1 := by
    unfold nanP infP
    rw [e3, Nat.add_assoc, Nat.add_comm, Nat.add_mul_mod_self_right, Nat.mod_eq_of_lt (by omega)]
  unfold cls fE fM
  rw [hd, hm, Nat.mod_eq_of_lt (by omega), if_pos rfl, if_neg (by omega)]
theorem nan1_no (E M : Nat) (hf : fok E M = true) : ¬ Snd E M ((nanP E M + 1 : Nat) : Int) := by
  rintro ⟨n, hn, _, h2⟩
  have e : n = nanP E M + 1 := by omega
  rw [e] at h2
  have := h2 (nan1_cls E M hf)
  omega
theorem nan1_val (E M : Nat) (hf : fok E M = true) : bits .xor .u64 ((nanP E M : Nat) : Int) 1 = ((nanP E M + 1 : Nat) : Int) ∧ U64 ((nanP E M + 1 : Nat) : Int) := by
  have hu := Snd.u64 hf (snd_nan E M (by obtain ⟨g1, g2, g3, g4⟩ := fok_bd hf; omega))
  have he := nan_even E M hf
  have h2 := hu.2
  have hl : nanP E M < 18446744073709551616 := by omega
  refine ⟨?_, by omega, by omega⟩
  have := u64_xor_nat (nanP E M) 1 hl (by decide)
  rw [xor1 _ he] at this
  exact_mod_cast this
theorem or_top (E M : Nat) (hW : 1 + E + M < 64) (r : Int) (hr : Snd E M r) : ∃ X : Nat, bits .or .u64 r ((2 : Int) ^ (1 + E + M)) = (X : Int) ∧ U64 (X : Int) ∧ ¬ Snd E M (X : Int) := by
  obtain ⟨n, rfl, h1, _⟩ := hr
  rw [show E + M + 1 = 1 + E + M by omega] at h1
  have e64 := pow_le' (1 + E + M + 1) 64 (by omega)
  have e65 : (2 : Nat) ^ 64 = 18446744073709551616 := by decide
  have e2 : 2 ^ (1 + E + M + 1) = 2 * 2 ^ (1 + E + M) := by rw [Nat.pow_succ]; omega
  refine ⟨n + 2 ^ (1 + E + M), ?_, ⟨by omega, by omega⟩, ?_⟩
  · rw [pow_cast, u64_or_nat _ _ (by omega) (by omega), or_pow _ _ h1]
  · rintro ⟨m, hm, h3, _⟩
    rw [show E + M + 1 = 1 + E + M by omega] at h3
    omega
theorem Mach.regs {E M mb n : Nat} {w : World} (h : Mach E M mb n w) : ∃ r : Nat → Int, (∀ i, i < 8 → w.cell? ⟨mb, i, none⟩ = some (.int .u64 (r i))) ∧ ∀ i, i < 8 → Snd E M (r i) := by
  refine ⟨fun i => if hi : i < 8 then Classical.choose (h.reg i hi) else 0, fun i hi => ?_, fun i hi => ?_⟩
  · simp only [hi, dif_pos]; exact (Classical.choose_spec (h.reg i hi)).1
  · simp only [hi, dif_pos]; exact (Classical.choose_spec (h.reg i hi)).2

/-- What holds while biteSound turns: the dice, the table of zeros, the format's box, the machine. -/
structure BsI (w0 : World) (db tb fb mb E M n : Nat) (w : World) : Prop where
  dice : Dice db w
  tab : TabZ tb w
  box : w.heap[fb]? = some (.cells #[.int .u8 E, .int .u8 M] 23 (0, 0))
  mach : Mach E M mb n w
  bel : Below db w0 w
theorem BsI.later {w0 : World} {db tb fb mb E M n : Nat} {w w' : World} (h : BsI w0 db tb fb mb E M n w) (hb : Below w.heap.size w w') (hdb : db < mb) : BsI w0 db tb fb mb E M n w' :=
  ⟨h.dice.kept hb h.dice.lt, h.tab.kept hb h.tab.lt, (hb.block fb (Array.getElem?_eq_some_iff.1 h.box).1).trans h.box, h.mach.later hb, h.bel.trans (hb.mono (by have := h.dice.lt; omega))⟩
theorem Mach.roll {E M mb n db : Nat} {w w' : World} (h : Mach E M mb n w) (hr : Rolled db w w') (hdb : db < mb) : Mach E M mb n w' := by
  obtain ⟨x, rfl⟩ := hr
  refine ⟨h.own.set _ _, fun i hi => ?_, ?_⟩
  · obtain ⟨r, h1, h2⟩ := h.reg i hi
    exact ⟨r, by rw [cell_set _ _ _ _ _ _ _ h1, if_neg (by omega)], h2⟩
  · obtain ⟨v, h1, h2⟩ := h.out
    exact ⟨v, by rw [cell_set _ _ _ _ _ _ _ h1, if_neg (by omega)], h2.other _ (by omega)⟩
theorem TabZ.roll {tb db : Nat} {w w' : World} (h : TabZ tb w) (hr : Rolled db w w') (hne : db ≠ tb) : TabZ tb w' := by
  obtain ⟨x, rfl⟩ := hr
  exact ⟨fun i hi => by rw [cell_set _ _ _ _ _ _ _ (h.1 i hi), if_neg (by omega)], fun i hi => by rw [cell_set _ _ _ _ _ _ _ (h.2 i hi), if_neg (by omega)]⟩
theorem BsI.roll {w0 : World} {db tb fb mb E M n : Nat} {w w' : World} (h : BsI w0 db tb fb mb E M n w) (hr : Rolled db w w') (h1 : db < tb) (h2 : db < fb) (h3 : db < mb) : BsI w0 db tb fb mb E M n w' :=
  ⟨hr.dice h.dice, h.tab.roll hr (by omega), by
    obtain ⟨x, rfl⟩ := hr
    rw [heap_set, if_neg (by omega)]; exact h.box, h.mach.roll hr h3, h.bel.trans hr.below⟩

theorem BsI.step {w0 : World} {db tb fb mb E M n n' : Nat} {w w' : World} (h : BsI w0 db tb fb mb E M n w) (hm : Mach E M mb n' w') (hb : Below mb w w') (h1 : db < mb) (h2 : tb < mb) (h3 : fb < mb) : BsI w0 db tb fb mb E M n' w' :=
  ⟨h.dice.kept hb h1, h.tab.kept hb h2, (hb.block fb h3).trans h.box, hm, h.bel.trans (hb.mono (by omega))⟩
theorem mod256 (r : Int) : 0 ≤ r % 256 ∧ r % 256 ≤ 255 := by omega

/-- The same, and the operation's box. -/
def BsJ (w0 : World) (db tb E M n ob : Nat) (cs : Array Value) (w : World) : Prop := BsI w0 db tb (tb + 1) (tb + 2) E M n w ∧ w.heap[ob]? = some (.cells cs 91 (0, 0))
theorem BsJ.later {w0 : World} {db tb E M n ob : Nat} {cs : Array Value} (hdb : db < tb + 2) (w w' : World) (h : BsJ w0 db tb E M n ob cs w) (hb : Below w.heap.size w w') : BsJ w0 db tb E M n ob cs w' :=
  ⟨h.1.later hb hdb, (hb.block ob (Array.getElem?_eq_some_iff.1 h.2).1).trans h.2⟩

def BsR (w : World) (db tb E M : Nat) (t8 : Value) (wr : World) : Prop := ∃ k n : Nat, t8 = .int .i64 k ∧ k < 31 ∧ n + k ≤ 31 ∧ BsI w db tb (tb + 1) (tb + 2) E M n wr

set_option maxRecDepth 20000 in
set_option maxHeartbeats 4000000 in
theorem biteSound_any (w : World) (db : Nat) (h : Dice db w) (hurt : Int) : Calls Oaag.prog 17 #[.pointer (some ⟨db, 0, none⟩), .int .u8 hurt] w fun e w' => e = .returned (.bool true) ∧ Below db w w' := by
  have HD := hide h
  have hlt := h.lt
  clear h
  go_enter Oaag.func17, Oaag.ntmps17
  go_wp2_with fail
  refine (format_d w db (unhide HD)).mono ?_
  rintro e w1 ⟨E, M, rfl, hf, d1, b1⟩
  have z1 := b1.size
  have D1 := hide d1
  have B1 := hide b1
  clear HD d1 b1
  go_wp2_with (refine wpList_newc 51 _ z51 rfl rfl ?_)
  ((first | with_reducible refine Go.Proofs.YgcoaaGreat.NatW.gen_calls ?_ | with_reducible refine Go.Proofs.YgcoaaGreat.NatW.gen_wp ?_ | with_reducible refine Go.Proofs.YgcoaaGreat.NatW.gen_list ?_ | with_reducible refine Go.Proofs.YgcoaaGreat.NatW.gen_body ?_); intro W hW)
  obtain ⟨tb, htb⟩ : ∃ tb, tb = w1.heap.size := ⟨_, rfl⟩
  have hI : BsI w db tb (tb + 1) (tb + 2) E M 0 W := by
    obtain ⟨q1, q2, q3⟩ := rows3 w1 (.cells tz 51) (.cells #[.int .u8 E, .int .u8 M] 23) (.cells #[.int .u64 0, .int .u64 0, .int .u64 0, .int .u64 0, .int .u64 0, .int .u64 0, .int .u64 0, .int .u64 0, .slice none 0 0] 89)
    have hb1 : Below w1.heap.size w1 W := by
      rw [← hW]
      exact (((Below.refl _ w1).alloc (Nat.le_refl _) _).alloc (by simp) _).alloc (by simp; omega) _
    rw [hW, ← htb] at q1 q2 q3
    refine ⟨(unhide D1).kept hb1 (unhide D1).lt, TabZ.row q1, q2, ?_, (unhide B1).trans (hb1.mono (by omega))⟩
    · have r9 := q3
      refine ⟨⟨(Array.getElem?_eq_some_iff.1 r9).1, fun i => frozen_of_row _ _ _ _ _ r9⟩, fun i hi => ⟨0, ?_, snd_0 E M hf⟩, ⟨_, by rw [cell_of_row _ _ _ _ _ _ r9]; rfl, Own.nil _ _ _ _⟩⟩
      rw [cell_of_row _ _ _ _ _ _ r9]
      rcases (show i = 0 ∨ i = 1 ∨ i = 2 ∨ i = 3 ∨ i = 4 ∨ i = 5 ∨ i = 6 ∨ i = 7 by omega) with rfl | rfl | rfl | rfl | rfl | rfl | rfl | rfl <;> rfl
  have hdt : db < tb := by rw [htb]; exact (unhide D1).lt
  rw [← htb]
  clear hW D1 B1 htb z1
  have HI := hide hI
  clear hI
  refine (below_d W db 30 (unhide HI).dice (by omega) (by omega)).mono ?_
  rintro e w2 ⟨k, rfl, hk, d2, R2⟩
  have hI2 := (unhide HI).roll R2 hdt (by omega) (by omega)
  clear HI d2 R2
  go_wp2_with fail
  go_loopw [8] (fun t8 wr => BsR w db tb E M t8 wr) (fun t8 _ => (intOf t8).toNat)
  case atStart => exact ⟨k, 0, rfl, by omega, by omega, hI2⟩
  case round =>
    clear hI2 hk
    obtain ⟨k, n, rfl, hk, hn, hI⟩ := hrel
    by_cases hk0 : k = 0
    · subst hk0
      obtain ⟨r, hrc, hrs⟩ := hI.mach.regs
      have a0 := cell_of_row wr (tb + 1) 0 _ _ _ hI.box
      have a1 := cell_of_row wr (tb + 1) 1 _ _ _ hI.box
      simp only [List.getElem?_toArray, List.getElem?_cons_zero, List.getElem?_cons_succ] at a0 a1
      have HI0 := hide hI
      have HRC := hide hrc
      have HRS := hide hrs
      clear hI hrc hrs
      go_wp2_with fail
      refine sound_any E M hf (tb + 2) r (fun i hi => (unhide HRS i hi).u64 hf) wr (unhide HRC) _ ?_
      intro b w2 hb hbel
      have hbt : b = true := hb.2 (unhide HRS)
      subst hbt
      have HI1 := hide ((unhide HI0).later hbel (by omega))
      clear hb hbel HI0 HRC HRS a0 a1
      go_wp2_with fail
      (repeat (first | (rewrite [Go.Proofs.YgcoaaGreat.NatW.frz_ite]; generalize Go.Proofs.YgcoaaGreat.NatW.frzI _ = x__) | (rewrite [Go.Proofs.YgcoaaGreat.NatW.frz_dec]; generalize Go.Proofs.YgcoaaGreat.NatW.frzB _ = x__) | (rewrite [Go.Proofs.YgcoaaGreat.NatW.frz_beq]; generalize Go.Proofs.YgcoaaGreat.NatW.frzB _ = x__) | (rewrite [Go.Proofs.YgcoaaGreat.NatW.frz_not]; generalize Go.Proofs.YgcoaaGreat.NatW.frzB _ = x__) | (rewrite [Go.Proofs.YgcoaaGreat.NatW.frz_and]; generalize Go.Proofs.YgcoaaGreat.NatW.frzB _ = x__) | (rewrite [Go.Proofs.YgcoaaGreat.NatW.frz_or]; generalize Go.Proofs.YgcoaaGreat.NatW.frzB _ = x__) | (rewrite [show ∀ (a b : Int), Value.bool (a != b) = Value.bool (Go.Proofs.YgcoaaGreat.NatW.frzB (a != b)) from fun _ _ => rfl]; generalize Go.Proofs.YgcoaaGreat.NatW.frzB _ = x__)))
      have hzW : db ≤ w2.heap.size := by have := (unhide HI1).dice.lt; omega
      obtain ⟨wt, hWt, hst, hkt, hbt⟩ := trunc2 w2 db hzW
      have hne2 : Nonempty (Later wt) := ⟨⟨w2, hWt⟩⟩
      clear hkt hbt
      obtain ⟨g1, g2, g3, g4⟩ := fok_bd hf
      have hw1 : IntKind.u8.wrap (1 + (E : Int)) = 1 + (E : Int) := by rw [IntKind.wrap_u8]; omega
      have hw2 : IntKind.u8.wrap (1 + (E : Int) + (M : Int)) = 1 + (E : Int) + (M : Int) := by rw [IntKind.wrap_u8]; omega
      refine Go.LaxS.region_gen (⟨w2, hWt⟩ : Later wt) 8 4 [(1, fun v => v = .int .u8 E), (4, fun v => v = .int .u8 M), (7, fun v => ∃ r : Nat, v = .int .i64 (r : Int) ∧ r < 8)] [] [7]
        (BsI w db tb (tb + 1) (tb + 2) E M n) (by kernel_rfl) (by kernel_rfl) (by kernel_rfl) (by kernel_rfl) (unhide HI1) (fun w w' h hb => BsI.later h hb (by omega)) (fun _ h => by cases h) (List.forall_mem_cons.2 ⟨⟨_, rfl⟩, List.forall_mem_cons.2 ⟨⟨_, rfl⟩, List.forall_mem_cons.2 ⟨⟨_, 0, rfl, by decide⟩, fun _ h => by cases h⟩⟩⟩) ?_
      (refine Go.LaxS.walk_det rfl rfl rfl rfl ?_; go_big_quiet_want; go_big_quiet_op; go_big_quiet_on; refine wpQuiet_nil ?_)
      refine Go.LaxS.gen_call rfl rfl rfl (fun w w' h hb => BsI.later h hb (by omega)) ?_ (fun y K hI hG hK => by
        have a0 := cell_of_row y.at_ (tb + 1) 0 _ _ _ hI.box
        have a1 := cell_of_row y.at_ (tb + 1) 1 _ _ _ hI.box
        simp only [List.getElem?_toArray, List.getElem?_cons_zero, List.getElem?_cons_succ] at a0 a1
        have HK := hide hK
        clear hK
        go_wp2_with fail
        exact unhide HK _ _ rfl trivial (Below.refl _ _))
      rintro v rfl
      ((try dsimp only); go_big_quiet_want; go_big_quiet_op; go_big_quiet_on; refine wpQuiet_nil ?_)
      (refine Go.LaxS.walk_det rfl rfl rfl rfl ?_; go_big_quiet_want; go_big_quiet_op; go_big_quiet_on; refine wpQuiet_nil ?_)
      (refine Go.LaxS.walk_det rfl rfl rfl rfl ?_; go_big_quiet_want; go_big_quiet_op; go_big_quiet_on; refine wpQuiet_nil ?_)
      refine Go.LaxS.gen_call rfl rfl rfl (fun w w' h hb => BsI.later h hb (by omega)) ?_ (fun y K hI hG hK => by
        have a0 := cell_of_row y.at_ (tb + 1) 0 _ _ _ hI.box
        have a1 := cell_of_row y.at_ (tb + 1) 1 _ _ _ hI.box
        simp only [List.getElem?_toArray, List.getElem?_cons_zero, List.getElem?_cons_succ] at a0 a1
        have HK := hide hK
        clear hK
        go_wp2_with fail
        exact unhide HK _ _ rfl trivial (Below.refl _ _))
      rintro v rfl
      ((try dsimp only); go_big_quiet_want; go_big_quiet_op; go_big_quiet_on; refine wpQuiet_nil ?_)
      (refine Go.LaxS.walk_det rfl rfl rfl rfl ?_; go_big_quiet_want; go_big_quiet_op; go_big_quiet_on; refine wpQuiet_nil ?_)
      (refine Go.LaxS.walk_det rfl rfl rfl rfl ?_; go_big_quiet_want; go_big_quiet_op; go_big_quiet_on; refine wpQuiet_nil ?_)
      refine Go.LaxS.gen_sil rfl rfl rfl ?_ (fun y K hI hG hK => by
        go_wp2_with fail
        refine (below_d y.at_ db 8 hI.dice (by omega) (by omega)).mono ?_
        rintro e w' ⟨r, rfl, hr, -, R⟩
        have hh := Go.Proofs.YgcoaaGreat.NatW.hide (hK _ w' ⟨r, rfl, by omega⟩ trivial (y.ok.trans (by rw [hst]; exact R.below)) (hI.roll R hdt (by omega) (by omega)) (fun i u _ _ => trivial))
        clear hK hr
        go_wp2_with fail
        exact Eq.mp (by kernel_rfl) (Go.Proofs.YgcoaaGreat.NatW.unhide hh))
      rintro v ⟨i, rfl, hi8⟩
      ((try dsimp only); go_big_quiet_want; go_big_quiet_op; go_big_quiet_on; refine wpQuiet_nil ?_)
      refine Go.LaxS.gen_end ?_
      intro y hI9 hG9
      have HI2 := hide hI9
      clear hI9 hG9 HI1 hw1 hw2
      obtain ⟨w3, hw3⟩ : ∃ w3, y.at_ = w3 := ⟨_, rfl⟩
      rw [hw3] at HI2 ⊢
      clear hw3 hzW hst hne2 hWt
      clear y
      clear wt
      have a0 := cell_of_row w3 (tb + 1) 0 _ _ _ (unhide HI2).box
      have a1 := cell_of_row w3 (tb + 1) 1 _ _ _ (unhide HI2).box
      simp only [List.getElem?_toArray, List.getElem?_cons_zero, List.getElem?_cons_succ] at a0 a1
      have f0 := frozen_of_row w3 (tb + 1) 0 _ _ (unhide HI2).box
      have f1 := frozen_of_row w3 (tb + 1) 1 _ _ (unhide HI2).box
      have HB3 := hide (unhide HI2).bel
      by_cases e0 : hurt = 0
      · subst e0
        go_wp2_with fail
        refine sound_nil E M w3 _ ?_
        rintro v w4 rfl hb4
        go_wp2_with fail
        go_ret
        exact ⟨rfl, (unhide HB3).trans (hb4.mono (by have := (unhide HI2).dice.lt; omega))⟩
      by_cases e1 : hurt = 1
      · subst e1
        go_wp2_with fail
        refine sound_bad 1 1 (by decide) (tb + 2) _ _ ?_
        rintro v w4 rfl hb4
        go_wp2_with fail
        go_ret
        refine ⟨rfl, ?_⟩
        refine Below.trans (below_store (below_store (unhide HB3) (by omega) _) (by omega) _) (hb4.mono ?_)
        have := (unhide HI2).dice.lt
        simp only [World.size_setCell]
        omega
      obtain ⟨r2, hrc, hrs⟩ := (unhide HI2).mach.regs
      have HRC := hide hrc
      have HRS := hide hrs
      have HMI := hide (unhide HI2).mach.own
      have hlt3 := (unhide HI2).dice.lt
      clear hrc hrs
      by_cases e2 : hurt = 2
      · subst e2
        by_cases hW : 64 ≤ 1 + (E : Int) + (M : Int)
        · go_wp2_with fail
          go_ret
          exact ⟨rfl, unhide HB3⟩
        · obtain ⟨X, hX, uX, nX⟩ := or_top E M (by omega) (r2 i) (unhide HRS i hi8)
          have UX := hide uX
          have NX := hide nX
          clear uX nX
          have hmm := (unhide HMI).1
          go_wp2_with fail
          obtain ⟨wb, x0, hx, hsame⟩ : ∃ (wb : World) (x0 : Later wb), w3 = x0.at_ ∧ ∀ x : Later wb, Below w3.heap.size w3 x.at_ := ⟨w3, ⟨w3, Below.refl _ _⟩, rfl, fun x => x.ok⟩
          have hne3 : Nonempty (Later wb) := ⟨x0⟩
          have hbl : tb + 1 < w3.heap.size := World.block_lt_of_cell? _ _ a0
          have hml := (unhide HMI).1
          have A0 : ∀ x : Later wb, x.at_.cell? ⟨tb + 1, 0, none⟩ = some (.int .u8 E) := fun x => ((hsame x).cell (p := ⟨tb + 1, 0, none⟩) hbl).trans a0
          have A1 : ∀ x : Later wb, x.at_.cell? ⟨tb + 1, 1, none⟩ = some (.int .u8 M) := fun x => ((hsame x).cell (p := ⟨tb + 1, 1, none⟩) hbl).trans a1
          have KR : ∀ x : Later wb, x.at_.cell? ⟨tb + 2, i, none⟩ = some (.int .u64 (r2 i)) := fun x => ((hsame x).cell (p := ⟨tb + 2, i, none⟩) hml).trans (unhide HRC i hi8)
          have FR : ∀ x : Later wb, x.at_.frozen? ⟨tb + 2, i, none⟩ = false := fun x => ((hsame x).frozen (p := ⟨tb + 2, i, none⟩) hml).trans ((unhide HMI).2 i)
          rw [hx]
          have HX3 := hide hx
          have HRI := hide (unhide HRS i hi8)
          obtain ⟨ri, hri⟩ : ∃ ri, ri = r2 i := ⟨_, rfl⟩
          rw [← hri] at KR HRI
          have HQ := hide hri
          have HSM := hide hsame
          clear hx a0 a1 f0 f1 hsame hri
          rw [← unhide HQ] at hX
          (repeat (first | (rewrite [Go.Proofs.YgcoaaGreat.NatW.frz_ite]; generalize Go.Proofs.YgcoaaGreat.NatW.frzI _ = x__) | (rewrite [Go.Proofs.YgcoaaGreat.NatW.frz_dec]; generalize Go.Proofs.YgcoaaGreat.NatW.frzB _ = x__) | (rewrite [Go.Proofs.YgcoaaGreat.NatW.frz_beq]; generalize Go.Proofs.YgcoaaGreat.NatW.frzB _ = x__) | (rewrite [Go.Proofs.YgcoaaGreat.NatW.frz_not]; generalize Go.Proofs.YgcoaaGreat.NatW.frzB _ = x__) | (rewrite [Go.Proofs.YgcoaaGreat.NatW.frz_and]; generalize Go.Proofs.YgcoaaGreat.NatW.frzB _ = x__) | (rewrite [Go.Proofs.YgcoaaGreat.NatW.frz_or]; generalize Go.Proofs.YgcoaaGreat.NatW.frzB _ = x__) | (rewrite [show ∀ (a b : Int), Value.bool (a != b) = Value.bool (Go.Proofs.YgcoaaGreat.NatW.frzB (a != b)) from fun _ _ => rfl]; generalize Go.Proofs.YgcoaaGreat.NatW.frzB _ = x__)))
          (refine region_then _ 11 4 (by kernel_rfl) (by kernel_rfl) (by kernel_rfl) ?_; simp only [List.take, List.drop]; (repeat (first | go_big_quiet_skip | (go_big_quiet_want; go_big_quiet_op; go_big_quiet_on))); refine wpQuiet_nil ?_)
          intro y2
          go_wp2_with fail
          have hX2 : bits .or .u64 ri (IntKind.u64.wrap ((2 : Int) ^ (1 + E + M))) = (X : Int) := by
            rw [wrap_pow _ (by omega), ← pow_cast]; exact hX
          rw [hX2]
          refine sound_any E M hf (tb + 2) (fun j => if j = i then (X : Int) else r2 j) (fun j hj => ?_) _ (fun j hj => ?_) _ ?_
          · show U64 (if j = i then (X : Int) else r2 j)
            split
            · exact unhide UX
            · exact (unhide HRS j hj).u64 hf
          · have hcj := ((unhide HSM y2).cell (p := ⟨tb + 2, j, none⟩) hml).trans (unhide HRC j hj)
            rw [cell_set _ _ _ _ _ _ _ hcj]
            by_cases hji : j = i
            · subst hji
              simp
            · have hij : ¬ i = j := fun h => hji h.symm
              simp [hji, hij]
          intro b w4 hb hb4
          have hbf : b = false := by
            cases b with
            | false => rfl
            | true =>
              have := hb.1 rfl i hi8
              simp only [if_true] at this
              exact absurd this (unhide NX)
          subst hbf
          clear hb
          go_wp2_with fail
          go_ret
          refine ⟨rfl, ?_⟩
          refine Below.trans (below_store ((unhide HB3).trans ((unhide HSM y2).mono (by omega))) (by omega) _) (hb4.mono ?_)
          have := (unhide HSM y2).size
          simp only [World.size_setCell]
          omega
      · obtain ⟨hX, uX⟩ := nan1_val E M hf
        have nX := nan1_no E M hf
        obtain ⟨X, hXX⟩ : ∃ X, X = nanP E M + 1 := ⟨_, rfl⟩
        rw [← hXX] at hX uX nX
        have UX := hide uX
        have NX := hide nX
        clear uX nX hXX
        go_wp2_with fail
        obtain ⟨wb, x0, hx, hsame⟩ : ∃ (wb : World) (x0 : Later wb), w3 = x0.at_ ∧ ∀ x : Later wb, Below w3.heap.size w3 x.at_ := ⟨w3, ⟨w3, Below.refl _ _⟩, rfl, fun x => x.ok⟩
        have hne3 : Nonempty (Later wb) := ⟨x0⟩
        have hbl : tb + 1 < w3.heap.size := World.block_lt_of_cell? _ _ a0
        have hml := (unhide HMI).1
        have A0 : ∀ x : Later wb, x.at_.cell? ⟨tb + 1, 0, none⟩ = some (.int .u8 E) := fun x => ((hsame x).cell (p := ⟨tb + 1, 0, none⟩) hbl).trans a0
        have A1 : ∀ x : Later wb, x.at_.cell? ⟨tb + 1, 1, none⟩ = some (.int .u8 M) := fun x => ((hsame x).cell (p := ⟨tb + 1, 1, none⟩) hbl).trans a1
        have KR : ∀ x : Later wb, x.at_.cell? ⟨tb + 2, i, none⟩ = some (.int .u64 (r2 i)) := fun x => ((hsame x).cell (p := ⟨tb + 2, i, none⟩) hml).trans (unhide HRC i hi8)
        have FR : ∀ x : Later wb, x.at_.frozen? ⟨tb + 2, i, none⟩ = false := fun x => ((hsame x).frozen (p := ⟨tb + 2, i, none⟩) hml).trans ((unhide HMI).2 i)
        rw [hx]
        have HX3 := hide hx
        have HRI := hide (unhide HRS i hi8)
        obtain ⟨ri, hri⟩ : ∃ ri, ri = r2 i := ⟨_, rfl⟩
        rw [← hri] at KR HRI
        have HQ := hide hri
        have HSM := hide hsame
        clear hx a0 a1 f0 f1 hsame hri
        (repeat (first | (rewrite [Go.Proofs.YgcoaaGreat.NatW.frz_ite]; generalize Go.Proofs.YgcoaaGreat.NatW.frzI _ = x__) | (rewrite [Go.Proofs.YgcoaaGreat.NatW.frz_dec]; generalize Go.Proofs.YgcoaaGreat.NatW.frzB _ = x__) | (rewrite [Go.Proofs.YgcoaaGreat.NatW.frz_beq]; generalize Go.Proofs.YgcoaaGreat.NatW.frzB _ = x__) | (rewrite [Go.Proofs.YgcoaaGreat.NatW.frz_not]; generalize Go.Proofs.YgcoaaGreat.NatW.frzB _ = x__) | (rewrite [Go.Proofs.YgcoaaGreat.NatW.frz_and]; generalize Go.Proofs.YgcoaaGreat.NatW.frzB _ = x__) | (rewrite [Go.Proofs.YgcoaaGreat.NatW.frz_or]; generalize Go.Proofs.YgcoaaGreat.NatW.frzB _ = x__) | (rewrite [show ∀ (a b : Int), Value.bool (a != b) = Value.bool (Go.Proofs.YgcoaaGreat.NatW.frzB (a != b)) from fun _ _ => rfl]; generalize Go.Proofs.YgcoaaGreat.NatW.frzB _ = x__)))
        refine Go.Lax.region_calls _ 7 4 [(3, fun v => v = .int .u64 ((nanP E M : Nat) : Int)), (5, fun v => v = .pointer (some ⟨tb + 1 + 1, 0, none⟩))] (by kernel_rfl) (by kernel_rfl) (by kernel_rfl) (List.forall_mem_cons.2 ⟨⟨_, rfl⟩, List.forall_mem_cons.2 ⟨⟨_, rfl⟩, fun _ h => by cases h⟩⟩) ?_
        iterate 3 (refine Go.Lax.walk_det rfl rfl rfl ?_; go_big_quiet_want; go_big_quiet_op; go_big_quiet_on; refine wpQuiet_nil ?_)
        refine Go.Lax.call_at rfl ?_ (fun y__ K__ hK__ => by (go_wp2_with fail; refine (nan_ret E M hf) _ _ ?_; intro v__ w__ hv__ hb__; have hh__ := Go.Proofs.YgcoaaGreat.NatW.hide (hK__ v__ w__ hv__ hb__); clear hK__ hv__; go_wp2_with fail; exact Eq.mp (by kernel_rfl) (Go.Proofs.YgcoaaGreat.NatW.unhide hh__)))
        rintro v rfl
        ((try dsimp only); go_big_quiet_want; go_big_quiet_op; go_big_quiet_on; refine wpQuiet_nil ?_)
        (refine Go.Lax.walk_det rfl rfl rfl ?_; go_big_quiet_want; go_big_quiet_op; go_big_quiet_on; refine wpQuiet_nil ?_)
        refine Go.Lax.call_at rfl ?_ (fun y__ K__ hK__ => by (have HK__ := Go.Proofs.YgcoaaGreat.NatW.hide hK__; clear hK__; go_wp2_with fail; exact Go.Proofs.YgcoaaGreat.NatW.unhide HK__ _ _ rfl (Below.refl _ _)))
        rintro v rfl
        ((try dsimp only); go_big_quiet_want; go_big_quiet_op; go_big_quiet_on; refine wpQuiet_nil ?_)
        (refine Go.Lax.walk_det rfl rfl rfl ?_; go_big_quiet_want; go_big_quiet_op; go_big_quiet_on; refine wpQuiet_nil ?_)
        refine Go.Lax.end_at ?_
        intro y2
        go_wp2_with fail
        try rw [hX]
        refine sound_any E M hf (tb + 2) (fun j => if j = i then (X : Int) else r2 j) (fun j hj => ?_) _ (fun j hj => ?_) _ ?_
        · show U64 (if j = i then (X : Int) else r2 j)
          split
          · exact unhide UX
          · exact (unhide HRS j hj).u64 hf
        · have hcj := ((unhide HSM y2).cell (p := ⟨tb + 2, j, none⟩) hml).trans (unhide HRC j hj)
          rw [cell_set _ _ _ _ _ _ _ hcj]
          by_cases hji : j = i
          · subst hji
            simp
          · have hij : ¬ i = j := fun h => hji h.symm
            simp [hji, hij]
        intro b w4 hb hb4
        have hbf : b = false := by
          cases b with
          | false => rfl
          | true =>
            have := hb.1 rfl i hi8
            simp only [if_true] at this
            exact absurd this (unhide NX)
        subst hbf
        clear hb
        go_wp2_with fail
        go_ret
        refine ⟨rfl, ?_⟩
        refine Below.trans (below_store ((unhide HB3).trans ((unhide HSM y2).mono (by omega))) (by omega) _) (hb4.mono ?_)
        have := (unhide HSM y2).size
        simp only [World.size_setCell]
        omega
    · have HI0 := hide hI
      clear hI
      go_wp2_with fail
      refine (below_d wr db 34 (unhide HI0).dice (by omega) (by omega)).mono ?_
      rintro e u1 ⟨kd, rfl, hkd, -, R⟩
      have HI1 := hide ((unhide HI0).roll R hdt (by omega) (by omega))
      clear HI0 R
      go_wp2_with fail
      refine (roll_d u1 db (unhide HI1).dice).mono ?_
      rintro e u2 ⟨q1, rfl, uq1, -, R⟩
      have HI2 := hide ((unhide HI1).roll R hdt (by omega) (by omega))
      have UQ1 := hide uq1
      clear HI1 R uq1
      go_wp2_with fail
      refine (roll_d u2 db (unhide HI2).dice).mono ?_
      rintro e u3 ⟨q2, rfl, uq2, -, R⟩
      have HI3 := hide ((unhide HI2).roll R hdt (by omega) (by omega))
      have UQ2 := hide uq2
      clear HI2 R uq2
      go_wp2_with fail
      refine (roll_d u3 db (unhide HI3).dice).mono ?_
      rintro e u4 ⟨q3, rfl, uq3, -, R⟩
      have HI4 := hide ((unhide HI3).roll R hdt (by omega) (by omega))
      have UQ3 := hide uq3
      clear HI3 R uq3
      go_wp2_with fail
      refine (roll_d u4 db (unhide HI4).dice).mono ?_
      rintro e u5 ⟨q4, rfl, uq4, -, R⟩
      have HI5 := hide ((unhide HI4).roll R hdt (by omega) (by omega))
      have UQ4 := hide uq4
      clear HI4 R uq4
      go_wp2_with fail
      obtain ⟨ob, hob⟩ : ∃ ob, ob = u5.heap.size := ⟨_, rfl⟩
      have hmo : tb + 2 < ob := by rw [hob]; exact (unhide HI5).mach.own.1
      (repeat (first | (rewrite [Go.Proofs.YgcoaaGreat.NatW.frz_ite]; generalize Go.Proofs.YgcoaaGreat.NatW.frzI _ = x__) | (rewrite [Go.Proofs.YgcoaaGreat.NatW.frz_dec]; generalize Go.Proofs.YgcoaaGreat.NatW.frzB _ = x__) | (rewrite [Go.Proofs.YgcoaaGreat.NatW.frz_beq]; generalize Go.Proofs.YgcoaaGreat.NatW.frzB _ = x__) | (rewrite [Go.Proofs.YgcoaaGreat.NatW.frz_not]; generalize Go.Proofs.YgcoaaGreat.NatW.frzB _ = x__) | (rewrite [Go.Proofs.YgcoaaGreat.NatW.frz_and]; generalize Go.Proofs.YgcoaaGreat.NatW.frzB _ = x__) | (rewrite [Go.Proofs.YgcoaaGreat.NatW.frz_or]; generalize Go.Proofs.YgcoaaGreat.NatW.frzB _ = x__) | (rewrite [show ∀ (a b : Int), Value.bool (a != b) = Value.bool (Go.Proofs.YgcoaaGreat.NatW.frzB (a != b)) from fun _ _ => rfl]; generalize Go.Proofs.YgcoaaGreat.NatW.frzB _ = x__)))
      ((first | with_reducible refine Go.Proofs.YgcoaaGreat.NatW.gen_calls ?_ | with_reducible refine Go.Proofs.YgcoaaGreat.NatW.gen_wp ?_ | with_reducible refine Go.Proofs.YgcoaaGreat.NatW.gen_list ?_ | with_reducible refine Go.Proofs.YgcoaaGreat.NatW.gen_body ?_); intro W hW)
      have hIW : BsI w db tb (tb + 1) (tb + 2) E M n W := by rw [← hW]; exact (unhide HI5).later ((Below.refl _ _).alloc (Nat.le_refl _) _) (by omega)
      have rW := heap_alloc_new u5 (.cells #[.int .u8 kd, .int .u8 (q1 % 256), .int .u8 (q2 % 256), .int .u8 (q3 % 256), .int .u64 q4, .string ⟨#[]⟩] 91)
      rw [hW, ← hob] at rW
      have hzW : db ≤ W.heap.size := by have := hIW.dice.lt; omega
      have HI6 : Hid (BsI w db tb (tb + 1) (tb + 2) E M n W ∧ W.heap[ob]? = some (.cells #[.int .u8 kd, .int .u8 (q1 % 256), .int .u8 (q2 % 256), .int .u8 (q3 % 256), .int .u64 q4, .string ⟨#[]⟩] 91 (0, 0))) := hide ⟨hIW, rW⟩
      rw [← hob]
      clear hIW rW HI5 hW hob
      obtain ⟨wt, hWt, hst, hkt, hbt⟩ := trunc2 W db hzW
      have hne2 : Nonempty (Later wt) := ⟨⟨W, hWt⟩⟩
      clear hkt hbt
      refine Go.LaxS.region_gen (⟨W, hWt⟩ : Later wt) 7 4 [(1, fun v => v = fmt E M), (3, fun v => ∃ r : Nat, v = .int .i64 (r : Int) ∧ r < 6), (6, fun v => v = .agg #[.int .u8 kd, .int .u8 (q1 % 256), .int .u8 (q2 % 256), .int .u8 (q3 % 256), .int .u64 q4, .string ⟨#[]⟩])] [] [3]
        (BsJ w db tb E M n ob #[.int .u8 kd, .int .u8 (q1 % 256), .int .u8 (q2 % 256), .int .u8 (q3 % 256), .int .u64 q4, .string ⟨#[]⟩]) (by kernel_rfl) (by kernel_rfl) (by kernel_rfl) (by kernel_rfl) (unhide HI6) (BsJ.later (by omega)) (fun _ h => by cases h) (List.forall_mem_cons.2 ⟨⟨_, rfl⟩, List.forall_mem_cons.2 ⟨⟨_, 0, rfl, by decide⟩, List.forall_mem_cons.2 ⟨⟨_, rfl⟩, fun _ h => by cases h⟩⟩⟩) ?_
      (refine Go.LaxS.walk_det rfl rfl rfl rfl ?_; go_big_quiet_want; go_big_quiet_op; go_big_quiet_on; refine wpQuiet_nil ?_)
      refine Go.LaxS.gen_call rfl rfl rfl (BsJ.later (by omega)) ?_ (fun y K hI hG hK => by
        have a0 := cell_of_row y.at_ (tb + 1) 0 _ _ _ hI.1.box
        have a1 := cell_of_row y.at_ (tb + 1) 1 _ _ _ hI.1.box
        simp only [List.getElem?_toArray, List.getElem?_cons_zero, List.getElem?_cons_succ] at a0 a1
        have HK := hide hK
        clear hK
        go_wp2_with fail
        exact unhide HK _ _ rfl trivial (Below.refl _ _))
      rintro v rfl
      ((try dsimp only); go_big_quiet_want; go_big_quiet_op; go_big_quiet_on; refine wpQuiet_nil ?_)
      (refine Go.LaxS.walk_det rfl rfl rfl rfl ?_; go_big_quiet_want; go_big_quiet_op; go_big_quiet_on; refine wpQuiet_nil ?_)
      refine Go.LaxS.gen_sil rfl rfl rfl ?_ (fun y K hI hG hK => by
        go_wp2_with fail
        refine (below_d y.at_ db 6 hI.1.dice (by omega) (by omega)).mono ?_
        rintro e w' ⟨r, rfl, hr, -, R⟩
        have hh := Go.Proofs.YgcoaaGreat.NatW.hide (hK _ w' ⟨r, rfl, by omega⟩ trivial (y.ok.trans (by rw [hst]; exact R.below)) ⟨hI.1.roll R hdt (by omega) (by omega), by
          obtain ⟨x, rfl⟩ := R
          rw [heap_set, if_neg (by omega)]; exact hI.2⟩ (fun i u _ _ => trivial))
        clear hK hr
        go_wp2_with fail
        exact Eq.mp (by kernel_rfl) (Go.Proofs.YgcoaaGreat.NatW.unhide hh))
      rintro v ⟨md, rfl, hmd⟩
      ((try dsimp only); go_big_quiet_want; go_big_quiet_op; go_big_quiet_on; refine wpQuiet_nil ?_)
      (refine Go.LaxS.walk_det rfl rfl rfl rfl ?_; go_big_quiet_want; go_big_quiet_op; go_big_quiet_on; refine wpQuiet_nil ?_)
      (refine Go.LaxS.walk_det rfl rfl rfl rfl ?_; go_big_quiet_want; go_big_quiet_op; go_big_quiet_on; refine wpQuiet_nil ?_)
      refine Go.LaxS.gen_call rfl rfl rfl (BsJ.later (by omega)) ?_ (fun y K hI hG hK => by
        have a0 := cell_of_row y.at_ ob 0 _ _ _ hI.2
        have a1 := cell_of_row y.at_ ob 1 _ _ _ hI.2
        have a2 := cell_of_row y.at_ ob 2 _ _ _ hI.2
        have a3 := cell_of_row y.at_ ob 3 _ _ _ hI.2
        have a4 := cell_of_row y.at_ ob 4 _ _ _ hI.2
        have a5 := cell_of_row y.at_ ob 5 _ _ _ hI.2
        simp only [List.getElem?_toArray, List.getElem?_cons_zero, List.getElem?_cons_succ] at a0 a1 a2 a3 a4 a5
        have HK := hide hK
        clear hK
        go_wp2_with fail
        exact unhide HK _ _ rfl trivial (Below.refl _ _))
      rintro v rfl
      ((try dsimp only); go_big_quiet_want; go_big_quiet_op; go_big_quiet_on; refine wpQuiet_nil ?_)
      refine Go.LaxS.gen_end ?_
      intro y hI9 hG9
      have HI9 := hide hI9.1
      clear hI9 hG9 HI6
      go_wp2_with fail
      refine engine_any kd (stp_all kd (by omega)) E M hf tb (tb + 2) n (by omega) _ _ _ _ _ (mod256 q1).1 (mod256 q1).2 (mod256 q2).1 (mod256 q2).2 (mod256 q3).1 (mod256 q3).2 (unhide UQ4) y.at_ (unhide HI9).mach (unhide HI9).tab (by omega) _ ?_
      intro n9 w9 hn9 hm9 hb9
      have HI10 := hide ((unhide HI9).step hm9 hb9 (by omega) (by omega) (by omega))
      clear hm9 hb9 HI9
      go_wp2_with fail
      exact ⟨⟨k - 1, n9, by simp; omega, by omega, by omega, unhide HI10⟩, by simp [intOf]; omega⟩
end Go.Proofs.YgcoaaGreat.NatW
