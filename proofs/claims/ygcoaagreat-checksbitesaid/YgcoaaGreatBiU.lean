/-
  Package law: biteTable, the walk.
-/
import Derived.Test.YgcoaaGreatBiT
import Derived.Test.YgcoaaGreatExpA
set_option linter.unusedVariables false
set_option linter.unusedSimpArgs false
namespace Go.Proofs.YgcoaaGreat.NatW
attribute [local go_sem] Go.Instr.field Go.asAgg
open Go.RowKit
open Go.Proofs.YgcoaaGreat.Limbs Go.Proofs.YgcoaaGreat.Bits

theorem hurt_hi (x : Int) (u : U64 x) (h : 9223372036854775808 ≤ x) : ∃ X : Int, bits .andNot .u64 x 9223372036854775808 = X ∧ U64 X ∧ X ≠ x := by
  obtain ⟨n, rfl⟩ := Int.eq_ofNat_of_zero_le u.1
  have hn : n < 18446744073709551616 := by have := u.2; omega
  have e := u64_andNot_nat n 9223372036854775808 hn (by decide)
  have hle : n &&& (18446744073709551615 - 9223372036854775808) ≤ 18446744073709551615 - 9223372036854775808 := Nat.and_le_right
  exact ⟨_, e, ⟨by omega, by omega⟩, by omega⟩
theorem hurt_lo (x : Int) (u : U64 x) : ∃ X : Int, bits .xor .u64 x 1 = X ∧ U64 X ∧ X ≠ x := by
  obtain ⟨n, rfl⟩ := Int.eq_ofNat_of_zero_le u.1
  have hn : n < 18446744073709551616 := by have := u.2; omega
  have e := u64_xor_nat n 1 hn (by decide)
  have hlt : n ^^^ 1 < 2 ^ 64 := Nat.xor_lt_two_pow (by simpa using hn) (by decide)
  have hm := @Nat.xor_mod_two_eq_one n 1
  have e64 : (2 : Nat) ^ 64 = 18446744073709551616 := by decide
  refine ⟨_, e, ⟨by omega, by omega⟩, ?_⟩
  intro hc
  have hc' : n ^^^ 1 = n := by omega
  rw [hc'] at hm
  omega

theorem uh0 (k : Nat) (hk : k < 696) : U64 (eh k) := (ent_rng k hk).1
theorem ul0 (k : Nat) (hk : k < 696) : U64 (el k) := (ent_rng k hk).2.1
theorem ue0 (k : Nat) (hk : k < 696) : -32768 ≤ ee k ∧ ee k ≤ 32767 := by have := (ent_rng k hk).2.2.1; have := (ent_rng k hk).2.2.2.1; omega
theorem upd_p {f : Nat → Int} {p : Int → Prop} (h : ∀ k, k < 696 → p (f k)) (i : Nat) {v : Int} (hv : p v) (k : Nat) (hk : k < 696) : p (upd f i v k) := by
  unfold upd
  split
  · exact hv
  · exact h k hk
theorem fin_hi (w : World) (g : Nat) (hV : TabV w g eh el ee) (i : Nat) (hi : i < 696) (X : Int) (u : U64 X) (hne : X ≠ eh i) : Calls Oaag.prog 23 #[.pointer (some ⟨g, 0, none⟩)] (w.setCell ⟨g, i * 2, none⟩ (.int .u64 X)) fun e w' => e = .returned (.bool false) ∧ Below w.heap.size (w.setCell ⟨g, i * 2, none⟩ (.int .u64 X)) w' := by
  have := ok_hurt _ g _ _ _ (hV.hi i hi X) (upd_p uh0 i u) ul0 ue0 i hi (by rw [upd_same]; exact fun h => hne h.1)
  rwa [World.size_setCell] at this
theorem fin_lo (w : World) (g : Nat) (hV : TabV w g eh el ee) (i : Nat) (hi : i < 696) (X : Int) (u : U64 X) (hne : X ≠ el i) : Calls Oaag.prog 23 #[.pointer (some ⟨g, 0, none⟩)] (w.setCell ⟨g, i * 2 + 1, none⟩ (.int .u64 X)) fun e w' => e = .returned (.bool false) ∧ Below w.heap.size (w.setCell ⟨g, i * 2 + 1, none⟩ (.int .u64 X)) w' := by
  have := ok_hurt _ g _ _ _ (hV.lo i hi X) uh0 (upd_p ul0 i u) ue0 i hi (by rw [upd_same]; exact fun h => hne h.2.1)
  rwa [World.size_setCell] at this
theorem fin_ex (w : World) (g : Nat) (hV : TabV w g eh el ee) (i : Nat) (hi : i < 696) (X : Int) (u : -32768 ≤ X ∧ X ≤ 32767) (hne : X ≠ ee i) : Calls Oaag.prog 23 #[.pointer (some ⟨g, 0, none⟩)] (w.setCell ⟨g, 1392 + i, none⟩ (.int .i16 X)) fun e w' => e = .returned (.bool false) ∧ Below w.heap.size (w.setCell ⟨g, 1392 + i, none⟩ (.int .i16 X)) w' := by
  have := ok_hurt _ g _ _ _ (hV.ex i hi X) uh0 ul0 (upd_p (p := fun x => -32768 ≤ x ∧ x ≤ 32767) ue0 i u) i hi (by rw [upd_same]; exact fun h => hne h.2.2)
  rwa [World.size_setCell] at this
theorem fin_max (w : World) (g : Nat) (hV : TabV w g eh el ee) (i : Nat) (hi : i < 696) : Calls Oaag.prog 23 #[.pointer (some ⟨g, 0, none⟩)] ((w.setCell ⟨g, i * 2, none⟩ (.int .u64 18446744073709551615)).setCell ⟨g, i * 2 + 1, none⟩ (.int .u64 18446744073709551615)) fun e w' => e = .returned (.bool false) ∧ Below w.heap.size ((w.setCell ⟨g, i * 2, none⟩ (.int .u64 18446744073709551615)).setCell ⟨g, i * 2 + 1, none⟩ (.int .u64 18446744073709551615)) w' := by
  have u : U64 18446744073709551615 := ⟨by decide, by decide⟩
  have := ok_hurt _ g _ _ _ ((hV.hi i hi 18446744073709551615).lo i hi 18446744073709551615) (upd_p uh0 i u) (upd_p ul0 i u) ue0 i hi (by
    rw [upd_same, upd_same]
    exact fun h => (ent_rng i hi).2.2.2.2.2 ⟨h.1.symm, h.2.1.symm⟩)
  rwa [World.size_setCell, World.size_setCell] at this

set_option maxRecDepth 20000 in
set_option maxHeartbeats 4000000 in
theorem biteTable_any (w : World) (db : Nat) (h : Dice db w) (hurt : Int) : Calls Oaag.prog 15 #[.pointer (some ⟨db, 0, none⟩), .int .u8 hurt] w fun e w' => e = .returned (.bool true) ∧ Below db w w' := by
  have HD := hide h
  have hlt := h.lt
  clear h
  go_enter Oaag.func15, Oaag.ntmps15
  go_wp2_with fail
  refine (build_any w).mono ?_
  rintro e w1 ⟨rfl, ht1, hb1⟩
  obtain ⟨g, hg⟩ : ∃ g, g = w.heap.size := ⟨_, rfl⟩
  rw [← hg] at ht1 ⊢
  have hdg : db < g := by omega
  have HT1 := hide ht1
  have HB1 := hide (hb1.mono (Nat.le_of_lt hlt))
  have D1 := hide ((unhide HD).kept hb1 hlt)
  clear ht1 hb1 HD hg
  go_wp2_with fail
  refine (ok_yes w1 g (unhide HT1)).mono ?_
  rintro e w2 ⟨rfl, hb2⟩
  have HV2 := hide ((unhide HT1).later hb2).v
  have hl1 := (unhide D1).lt
  have HB2 := hide ((unhide HB1).trans (hb2.mono (by omega)))
  have D2 := hide ((unhide D1).kept hb2 hl1)
  have hfz2 : ∀ i, i < 2088 → w2.frozen? ⟨g, i, none⟩ = false := fun i hi => (((unhide HT1).later hb2).at_ i hi).2
  have HF2 := hide hfz2
  clear HT1 HB1 D1 hb2 hfz2
  go_wp2_with fail
  refine (below_d w2 db 696 (unhide D2) (by omega) (by omega)).mono ?_
  rintro e w3 ⟨i, rfl, hi, d3, R3⟩
  have D3 := hide d3
  have HB3 := hide ((unhide HB2).trans R3.below)
  have HV3 : Hid (TabV w3 g eh el ee) := by
    obtain ⟨x, rfl⟩ := R3
    exact hide ((unhide HV2).other _ (by omega))
  have HF3 : Hid (∀ i, i < 2088 → w3.frozen? ⟨g, i, none⟩ = false) := by
    obtain ⟨x, rfl⟩ := R3
    exact hide (fun i hi => by rw [World.frozen?_setCell]; exact unhide HF2 i hi)
  clear R3 d3 D2 HB2 HV2 HF2
  go_wp2_with fail
  refine (below_d w3 db 695 (unhide D3) (by omega) (by omega)).mono ?_
  rintro e w4 ⟨j0, rfl, hj0, d4, R4⟩
  have HB4 := hide ((unhide HB3).trans R4.below)
  have hl4 := d4.lt
  have HV4 : Hid (TabV w4 g eh el ee) := by
    obtain ⟨x, rfl⟩ := R4
    exact hide ((unhide HV3).other _ (by omega))
  have HF4 : Hid (∀ i, i < 2088 → w4.frozen? ⟨g, i, none⟩ = false) := by
    obtain ⟨x, rfl⟩ := R4
    exact hide (fun i hi => by rw [World.frozen?_setCell]; exact unhide HF3 i hi)
  clear R4 d4 D3 HB3 HV3 HF3
  obtain ⟨j, hj, hj6, hji⟩ : ∃ j : Nat, ((i : Int) + 1 + (j0 : Int)) % 696 = (j : Int) ∧ j < 696 ∧ j ≠ i := ⟨(i + 1 + j0) % 696, by omega, by omega, by omega⟩
  have hjt : ((i : Int) + 1 + (j0 : Int)).tmod 696 = (j : Int) := by rw [Int.tmod_eq_emod_of_nonneg (by omega)]; exact hj
  have hi6 : i < 696 := by omega
  clear hj
  by_cases e0 : hurt = 0
  · subst e0
    go_wp2_with fail
    refine (ok_nil _).mono ?_
    rintro e w9 ⟨rfl, hb9⟩
    have HB9 := hide hb9
    clear hb9
    go_wp2_with fail
    go_ret
    refine ⟨rfl, ?_⟩
    exact (unhide HB4).trans ((unhide HB9).mono (by omega))
  by_cases e1 : hurt = 1
  · subst e1
    go_wp2_with fail
    obtain ⟨wb, x0, hx, hsame⟩ : ∃ (wb : World) (x0 : Later wb), w4 = x0.at_ ∧ ∀ x : Later wb, Below w4.heap.size w4 x.at_ := ⟨w4, ⟨w4, Below.refl _ _⟩, rfl, fun x => x.ok⟩
    have hne3 : Nonempty (Later wb) := ⟨x0⟩
    have hgl := (unhide HV4).lt
    obtain ⟨VI, hVI⟩ : ∃ VI, VI = eh i := ⟨_, rfl⟩
    have KR : ∀ x : Later wb, x.at_.cell? ⟨g, i * 2, none⟩ = some (.int .u64 VI) := fun x => by rw [hVI]; exact ((hsame x).cell (p := ⟨g, i * 2, none⟩) hgl).trans (unhide HV4 i hi6).1
    have FR : ∀ x : Later wb, x.at_.frozen? ⟨g, i * 2, none⟩ = false := fun x => ((hsame x).frozen (p := ⟨g, i * 2, none⟩) hgl).trans (unhide HF4 _ (by omega))
    rw [hx]
    have HVI := hide hVI
    have HSM := hide hsame
    clear hx hsame hVI
    obtain ⟨X, hX, uX, nX⟩ := hurt_hi VI (by rw [unhide HVI]; exact uh0 i hi6) (by rw [unhide HVI]; exact (ent_rng i hi6).2.2.2.2.1)
    have UX := hide uX
    have NX : Hid (X ≠ eh i) := by rw [← unhide HVI]; exact hide nX
    clear uX nX
    (repeat (first | (rewrite [Go.Proofs.YgcoaaGreat.NatW.frz_ite]; generalize Go.Proofs.YgcoaaGreat.NatW.frzI _ = x__) | (rewrite [Go.Proofs.YgcoaaGreat.NatW.frz_dec]; generalize Go.Proofs.YgcoaaGreat.NatW.frzB _ = x__) | (rewrite [Go.Proofs.YgcoaaGreat.NatW.frz_beq]; generalize Go.Proofs.YgcoaaGreat.NatW.frzB _ = x__) | (rewrite [Go.Proofs.YgcoaaGreat.NatW.frz_not]; generalize Go.Proofs.YgcoaaGreat.NatW.frzB _ = x__) | (rewrite [Go.Proofs.YgcoaaGreat.NatW.frz_and]; generalize Go.Proofs.YgcoaaGreat.NatW.frzB _ = x__) | (rewrite [Go.Proofs.YgcoaaGreat.NatW.frz_or]; generalize Go.Proofs.YgcoaaGreat.NatW.frzB _ = x__) | (rewrite [show ∀ (a b : Int), Value.bool (a != b) = Value.bool (Go.Proofs.YgcoaaGreat.NatW.frzB (a != b)) from fun _ _ => rfl]; generalize Go.Proofs.YgcoaaGreat.NatW.frzB _ = x__)))
    (refine region_then _ 12 4 (by kernel_rfl) (by kernel_rfl) (by kernel_rfl) ?_; simp only [List.take, List.drop]; (repeat (first | go_big_quiet_skip | (go_big_quiet_want; go_big_quiet_op; go_big_quiet_on))); refine wpQuiet_nil ?_)
    intro y2
    go_wp2_with fail
    try rw [hX]
    refine (fin_hi y2.at_ g ((unhide HV4).later (unhide HSM y2)) i hi6 X UX NX).mono ?_
    rintro e w9 ⟨rfl, hb9⟩
    have HB9 := hide hb9
    clear hb9
    go_wp2_with fail
    go_ret
    refine ⟨rfl, ?_⟩
    exact Below.trans (below_store ((unhide HB4).trans ((unhide HSM y2).mono (by omega))) (by omega) _) ((unhide HB9).mono (by have := (unhide HSM y2).size; omega))
  by_cases e2 : hurt = 2
  · subst e2
    have KR := (unhide HV4 i hi6).1
    have FR := unhide HF4 (i * 2) (by omega)
    have KR2 := (unhide HV4 i hi6).2.1
    have FR2 := unhide HF4 (i * 2 + 1) (by omega)
    go_wp2_with fail
    refine (fin_max w4 g (unhide HV4) i hi6).mono ?_
    rintro e w9 ⟨rfl, hb9⟩
    have HB9 := hide hb9
    clear hb9
    go_wp2_with fail
    go_ret
    refine ⟨rfl, ?_⟩
    exact Below.trans (below_store (below_store (unhide HB4) (by omega) _) (by omega) _) ((unhide HB9).mono (by omega))
  by_cases e3 : hurt = 3
  · subst e3
    have KR := (unhide HV4 i hi6).2.2
    have FR := unhide HF4 (1392 + i) (by omega)
    go_wp2_with fail
    refine (fin_ex w4 g (unhide HV4) i hi6 1101 (by omega) (by have := ent_rng i hi6; omega)).mono ?_
    rintro e w9 ⟨rfl, hb9⟩
    have HB9 := hide hb9
    clear hb9
    go_wp2_with fail
    go_ret
    refine ⟨rfl, ?_⟩
    exact Below.trans (below_store (unhide HB4) (by omega) _) ((unhide HB9).mono (by omega))
  by_cases e4 : hurt = 4
  · subst e4
    have KR := (unhide HV4 i hi6).2.2
    have FR := unhide HF4 (1392 + i) (by omega)
    go_wp2_with fail
    refine (fin_ex w4 g (unhide HV4) i hi6 (-1301) (by omega) (by have := ent_rng i hi6; omega)).mono ?_
    rintro e w9 ⟨rfl, hb9⟩
    have HB9 := hide hb9
    clear hb9
    go_wp2_with fail
    go_ret
    refine ⟨rfl, ?_⟩
    exact Below.trans (below_store (unhide HB4) (by omega) _) ((unhide HB9).mono (by omega))
  by_cases e5 : hurt = 5
  · subst e5
    go_wp2_with fail
    obtain ⟨wb, x0, hx, hsame⟩ : ∃ (wb : World) (x0 : Later wb), w4 = x0.at_ ∧ ∀ x : Later wb, Below w4.heap.size w4 x.at_ := ⟨w4, ⟨w4, Below.refl _ _⟩, rfl, fun x => x.ok⟩
    have hne3 : Nonempty (Later wb) := ⟨x0⟩
    have hgl := (unhide HV4).lt
    obtain ⟨VI, hVI⟩ : ∃ VI, VI = el i := ⟨_, rfl⟩
    have KR : ∀ x : Later wb, x.at_.cell? ⟨g, i * 2 + 1, none⟩ = some (.int .u64 VI) := fun x => by rw [hVI]; exact ((hsame x).cell (p := ⟨g, i * 2 + 1, none⟩) hgl).trans (unhide HV4 i hi6).2.1
    have FR : ∀ x : Later wb, x.at_.frozen? ⟨g, i * 2 + 1, none⟩ = false := fun x => ((hsame x).frozen (p := ⟨g, i * 2 + 1, none⟩) hgl).trans (unhide HF4 _ (by omega))
    rw [hx]
    have HVI := hide hVI
    have HSM := hide hsame
    clear hx hsame hVI
    obtain ⟨X, hX, uX, nX⟩ := hurt_lo VI (by rw [unhide HVI]; exact ul0 i hi6)
    have UX := hide uX
    have NX : Hid (X ≠ el i) := by rw [← unhide HVI]; exact hide nX
    clear uX nX
    (repeat (first | (rewrite [Go.Proofs.YgcoaaGreat.NatW.frz_ite]; generalize Go.Proofs.YgcoaaGreat.NatW.frzI _ = x__) | (rewrite [Go.Proofs.YgcoaaGreat.NatW.frz_dec]; generalize Go.Proofs.YgcoaaGreat.NatW.frzB _ = x__) | (rewrite [Go.Proofs.YgcoaaGreat.NatW.frz_beq]; generalize Go.Proofs.YgcoaaGreat.NatW.frzB _ = x__) | (rewrite [Go.Proofs.YgcoaaGreat.NatW.frz_not]; generalize Go.Proofs.YgcoaaGreat.NatW.frzB _ = x__) | (rewrite [Go.Proofs.YgcoaaGreat.NatW.frz_and]; generalize Go.Proofs.YgcoaaGreat.NatW.frzB _ = x__) | (rewrite [Go.Proofs.YgcoaaGreat.NatW.frz_or]; generalize Go.Proofs.YgcoaaGreat.NatW.frzB _ = x__) | (rewrite [show ∀ (a b : Int), Value.bool (a != b) = Value.bool (Go.Proofs.YgcoaaGreat.NatW.frzB (a != b)) from fun _ _ => rfl]; generalize Go.Proofs.YgcoaaGreat.NatW.frzB _ = x__)))
    (refine region_then _ 12 4 (by kernel_rfl) (by kernel_rfl) (by kernel_rfl) ?_; simp only [List.take, List.drop]; (repeat (first | go_big_quiet_skip | (go_big_quiet_want; go_big_quiet_op; go_big_quiet_on))); refine wpQuiet_nil ?_)
    intro y2
    go_wp2_with fail
    try rw [hX]
    refine (fin_lo y2.at_ g ((unhide HV4).later (unhide HSM y2)) i hi6 X UX NX).mono ?_
    rintro e w9 ⟨rfl, hb9⟩
    have HB9 := hide hb9
    clear hb9
    go_wp2_with fail
    go_ret
    refine ⟨rfl, ?_⟩
    exact Below.trans (below_store ((unhide HB4).trans ((unhide HSM y2).mono (by omega))) (by omega) _) ((unhide HB9).mono (by have := (unhide HSM y2).size; omega))
  by_cases e6 : hurt = 6
  · subst e6
    go_wp2_with fail
    obtain ⟨wb, x0, hx, hsame⟩ : ∃ (wb : World) (x0 : Later wb), w4 = x0.at_ ∧ ∀ x : Later wb, Below w4.heap.size w4 x.at_ := ⟨w4, ⟨w4, Below.refl _ _⟩, rfl, fun x => x.ok⟩
    have hne3 : Nonempty (Later wb) := ⟨x0⟩
    have hgl := (unhide HV4).lt
    obtain ⟨VI, hVI⟩ : ∃ VI, VI = ee i := ⟨_, rfl⟩
    have KR : ∀ x : Later wb, x.at_.cell? ⟨g, 1392 + i, none⟩ = some (.int .i16 VI) := fun x => by rw [hVI]; exact ((hsame x).cell (p := ⟨g, 1392 + i, none⟩) hgl).trans (unhide HV4 i hi6).2.2
    have FR : ∀ x : Later wb, x.at_.frozen? ⟨g, 1392 + i, none⟩ = false := fun x => ((hsame x).frozen (p := ⟨g, 1392 + i, none⟩) hgl).trans (unhide HF4 _ (by omega))
    rw [hx]
    have HVI := hide hVI
    have HSM := hide hsame
    clear hx hsame hVI
    have hX : IntKind.i16.wrap (VI + 1) = VI + 1 := by
      have := ent_rng i hi6
      rw [wrap_i16 _ (by rw [unhide HVI]; omega) (by rw [unhide HVI]; omega)]
    have UX : Hid (-32768 ≤ VI + 1 ∧ VI + 1 ≤ 32767) := by rw [unhide HVI]; have := ent_rng i hi6; exact hide (by omega)
    have NX : Hid (VI + 1 ≠ ee i) := by rw [unhide HVI]; exact hide (by omega)
    (repeat (first | (rewrite [Go.Proofs.YgcoaaGreat.NatW.frz_ite]; generalize Go.Proofs.YgcoaaGreat.NatW.frzI _ = x__) | (rewrite [Go.Proofs.YgcoaaGreat.NatW.frz_dec]; generalize Go.Proofs.YgcoaaGreat.NatW.frzB _ = x__) | (rewrite [Go.Proofs.YgcoaaGreat.NatW.frz_beq]; generalize Go.Proofs.YgcoaaGreat.NatW.frzB _ = x__) | (rewrite [Go.Proofs.YgcoaaGreat.NatW.frz_not]; generalize Go.Proofs.YgcoaaGreat.NatW.frzB _ = x__) | (rewrite [Go.Proofs.YgcoaaGreat.NatW.frz_and]; generalize Go.Proofs.YgcoaaGreat.NatW.frzB _ = x__) | (rewrite [Go.Proofs.YgcoaaGreat.NatW.frz_or]; generalize Go.Proofs.YgcoaaGreat.NatW.frzB _ = x__) | (rewrite [show ∀ (a b : Int), Value.bool (a != b) = Value.bool (Go.Proofs.YgcoaaGreat.NatW.frzB (a != b)) from fun _ _ => rfl]; generalize Go.Proofs.YgcoaaGreat.NatW.frzB _ = x__)))
    (refine region_then _ 10 4 (by kernel_rfl) (by kernel_rfl) (by kernel_rfl) ?_; simp only [List.take, List.drop]; (repeat (first | go_big_quiet_skip | (go_big_quiet_want; go_big_quiet_op; go_big_quiet_on))); refine wpQuiet_nil ?_)
    intro y2
    go_wp2_with fail
    try rw [hX]
    refine (fin_ex y2.at_ g ((unhide HV4).later (unhide HSM y2)) i hi6 (VI + 1) UX NX).mono ?_
    rintro e w9 ⟨rfl, hb9⟩
    have HB9 := hide hb9
    clear hb9
    go_wp2_with fail
    go_ret
    refine ⟨rfl, ?_⟩
    exact Below.trans (below_store ((unhide HB4).trans ((unhide HSM y2).mono (by omega))) (by omega) _) ((unhide HB9).mono (by have := (unhide HSM y2).size; omega))
  obtain ⟨c0, c1, c2⟩ := unhide HV4 i hi6
  obtain ⟨c3, c4, c5⟩ := unhide HV4 j hj6
  have f0 := unhide HF4 (i * 2) (by omega)
  have f1 := unhide HF4 (i * 2 + 1) (by omega)
  have f3 := unhide HF4 (j * 2) (by omega)
  have f4 := unhide HF4 (j * 2 + 1) (by omega)
  obtain ⟨A0, hA0⟩ : ∃ x, x = eh i := ⟨_, rfl⟩
  obtain ⟨A1, hA1⟩ : ∃ x, x = el i := ⟨_, rfl⟩
  obtain ⟨A3, hA3⟩ : ∃ x, x = eh j := ⟨_, rfl⟩
  obtain ⟨A4, hA4⟩ : ∃ x, x = el j := ⟨_, rfl⟩
  rw [← hA0] at c0
  rw [← hA1] at c1
  rw [← hA3] at c3
  rw [← hA4] at c4
  have HA0 := hide hA0
  have HA1 := hide hA1
  have HA3 := hide hA3
  have HA4 := hide hA4
  clear hA0 hA1 hA3 hA4 c2 c5
  go_wp2_with fail
  go_region
  go_wp2_with fail
  ((first | with_reducible refine Go.Proofs.YgcoaaGreat.NatW.gen_calls ?_ | with_reducible refine Go.Proofs.YgcoaaGreat.NatW.gen_wp ?_ | with_reducible refine Go.Proofs.YgcoaaGreat.NatW.gen_list ?_ | with_reducible refine Go.Proofs.YgcoaaGreat.NatW.gen_body ?_); intro W hW)
  have hV : TabV W g (upd (upd eh i A3) j A0) (upd (upd el i A4) j A1) ee := by
    rw [← hW]
    exact (((((unhide HV4).hi i hi6 A3).lo i hi6 A4).hi j hj6 A0).lo j hj6 A1).later (Below.refl _ _).drew
  have hF : ∀ k, k < 2088 → W.frozen? ⟨g, k, none⟩ = false := by
    intro k hk
    rw [← hW]
    have := unhide HF4 k hk
    simpa using this
  have hBW : Below db w W := by
    rw [← hW]
    exact (below_store (below_store (below_store (below_store (unhide HB4) (by omega) _) (by omega) _) (by omega) _) (by omega) _).drew
  have hlW : db < W.heap.size := by have := hV.lt; omega
  obtain ⟨-, -, c2⟩ := hV i hi6
  obtain ⟨-, -, c5⟩ := hV j hj6
  have f2 := hF (1392 + i) (by omega)
  have f5 := hF (1392 + j) (by omega)
  obtain ⟨A2, hA2⟩ : ∃ x, x = ee i := ⟨_, rfl⟩
  obtain ⟨A5, hA5⟩ : ∃ x, x = ee j := ⟨_, rfl⟩
  rw [← hA2] at c2
  rw [← hA5] at c5
  have HA2 := hide hA2
  have HA5 := hide hA5
  have HV := hide hV
  have HBW := hide hBW
  clear hA2 hA5 hV hF hBW hW c0 c1 c3 c4 f0 f1 f3 f4 HV4 HF4 HB4
  go_region
  go_wp2_with fail
  have hV2 : TabV ((W.setCell ⟨g, 1392 + i, none⟩ (.int .i16 A5)).setCell ⟨g, 1392 + j, none⟩ (.int .i16 A2)).drew g (upd (upd eh i A3) j A0) (upd (upd el i A4) j A1) (upd (upd ee i A5) j A2) :=
    (((unhide HV).ex i hi6 A5).ex j hj6 A2).later (Below.refl _ _).drew
  have hne : ¬ ee j = ee i := by
    rcases Nat.lt_or_gt_of_ne hji with h | h
    · have := ee_lt j i h hi6; omega
    · have := ee_lt i j h hj6; omega
  refine (ok_hurt _ g _ _ _ hV2 (upd_p (upd_p uh0 i ?_) j ?_) (upd_p (upd_p ul0 i ?_) j ?_) (upd_p (p := fun x => -32768 ≤ x ∧ x ≤ 32767) (upd_p (p := fun x => -32768 ≤ x ∧ x ≤ 32767) ue0 i ?_) j ?_) i hi6 ?_).mono ?_
  · rw [unhide HA3]; exact uh0 j hj6
  · rw [unhide HA0]; exact uh0 i hi6
  · rw [unhide HA4]; exact ul0 j hj6
  · rw [unhide HA1]; exact ul0 i hi6
  · rw [unhide HA5]; exact ue0 j hj6
  · rw [unhide HA2]; exact ue0 i hi6
  · intro h
    have h2 := h.2.2
    rw [upd_other _ _ _ _ (Ne.symm hji), upd_same, unhide HA5] at h2
    exact hne h2
  rintro e w9 ⟨rfl, hb9⟩
  have HB9 := hide hb9
  clear hb9
  go_wp2_with fail
  go_ret
  refine ⟨rfl, ?_⟩
  refine Below.trans (below_store (below_store (unhide HBW) (by omega) _) (by omega) _).drew ((unhide HB9).mono ?_)
  simp
  omega
end Go.Proofs.YgcoaaGreat.NatW
