/-
  Package law: biteDec.
-/
import Derived.Test.YgcoaaGreatNatO
import Derived.Test.YgcoaaGreatDecD
import Derived.Test.YgcoaaGreatExpA
set_option linter.unusedVariables false
set_option linter.unusedSimpArgs false
namespace Go.Proofs.YgcoaaGreat.NatW
attribute [local go_sem] Go.Instr.field Go.asAgg
open Go.RowKit
open Go.Proofs.YgcoaaGreat.Limbs Go.Proofs.YgcoaaGreat.Bits
theorem ret_at {n : Nat} {args : Array Value} {Ψ : Value → Prop} (h : Ret n args Ψ) {w : World} {K : Ending → World → Prop} (hK : ∀ v w', Ψ v → Below w.heap.size w w' → K (.returned v) w') : Calls Oaag.prog n args w K := h w K hK

theorem shr1 (r : Int) (u : U64 r) (s : Nat) : 0 ≤ r / 2 / 2 ^ s ∧ r / 2 / 2 ^ s ≤ 9223372036854775807 := by
  have h0 := u.1
  have h1 := u.2
  have hp : (0 : Int) < 2 ^ s := Int.pow_pos (by decide)
  have h2 : 0 ≤ r / 2 := by omega
  have h3 : r / 2 / 2 ^ s ≤ r / 2 := Int.ediv_le_self _ h2
  exact ⟨Int.ediv_nonneg h2 (Int.le_of_lt hp), by omega⟩

theorem byt_app_l (s t : ByteArray) (i : Nat) (h : i < s.size) : byt (s ++ t) i = byt s i := by
  unfold byt
  have h' : i < s.data.size := h
  rw [ByteArray.data_append, Array.getD_eq_getD_getElem?, Array.getElem?_append_left h', ← Array.getD_eq_getD_getElem?]
theorem byt_app_r (s t : ByteArray) (j : Nat) : byt (s ++ t) (s.size + j) = byt t j := by
  unfold byt
  have e : s.size = s.data.size := rfl
  rw [ByteArray.data_append, e, Array.getD_eq_getD_getElem?, Array.getElem?_append_right (by omega), Nat.add_sub_cancel_left, ← Array.getD_eq_getD_getElem?]
theorem canon_l (d : ByteArray) (x : Int) : ¬ Canon (⟨#[48]⟩ ++ d) x := by
  have e49 : (⟨#[48]⟩ : ByteArray).size = 1 := rfl
  have e1 : byt (⟨#[48]⟩ ++ d) 0 = 48 := by rw [byt_app_l _ _ 0 (by rw [e49]; omega)]; rfl
  unfold Canon
  rw [ByteArray.size_append, e49]
  omega
theorem canon_r (d : ByteArray) (x : Int) : ¬ Canon (d ++ ⟨#[48]⟩) x := by
  have e49 : (⟨#[48]⟩ : ByteArray).size = 1 := rfl
  have e1 : byt (d ++ ⟨#[48]⟩) d.size = 48 := by have := byt_app_r d ⟨#[48]⟩ 0; rw [Nat.add_zero] at this; rw [this]; rfl
  unfold Canon
  rw [ByteArray.size_append, e49, Nat.add_sub_cancel]
  omega
theorem canon_x (d : ByteArray) (i : Nat) (x : Int) (h : i < d.size) : ¬ Canon (d.extract 0 i ++ ⟨#[120]⟩ ++ d.extract (i + 1) d.size) x := by
  have e49 : (⟨#[120]⟩ : ByteArray).size = 1 := rfl
  have es : (d.extract 0 i).size = i := by rw [ByteArray.size_extract]; omega
  refine canonBad i (by rw [ByteArray.size_append, ByteArray.size_append, es, e49]; omega) ?_
  rw [byt_app_l _ _ i (by rw [ByteArray.size_append, es, e49]; omega)]
  have := byt_app_r (d.extract 0 i) ⟨#[120]⟩ 0
  rw [es, Nat.add_zero] at this
  rw [this]
  right
  decide
def szOf (bx : Nat) (wr : World) : Nat := match wr.cell? ⟨bx, 1, none⟩ with | some (.string s) => s.size | _ => 0
theorem szOf_eq {bx : Nat} {wr : World} {T : ByteArray} (h : wr.cell? ⟨bx, 1, none⟩ = some (.string T)) : szOf bx wr = T.size := by unfold szOf; rw [h]
/-- The digits while they grow. -/
def DgR (w : World) (db bx : Nat) (n : Bool) (x : Int) (wr : World) : Prop := ∃ T : ByteArray, T.size ≤ 801 ∧ wr.cell? ⟨bx, 0, none⟩ = some (.bool n) ∧ wr.cell? ⟨bx, 1, none⟩ = some (.string T) ∧ wr.cell? ⟨bx, 2, none⟩ = some (.int .i16 x) ∧ wr.frozen? ⟨bx, 1, none⟩ = false ∧ Below db w wr ∧ bx < wr.heap.size

set_option maxRecDepth 20000 in
set_option maxHeartbeats 4000000 in
theorem biteDec_any (w : World) (db : Nat) (h : Dice db w) (hurt : Int) : Calls Oaag.prog 14 #[.pointer (some ⟨db, 0, none⟩), .int .u8 hurt] w fun e w' => e = .returned (.bool true) ∧ Below db w w' := by
  have HD := hide h
  have hlt := h.lt
  clear h
  go_enter Oaag.func14, Oaag.ntmps14
  go_wp2_with fail
  refine (below_d w db 2 (unhide HD) (by omega) (by omega)).mono ?_
  rintro e w1 ⟨k1, rfl, hk1, d1, R1⟩
  have D1 := hide d1
  have B1 := hide R1.below
  clear R1 d1 HD
  go_wp2_with fail
  refine (roll_d w1 db (unhide D1)).mono ?_
  rintro e w2 ⟨r, rfl, ur, d2, R2⟩
  have D2 := hide d2
  have B2 := hide ((unhide B1).trans R2.below)
  clear R2 d2 D1 B1
  go_wp2_with fail
  refine (below_d w2 db 60 (unhide D2) (by omega) (by omega)).mono ?_
  rintro e w3 ⟨s, rfl, hs, d3, R3⟩
  have D3 := hide d3
  have B3 := hide ((unhide B2).trans R3.below)
  have hsh := shr1 r ur s
  obtain ⟨Z, hZ⟩ : ∃ Z, r / 2 / 2 ^ s = Z := ⟨_, rfl⟩
  rw [hZ] at hsh
  have HSH := hide hsh
  clear R3 d3 D2 B2 ur
  go_wp2_with fail
  refine itoa_ret Z (by have := (unhide HSH).1; omega) (unhide HSH).2 w3 _ ?_
  rintro v w4 ⟨S, rfl, hS⟩ b4
  have D4 := hide ((unhide D3).kept b4 (unhide D3).lt)
  have B4 := hide ((unhide B3).trans (b4.mono (by have := (unhide D3).lt; omega)))
  clear b4 D3 B3 HSH hsh hZ
  go_wp2_with fail
  refine (below_d w4 db 4000 (unhide D4) (by omega) (by omega)).mono ?_
  rintro e w5 ⟨k5, rfl, hk5, d5, R5⟩
  have D5 := hide d5
  have B5 := hide ((unhide B4).trans R5.below)
  clear R5 d5 D4 B4
  (repeat (first | (rewrite [Go.Proofs.YgcoaaGreat.NatW.frz_ite]; generalize Go.Proofs.YgcoaaGreat.NatW.frzI _ = x__) | (rewrite [Go.Proofs.YgcoaaGreat.NatW.frz_dec]; generalize Go.Proofs.YgcoaaGreat.NatW.frzB _ = x__) | (rewrite [Go.Proofs.YgcoaaGreat.NatW.frz_beq]; generalize Go.Proofs.YgcoaaGreat.NatW.frzB _ = x__) | (rewrite [Go.Proofs.YgcoaaGreat.NatW.frz_not]; generalize Go.Proofs.YgcoaaGreat.NatW.frzB _ = x__) | (rewrite [Go.Proofs.YgcoaaGreat.NatW.frz_and]; generalize Go.Proofs.YgcoaaGreat.NatW.frzB _ = x__) | (rewrite [Go.Proofs.YgcoaaGreat.NatW.frz_or]; generalize Go.Proofs.YgcoaaGreat.NatW.frzB _ = x__) | (rewrite [show ∀ (a b : Int), Value.bool (a != b) = Value.bool (Go.Proofs.YgcoaaGreat.NatW.frzB (a != b)) from fun _ _ => rfl]; generalize Go.Proofs.YgcoaaGreat.NatW.frzB _ = x__)))
  go_wp2_with fail
  refine make_ret _ S _ (by omega) (by omega) (by omega) w5 _ ?_
  rintro v w6 ⟨n, d, x, ok, rfl, hcan⟩ b6
  have D6 := hide ((unhide D5).kept b6 (unhide D5).lt)
  have B6 := hide ((unhide B5).trans (b6.mono (by have := (unhide D5).lt; omega)))
  have hx1 : -2000 ≤ x ∧ x ≤ 2000 := by
    rcases hcan with ⟨_, h⟩ | ⟨_, _, _, _, _, h1, h2⟩
    · omega
    · exact ⟨h1, h2⟩
  have hd8 : d.size ≤ 800 := by
    rcases hcan with ⟨h, _⟩ | ⟨_, h, _⟩ <;> omega
  have HC := hide hcan
  clear b6 D5 B5 hcan
  go_wp2_with fail
  obtain ⟨bx, hbx⟩ : ∃ bx, bx = w6.heap.size := ⟨_, rfl⟩
  have hdx : db < bx := by rw [hbx]; exact (unhide D6).lt
  ((first | with_reducible refine Go.Proofs.YgcoaaGreat.NatW.gen_calls ?_ | with_reducible refine Go.Proofs.YgcoaaGreat.NatW.gen_wp ?_ | with_reducible refine Go.Proofs.YgcoaaGreat.NatW.gen_list ?_ | with_reducible refine Go.Proofs.YgcoaaGreat.NatW.gen_body ?_); intro W hW)
  have rW := heap_alloc_new w6 (.cells #[.bool n, .string d, .int .i16 x] 74)
  rw [hW, ← hbx] at rW
  have hbW : Below w6.heap.size w6 W := by rw [← hW]; exact (Below.refl _ _).alloc (Nat.le_refl _) _
  have DW := hide ((unhide D6).kept hbW (unhide D6).lt)
  have BW := hide ((unhide B6).trans (hbW.mono (by omega)))
  rw [← hbx]
  clear hbW hW D6 B6 hbx
  refine decOk_ret n d x (by omega) (by omega) (by omega) W _ ?_
  rintro v w7 ⟨b, rfl, hb⟩ b7
  have hbt : b = true := hb.2 (unhide HC)
  subst hbt
  have r7 : w7.heap[bx]? = some (.cells #[.bool n, .string d, .int .i16 x] 74 (0, 0)) := (b7.block bx (Array.getElem?_eq_some_iff.1 rW).1).trans rW
  have D7 := hide ((unhide DW).kept b7 (unhide DW).lt)
  have B7 := hide ((unhide BW).trans (b7.mono (by have := (unhide DW).lt; omega)))
  have hz7 : bx < w7.heap.size := (Array.getElem?_eq_some_iff.1 r7).1
  have k0 := cell_of_row w7 bx 0 _ _ _ r7
  have k1 := cell_of_row w7 bx 1 _ _ _ r7
  have k2 := cell_of_row w7 bx 2 _ _ _ r7
  simp only [List.getElem?_toArray, List.getElem?_cons_zero, List.getElem?_cons_succ] at k0 k1 k2
  have f1 := frozen_of_row w7 bx 1 _ _ r7
  have f2 := frozen_of_row w7 bx 2 _ _ r7
  have R7 := hide r7
  clear hb b7 rW DW BW r7
  by_cases e0 : hurt = 0
  · subst e0
    go_wp2_with fail
    refine decOk_ret n ⟨#[]⟩ 1 (by omega) (by omega) (by decide) _ _ ?_
    rintro v w9 ⟨b, rfl, hb⟩ b9
    have hbf : b = false := by
      cases b with
      | false => rfl
      | true => exact absurd (hb.1 rfl) (fun h => by have := (canon0 (d := ⟨#[]⟩) rfl).1 h; omega)
    subst hbf
    have HB9 := hide b9
    clear hb b9
    go_wp2_with fail
    go_ret
    refine ⟨rfl, ?_⟩
    refine Below.trans (below_store (below_store (unhide B7) (by omega) _) (by omega) _) ((unhide HB9).mono ?_)
    (try simp only [World.size_setCell])
    omega
  by_cases e1 : hurt = 1
  · subst e1
    go_wp2_with fail
    have hR0 : DgR w db bx n x (w7.setCell ⟨bx, 1, none⟩ (.string ⟨#[]⟩)) :=
      ⟨⟨#[]⟩, by decide, by rw [cell_set _ _ _ _ _ _ _ k0, if_neg (by omega)], by rw [cell_set _ _ _ _ _ _ _ k1, if_pos ⟨rfl, rfl⟩], by rw [cell_set _ _ _ _ _ _ _ k2, if_neg (by omega)], by rw [World.frozen?_setCell]; exact f1, below_store (unhide B7) (by omega) _, by rw [World.size_setCell]; exact hz7⟩
    clear k0 k1 k2 f1 f2
    go_loopw [50] (fun _ wr => DgR w db bx n x wr) (fun _ wr => 801 - szOf bx wr)
    case atStart => exact hR0
    case round =>
      clear hR0
      obtain ⟨T, hT, k0, k1, k2, f1, bT, hzT⟩ := hrel
      by_cases hl : T.size < 801
      · have HBT := hide bT
        clear bT
        have hz1 := szOf_eq k1
        go_wp2_with fail
        have hk1 := cell_set wr bx 1 bx 1 (.string (T ++ ⟨#[49]⟩)) _ k1
        rw [if_pos ⟨rfl, rfl⟩] at hk1
        refine ⟨⟨T ++ ⟨#[49]⟩, by rw [ByteArray.size_append]; exact hl, by rw [cell_set _ _ _ _ _ _ _ k0, if_neg (by omega)], hk1, by rw [cell_set _ _ _ _ _ _ _ k2, if_neg (by omega)], by rw [World.frozen?_setCell]; exact f1, below_store (unhide HBT) (by omega) _, by rw [World.size_setCell]; exact hzT⟩, ?_⟩
        rw [szOf_eq hk1, hz1, ByteArray.size_append]
        have e49 : (⟨#[49]⟩ : ByteArray).size = 1 := rfl
        omega
      · have HBT := hide bT
        clear bT
        go_wp2_with fail
        refine decOk_ret n T x (by omega) (by omega) (by omega) _ _ ?_
        rintro v w9 ⟨b, rfl, hb⟩ b9
        have hbf : b = false := by
          cases b with
          | false => rfl
          | true => exact absurd (hb.1 rfl) (canonBig (by omega))
        subst hbf
        have HB9 := hide b9
        clear hb b9
        go_wp2_with fail
        go_ret
        refine ⟨rfl, ?_⟩
        refine Below.trans (unhide HBT) ((unhide HB9).mono ?_)
        (try simp only [World.size_setCell])
        omega
  have n0 : (hurt != 0) = true := by simp [e0]
  have n1 : (hurt != 1) = true := by simp [e1]
  obtain ⟨b0, hb0⟩ : ∃ b0, d.toList.isEmpty = b0 := ⟨_, rfl⟩
  cases b0
  case true =>
    go_wp2_with fail
    all_goals first
      | (go_ret; exact ⟨rfl, unhide B7⟩)
      | skip
  have hd1 : 0 < d.size := by
    rcases Nat.eq_zero_or_pos d.size with h | h
    · have e : d = ⟨#[]⟩ := by
        cases d with
        | mk a =>
          have : a = #[] := Array.eq_empty_of_size_eq_zero h
          rw [this]
      rw [e] at hb0
      have e9 : (⟨#[]⟩ : ByteArray).toList.isEmpty = true := by rw [ByteArray.toList, ByteArray.toList.loop]; rfl
      rw [e9] at hb0
      cases hb0
    · exact h
  by_cases e2 : hurt = 2
  · subst e2
    go_wp2_with fail
    refine (below_d w7 db d.size (unhide D7) (by omega) (by omega)).mono ?_
    rintro e w8 ⟨i, rfl, hi, d8, R8⟩
    have hi8 : i < d.size := by omega
    have B8 := hide ((unhide B7).trans R8.below)
    have r8 : w8.heap[bx]? = some (.cells #[.bool n, .string d, .int .i16 x] 74 (0, 0)) := by
      obtain ⟨z, rfl⟩ := R8
      rw [heap_set, if_neg (by omega)]; exact unhide R7
    have hz8 : bx < w8.heap.size := (Array.getElem?_eq_some_iff.1 r8).1
    clear k0 k1 k2 f1 f2 R7 B7 D7 R8 d8
    go_wp2_with fail
    obtain ⟨wb, x0, hx, hsame⟩ : ∃ (wb : World) (x0 : Later wb), w8 = x0.at_ ∧ ∀ x : Later wb, Below w8.heap.size w8 x.at_ := ⟨w8, ⟨w8, Below.refl _ _⟩, rfl, fun x => x.ok⟩
    have hne3 : Nonempty (Later wb) := ⟨x0⟩
    have k0 : ∀ y : Later wb, y.at_.cell? ⟨bx, 0, none⟩ = some (.bool n) := fun y => ((hsame y).cell (p := ⟨bx, 0, none⟩) hz8).trans (by rw [cell_of_row _ _ _ _ _ _ r8]; rfl)
    have k1 : ∀ y : Later wb, y.at_.cell? ⟨bx, 1, none⟩ = some (.string d) := fun y => ((hsame y).cell (p := ⟨bx, 1, none⟩) hz8).trans (by rw [cell_of_row _ _ _ _ _ _ r8]; rfl)
    have k2 : ∀ y : Later wb, y.at_.cell? ⟨bx, 2, none⟩ = some (.int .i16 x) := fun y => ((hsame y).cell (p := ⟨bx, 2, none⟩) hz8).trans (by rw [cell_of_row _ _ _ _ _ _ r8]; rfl)
    have f1 : ∀ y : Later wb, y.at_.frozen? ⟨bx, 1, none⟩ = false := fun y => ((hsame y).frozen (p := ⟨bx, 1, none⟩) hz8).trans (frozen_of_row _ _ _ _ _ r8)
    have HSM := hide hsame
    rw [hx]
    clear hx hsame r8
    (repeat (first | (rewrite [Go.Proofs.YgcoaaGreat.NatW.frz_ite]; generalize Go.Proofs.YgcoaaGreat.NatW.frzI _ = x__) | (rewrite [Go.Proofs.YgcoaaGreat.NatW.frz_dec]; generalize Go.Proofs.YgcoaaGreat.NatW.frzB _ = x__) | (rewrite [Go.Proofs.YgcoaaGreat.NatW.frz_beq]; generalize Go.Proofs.YgcoaaGreat.NatW.frzB _ = x__) | (rewrite [Go.Proofs.YgcoaaGreat.NatW.frz_not]; generalize Go.Proofs.YgcoaaGreat.NatW.frzB _ = x__) | (rewrite [Go.Proofs.YgcoaaGreat.NatW.frz_and]; generalize Go.Proofs.YgcoaaGreat.NatW.frzB _ = x__) | (rewrite [Go.Proofs.YgcoaaGreat.NatW.frz_or]; generalize Go.Proofs.YgcoaaGreat.NatW.frzB _ = x__) | (rewrite [show ∀ (a b : Int), Value.bool (a != b) = Value.bool (Go.Proofs.YgcoaaGreat.NatW.frzB (a != b)) from fun _ _ => rfl]; generalize Go.Proofs.YgcoaaGreat.NatW.frzB _ = x__)))
    have hw : IntKind.i64.wrap ((i : Int) + 1) = ((i + 1 : Nat) : Int) := by rw [IntKind.wrap_i64]; omega
    (refine region_then _ 11 4 (by kernel_rfl) (by kernel_rfl) (by kernel_rfl) ?_; simp only [List.take, List.drop]; (repeat (first | go_big_quiet_skip | (go_big_quiet_want; go_big_quiet_op; go_big_quiet_on))); refine wpQuiet_nil ?_)
    intro y2
    go_wp2_with fail
    have hc := decOk_ret n (d.extract 0 i ++ ⟨#[120]⟩ ++ d.extract (i + 1) d.size) x (by omega) (by omega) (by rw [ByteArray.size_append, ByteArray.size_append, ByteArray.size_extract, ByteArray.size_extract]; have e49 : (⟨#[120]⟩ : ByteArray).size = 1 := rfl; omega)
    have HC := hide hc
    clear hc
    with_reducible refine ret_at (unhide HC) ?_
    rintro v w9 ⟨b, rfl, hb⟩ b9
    have hbf : b = false := by
      cases b with
      | false => rfl
      | true => exact absurd (hb.1 rfl) (canon_x d i x hi8)
    subst hbf
    have HB9 := hide b9
    clear hb b9
    go_wp2_with fail
    go_ret
    refine ⟨rfl, ?_⟩
    refine Below.trans (below_store ((unhide B8).trans ((unhide HSM y2).mono (by omega))) (by omega) _) ((unhide HB9).mono ?_)
    have := (unhide HSM y2).size
    simp only [World.size_setCell]
    omega
  by_cases e3 : hurt = 3
  · subst e3
    go_wp2_with fail
    have hc := decOk_ret n (⟨#[48]⟩ ++ d) x (by omega) (by omega) (by rw [ByteArray.size_append]; have e49 : (⟨#[48]⟩ : ByteArray).size = 1 := rfl; omega)
    have HC := hide hc
    clear hc
    with_reducible refine ret_at (unhide HC) ?_
    rintro v w9 ⟨b, rfl, hb⟩ b9
    have hbf : b = false := by
      cases b with
      | false => rfl
      | true => exact absurd (hb.1 rfl) (canon_l d x)
    subst hbf
    have HB9 := hide b9
    clear hb b9
    go_wp2_with fail
    go_ret
    refine ⟨rfl, ?_⟩
    refine Below.trans (below_store (unhide B7) (by omega) _) ((unhide HB9).mono ?_)
    (try simp only [World.size_setCell])
    omega
  by_cases e4 : hurt = 4
  · subst e4
    go_wp2_with fail
    have hc := decOk_ret n (d ++ ⟨#[48]⟩) x (by omega) (by omega) (by rw [ByteArray.size_append]; have e49 : (⟨#[48]⟩ : ByteArray).size = 1 := rfl; omega)
    have HC := hide hc
    clear hc
    with_reducible refine ret_at (unhide HC) ?_
    rintro v w9 ⟨b, rfl, hb⟩ b9
    have hbf : b = false := by
      cases b with
      | false => rfl
      | true => exact absurd (hb.1 rfl) (canon_r d x)
    subst hbf
    have HB9 := hide b9
    clear hb b9
    go_wp2_with fail
    go_ret
    refine ⟨rfl, ?_⟩
    refine Below.trans (below_store (unhide B7) (by omega) _) ((unhide HB9).mono ?_)
    (try simp only [World.size_setCell])
    omega
  by_cases e5 : hurt = 5
  · subst e5
    go_wp2_with fail
    refine decOk_ret n d 2001 (by omega) (by omega) (by omega) _ _ ?_
    rintro v w9 ⟨b, rfl, hb⟩ b9
    have hbf : b = false := by
      cases b with
      | false => rfl
      | true => exact absurd (hb.1 rfl) (fun h => by unfold Canon at h; omega)
    subst hbf
    have HB9 := hide b9
    clear hb b9
    go_wp2_with fail
    go_ret
    refine ⟨rfl, ?_⟩
    refine Below.trans (below_store (unhide B7) (by omega) _) ((unhide HB9).mono ?_)
    (try simp only [World.size_setCell])
    omega
  · go_wp2_with fail
    refine decOk_ret n d (-2001) (by omega) (by omega) (by omega) _ _ ?_
    rintro v w9 ⟨b, rfl, hb⟩ b9
    have hbf : b = false := by
      cases b with
      | false => rfl
      | true => exact absurd (hb.1 rfl) (fun h => by unfold Canon at h; omega)
    subst hbf
    have HB9 := hide b9
    clear hb b9
    go_wp2_with fail
    go_ret
    refine ⟨rfl, ?_⟩
    refine Below.trans (below_store (unhide B7) (by omega) _) ((unhide HB9).mono ?_)
    (try simp only [World.size_setCell])
    omega
end Go.Proofs.YgcoaaGreat.NatW
