/-
  Package so: toInt, show, digits.
-/
import Derived.Test.YgcoaaGreatHexA
import Derived.Test.YgcoaaGreatRyuC
import Derived.Test.YgcoaaGreatSoB
import Derived.Test.YgcoaaGreatSoftWb
import Derived.Test.YgcoaaGreatDecE
set_option linter.unusedVariables false
set_option linter.unusedSimpArgs false
namespace Go.Proofs.YgcoaaGreat.NatW
attribute [local go_sem] Go.Instr.field Go.asAgg
open Go.RowKit
open Go.Proofs.YgcoaaGreat.Limbs Go.Proofs.YgcoaaGreat.Bits

theorem orName_sz (E M : Nat) (hf : fok E M = true) (a : Int) (ha : U64 a) (s : ByteArray) (hs : s.size ≤ 300000) : Ret 256 #[fmt E M, .int .u64 a, .string s] (fun v => ∃ s : ByteArray, v = .string s ∧ s.size ≤ 300000) :=
  (orName_ret E M hf a ha s).mono fun v ⟨t, h1, h2⟩ => ⟨t, h1, by rcases h2 with h | h
                                                                  · rw [h]; exact hs
                                                                  · omega⟩
theorem text_sz (n : Bool) (d : ByteArray) (e : Int) (h : Canon d e) : Ret 56 #[.agg #[.bool n, .string d, .int .i16 e]] (fun v => ∃ s : ByteArray, v = .string s ∧ s.size ≤ 300000) := by
  have h1 : d.size ≤ 800 ∧ -2000 ≤ e ∧ e ≤ 2000 := by rcases h with ⟨a, b⟩ | ⟨a, b, c, d, e, f, g⟩ <;> omega
  exact (text_ret n d (by omega) e (by omega) (by omega)).mono fun v ⟨s, h1, h2⟩ => ⟨s, h1, by omega⟩
theorem textE_sz (n : Bool) (d : ByteArray) (hd : d.size ≤ 6000) (e : Int) (h1 : -32768 ≤ e) (h2 : e ≤ 32767) : Ret 367 #[.bool n, .string d, .int .i16 e] (fun v => ∃ s : ByteArray, v = .string s ∧ s.size ≤ 300000) :=
  (textE_ret n d (by omega) e h1 h2).mono fun v ⟨s, h1, h2⟩ => ⟨s, h1, by omega⟩
theorem textF_sz (n : Bool) (d : ByteArray) (hd : d.size ≤ 6000) (p : Int) (hp0 : 0 ≤ p) (hp : p ≤ 2000) : Ret 366 #[.bool n, .string d, .int .u16 p] (fun v => ∃ s : ByteArray, v = .string s ∧ s.size ≤ 300000) := by
  obtain ⟨q, rfl⟩ : ∃ q : Nat, p = (q : Int) := ⟨p.toNat, by omega⟩
  exact textF_ret n d (by omega) q (by omega)
theorem canon_nil : Canon ⟨#[]⟩ 0 := .inl ⟨rfl, rfl⟩

set_option maxRecDepth 20000 in
set_option maxHeartbeats 4000000 in
theorem sotoInt_ret (E M : Nat) (hf : fok E M = true) (a : Int) (ha : U64 a) : Ret 144 #[fmt E M, .int .u64 a] (fun v => ∃ s : ByteArray, v = .string s ∧ s.size ≤ 300000) := by
  obtain ⟨g1, g2, g3, g4⟩ := fok_bd hf
  intro w K hK
  have HK := hide hK
  clear hK
  obtain ⟨wb, x0, hwb, r0, hB, hZ⟩ := boxes1 w #[.int .u8 E, .int .u8 M] 23
  have c00 : ∀ x : Later wb, _ = some (.int .u8 E : Value) := Later.cell r0 0 _ rfl
  have c01 : ∀ x : Later wb, _ = some (.int .u8 M : Value) := Later.cell r0 1 _ rfl
  have R0 := hide r0
  clear r0
  have hne : Nonempty (Later wb) := ⟨x0⟩
  go_enter Oaag.func144, Oaag.ntmps144
  go_wp2_with (first
    | ((with_reducible refine Go.Proofs.YgcoaaGreat.NatW.at_later 168 ?_); refine Go.Proofs.YgcoaaGreat.NatW.Ret.run (toInt_rng E M hf 2 a ha) _ ?_; rintro _ y__ ⟨ri, rb, rfl, hi⟩)
    | ((with_reducible refine Go.Proofs.YgcoaaGreat.NatW.at_later 253 ?_); refine Go.Proofs.YgcoaaGreat.NatW.Ret.run (whole_ret _ hi.1 hi.2 _) _ ?_; rintro _ y__ ⟨sI, rfl, hsI⟩))
  all_goals first | exact unhide HK _ _ ⟨_, rfl, by omega⟩ (hB _) | skip

set_option maxRecDepth 20000 in
set_option maxHeartbeats 4000000 in
theorem show_zero (tb E M : Nat) (hf : fok E M = true) (X : Nat) (hX : X < 18446744073709551616) : RetT tb 146 #[.pointer (some ⟨tb, 0, none⟩), fmt E M, .int .u64 (X : Nat)] (fun v => ∃ s : ByteArray, v = .string s ∧ s.size ≤ 300000) := by
  obtain ⟨g1, g2, g3, g4⟩ := fok_bd hf
  intro w K hT hK
  have HK := hide hK
  clear hK
  obtain ⟨wb, x0, hwb, r0, hB, hZ⟩ := boxes1 w #[.int .u8 E, .int .u8 M] 23
  have c00 : ∀ x : Later wb, _ = some (.int .u8 E : Value) := Later.cell r0 0 _ rfl
  have c01 : ∀ x : Later wb, _ = some (.int .u8 M : Value) := Later.cell r0 1 _ rfl
  have R0 := hide r0
  clear r0
  have hne : Nonempty (Later wb) := ⟨x0⟩
  go_enter Oaag.func146, Oaag.ntmps146
  have hT' : ∀ x : Later wb, TabZ tb x.at_ := fun x => hT.kept (hB x) hT.lt
  clear hT
  have hT := hT'
  clear hT'
  go_wp2_with (first
    | (
    (with_reducible refine Go.Proofs.YgcoaaGreat.NatW.at_reg 1 ?_)
    (repeat (first | (rewrite [Go.Proofs.YgcoaaGreat.NatW.frz_ite]; generalize Go.Proofs.YgcoaaGreat.NatW.frzI _ = x__) | (rewrite [Go.Proofs.YgcoaaGreat.NatW.frz_dec]; generalize Go.Proofs.YgcoaaGreat.NatW.frzB _ = x__) | (rewrite [Go.Proofs.YgcoaaGreat.NatW.frz_beq]; generalize Go.Proofs.YgcoaaGreat.NatW.frzB _ = x__) | (rewrite [Go.Proofs.YgcoaaGreat.NatW.frz_not]; generalize Go.Proofs.YgcoaaGreat.NatW.frzB _ = x__) | (rewrite [Go.Proofs.YgcoaaGreat.NatW.frz_and]; generalize Go.Proofs.YgcoaaGreat.NatW.frzB _ = x__) | (rewrite [Go.Proofs.YgcoaaGreat.NatW.frz_or]; generalize Go.Proofs.YgcoaaGreat.NatW.frzB _ = x__) | (rewrite [show ∀ (a b : Int), Value.bool (a != b) = Value.bool (Go.Proofs.YgcoaaGreat.NatW.frzB (a != b)) from fun _ _ => rfl]; generalize Go.Proofs.YgcoaaGreat.NatW.frzB _ = x__)))
    refine Go.Lax.region_calls _ 8 3 [(5, fun v => ∃ n d e, v = .agg #[.bool n, .string d, .int .i16 e] ∧ Canon d e), (6, fun v => ∃ s : ByteArray, v = .string s ∧ s.size ≤ 300000), (7, fun v => ∃ s : ByteArray, v = .string s ∧ s.size ≤ 300000)] (by kernel_rfl) (by kernel_rfl) (by kernel_rfl) (List.forall_mem_cons.2 ⟨⟨_, false, ⟨#[]⟩, 0, rfl, canon_nil⟩, List.forall_mem_cons.2 ⟨⟨_, ByteArray.empty, rfl, by decide⟩, List.forall_mem_cons.2 ⟨⟨_, ByteArray.empty, rfl, by decide⟩, fun _ h => by cases h⟩⟩⟩) ?_
    iterate 5 (refine Go.Lax.walk_det rfl rfl rfl ?_; go_big_quiet_want; go_big_quiet_op; go_big_quiet_on; refine wpQuiet_nil ?_)
    refine Go.Lax.call_at rfl ?_ (fun y__ K__ hK__ => by (go_wp2_with fail; refine (RetT.at_ (shortest_zero tb E M hf X hX) hT) _ _ ?_; intro v__ w__ hv__ hb__; have hh__ := Go.Proofs.YgcoaaGreat.NatW.hide (hK__ v__ w__ hv__ hb__); clear hK__ hv__; go_wp2_with fail; exact Eq.mp (by kernel_rfl) (Go.Proofs.YgcoaaGreat.NatW.unhide hh__)))
    rintro v ⟨sn, sd, se, rfl, hcn⟩
    ((try dsimp only); go_big_quiet_want; go_big_quiet_op; go_big_quiet_on; refine wpQuiet_nil ?_)
    refine Go.Lax.call_at rfl ?_ (fun y__ K__ hK__ => by (go_wp2_with fail; refine (text_sz sn sd se hcn) _ _ ?_; intro v__ w__ hv__ hb__; have hh__ := Go.Proofs.YgcoaaGreat.NatW.hide (hK__ v__ w__ hv__ hb__); clear hK__ hv__; go_wp2_with fail; exact Eq.mp (by kernel_rfl) (Go.Proofs.YgcoaaGreat.NatW.unhide hh__)))
    rintro v ⟨s1, rfl, hs1⟩
    ((try dsimp only); go_big_quiet_want; go_big_quiet_op; go_big_quiet_on; refine wpQuiet_nil ?_)
    refine Go.Lax.call_at rfl ?_ (fun y__ K__ hK__ => by (go_wp2_with fail; refine (orName_sz E M hf (X : Int) ⟨by omega, by omega⟩ s1 hs1) _ _ ?_; intro v__ w__ hv__ hb__; have hh__ := Go.Proofs.YgcoaaGreat.NatW.hide (hK__ v__ w__ hv__ hb__); clear hK__ hv__; go_wp2_with fail; exact Eq.mp (by kernel_rfl) (Go.Proofs.YgcoaaGreat.NatW.unhide hh__)))
    rintro v ⟨s2, rfl, hs2⟩
    ((try dsimp only); go_big_quiet_want; go_big_quiet_op; go_big_quiet_on; refine wpQuiet_nil ?_)
    refine Go.Lax.end_at ?_
    intro y))
  all_goals first | exact unhide HK _ _ ⟨_, rfl, hs2⟩ (hB _) | skip

theorem u16m (x : Int) : 0 ≤ IntKind.u16.wrap (x % 2001) ∧ IntKind.u16.wrap (x % 2001) ≤ 2000 := by
  simp [IntKind.wrap, IntKind.bits, IntKind.signed]
  omega

set_option maxRecDepth 20000 in
set_option maxHeartbeats 4000000 in
theorem sodigits_ret (E M : Nat) (hf : fok E M = true) (a kd kD kA kB imm : Int) (ha : U64 a) (hi : U64 imm) : Ret 265 #[fmt E M, .int .u64 a, .agg #[.int .u8 kd, .int .u8 kD, .int .u8 kA, .int .u8 kB, .int .u64 imm, .string ⟨#[]⟩]] (fun v => ∃ s : ByteArray, v = .string s ∧ s.size ≤ 300000) := by
  obtain ⟨g1, g2, g3, g4⟩ := fok_bd hf
  intro w K hK
  have HK := hide hK
  clear hK
  obtain ⟨wb, x0, hwb, r0, r1, hB, hZ⟩ := boxes2 w #[.int .u8 E, .int .u8 M] #[.int .u8 kd, .int .u8 kD, .int .u8 kA, .int .u8 kB, .int .u64 imm, .string ⟨#[]⟩] 23 91
  have c00 : ∀ x : Later wb, _ = some (.int .u8 E : Value) := Later.cell r0 0 _ rfl
  have c01 : ∀ x : Later wb, _ = some (.int .u8 M : Value) := Later.cell r0 1 _ rfl
  have c10 : ∀ x : Later wb, _ = some (.int .u8 kd : Value) := Later.cell r1 0 _ rfl
  have c11 : ∀ x : Later wb, _ = some (.int .u8 kD : Value) := Later.cell r1 1 _ rfl
  have c12 : ∀ x : Later wb, _ = some (.int .u8 kA : Value) := Later.cell r1 2 _ rfl
  have c13 : ∀ x : Later wb, _ = some (.int .u8 kB : Value) := Later.cell r1 3 _ rfl
  have c14 : ∀ x : Later wb, _ = some (.int .u64 imm : Value) := Later.cell r1 4 _ rfl
  have c15 : ∀ x : Later wb, _ = some (.string ⟨#[]⟩ : Value) := Later.cell r1 5 _ rfl
  have R0 := hide r0
  have R1 := hide r1
  clear r0 r1
  have hne : Nonempty (Later wb) := ⟨x0⟩
  go_enter Oaag.func265, Oaag.ntmps265
  have hi0 := hi.1
  have hi1 := hi.2
  go_wp2_with (first
    | (
      (with_reducible refine Go.Proofs.YgcoaaGreat.NatW.at_reg 1 ?_)
      (repeat (first | (rewrite [Go.Proofs.YgcoaaGreat.NatW.frz_ite]; generalize Go.Proofs.YgcoaaGreat.NatW.frzI _ = x__) | (rewrite [Go.Proofs.YgcoaaGreat.NatW.frz_dec]; generalize Go.Proofs.YgcoaaGreat.NatW.frzB _ = x__) | (rewrite [Go.Proofs.YgcoaaGreat.NatW.frz_beq]; generalize Go.Proofs.YgcoaaGreat.NatW.frzB _ = x__) | (rewrite [Go.Proofs.YgcoaaGreat.NatW.frz_not]; generalize Go.Proofs.YgcoaaGreat.NatW.frzB _ = x__) | (rewrite [Go.Proofs.YgcoaaGreat.NatW.frz_and]; generalize Go.Proofs.YgcoaaGreat.NatW.frzB _ = x__) | (rewrite [Go.Proofs.YgcoaaGreat.NatW.frz_or]; generalize Go.Proofs.YgcoaaGreat.NatW.frzB _ = x__) | (rewrite [show ∀ (a b : Int), Value.bool (a != b) = Value.bool (Go.Proofs.YgcoaaGreat.NatW.frzB (a != b)) from fun _ _ => rfl]; generalize Go.Proofs.YgcoaaGreat.NatW.frzB _ = x__)))
      refine Go.Lax.region_calls _ 10 3 [(6, fun v => v = .int .u64 ((2 ^ (E + M) : Nat) : Int))] (by kernel_rfl) (by kernel_rfl) (by kernel_rfl) (List.forall_mem_cons.2 ⟨⟨_, rfl⟩, fun _ h => by cases h⟩) ?_
      iterate 6 (refine Go.Lax.walk_det rfl rfl rfl ?_; go_big_quiet_want; go_big_quiet_op; go_big_quiet_on; refine wpQuiet_nil ?_)
      refine Go.Lax.call_at rfl ?_ (fun y__ K__ hK__ => by (go_wp2_with fail; refine (signBit_ret E M hf) _ _ ?_; intro v__ w__ hv__ hb__; have hh__ := Go.Proofs.YgcoaaGreat.NatW.hide (hK__ v__ w__ hv__ hb__); clear hK__ hv__; go_wp2_with fail; exact Eq.mp (by kernel_rfl) (Go.Proofs.YgcoaaGreat.NatW.unhide hh__)))
      rintro v rfl
      ((try dsimp only); go_big_quiet_want; go_big_quiet_op; go_big_quiet_on; refine wpQuiet_nil ?_)
      iterate 3 (refine Go.Lax.walk_det rfl rfl rfl ?_; go_big_quiet_want; go_big_quiet_op; go_big_quiet_on; refine wpQuiet_nil ?_)
      refine Go.Lax.end_at ?_
      intro y)
    | (
      (with_reducible refine Go.Proofs.YgcoaaGreat.NatW.at_reg 3 ?_)
      (repeat (first | (rewrite [Go.Proofs.YgcoaaGreat.NatW.frz_ite]; generalize Go.Proofs.YgcoaaGreat.NatW.frzI _ = x__) | (rewrite [Go.Proofs.YgcoaaGreat.NatW.frz_dec]; generalize Go.Proofs.YgcoaaGreat.NatW.frzB _ = x__) | (rewrite [Go.Proofs.YgcoaaGreat.NatW.frz_beq]; generalize Go.Proofs.YgcoaaGreat.NatW.frzB _ = x__) | (rewrite [Go.Proofs.YgcoaaGreat.NatW.frz_not]; generalize Go.Proofs.YgcoaaGreat.NatW.frzB _ = x__) | (rewrite [Go.Proofs.YgcoaaGreat.NatW.frz_and]; generalize Go.Proofs.YgcoaaGreat.NatW.frzB _ = x__) | (rewrite [Go.Proofs.YgcoaaGreat.NatW.frz_or]; generalize Go.Proofs.YgcoaaGreat.NatW.frzB _ = x__) | (rewrite [show ∀ (a b : Int), Value.bool (a != b) = Value.bool (Go.Proofs.YgcoaaGreat.NatW.frzB (a != b)) from fun _ _ => rfl]; generalize Go.Proofs.YgcoaaGreat.NatW.frzB _ = x__)))
      refine Go.Lax.region_calls _ 10 3 [(6, fun v => ∃ s : ByteArray, v = .string s ∧ s.size ≤ 6000), (8, fun v => ∃ s : ByteArray, v = .string s ∧ s.size ≤ 300000), (9, fun v => ∃ s : ByteArray, v = .string s ∧ s.size ≤ 300000)] (by kernel_rfl) (by kernel_rfl) (by kernel_rfl) (List.forall_mem_cons.2 ⟨⟨_, ByteArray.empty, rfl, by decide⟩, List.forall_mem_cons.2 ⟨⟨_, ByteArray.empty, rfl, by decide⟩, List.forall_mem_cons.2 ⟨⟨_, ByteArray.empty, rfl, by decide⟩, fun _ h => by cases h⟩⟩⟩) ?_
      iterate 6 (refine Go.Lax.walk_det rfl rfl rfl ?_; go_big_quiet_want; go_big_quiet_op; go_big_quiet_on; refine wpQuiet_nil ?_)
      refine Go.Lax.call_at rfl ?_ (fun y__ K__ hK__ => by (go_wp2_with fail; refine (digitsF_ret E M hf a _ ha (by first | omega | exact (u16m _).1) (by first | omega | exact (u16m _).2)) _ _ ?_; intro v__ w__ hv__ hb__; have hh__ := Go.Proofs.YgcoaaGreat.NatW.hide (hK__ v__ w__ hv__ hb__); clear hK__ hv__; go_wp2_with fail; exact Eq.mp (by kernel_rfl) (Go.Proofs.YgcoaaGreat.NatW.unhide hh__)))
      rintro v ⟨s0, rfl, hs0⟩
      ((try dsimp only); go_big_quiet_want; go_big_quiet_op; go_big_quiet_on; refine wpQuiet_nil ?_)
      (refine Go.Lax.walk_det rfl rfl rfl ?_; go_big_quiet_want; go_big_quiet_op; go_big_quiet_on; refine wpQuiet_nil ?_)
      refine Go.Lax.call_at rfl ?_ (fun y__ K__ hK__ => by (go_wp2_with fail; refine (textF_sz _ s0 hs0 _ (by first | omega | exact (u16m _).1) (by first | omega | exact (u16m _).2)) _ _ ?_; intro v__ w__ hv__ hb__; have hh__ := Go.Proofs.YgcoaaGreat.NatW.hide (hK__ v__ w__ hv__ hb__); clear hK__ hv__; go_wp2_with fail; exact Eq.mp (by kernel_rfl) (Go.Proofs.YgcoaaGreat.NatW.unhide hh__)))
      rintro v ⟨s1, rfl, hs1⟩
      ((try dsimp only); go_big_quiet_want; go_big_quiet_op; go_big_quiet_on; refine wpQuiet_nil ?_)
      refine Go.Lax.call_at rfl ?_ (fun y__ K__ hK__ => by (go_wp2_with fail; refine (orName_sz E M hf a ha s1 hs1) _ _ ?_; intro v__ w__ hv__ hb__; have hh__ := Go.Proofs.YgcoaaGreat.NatW.hide (hK__ v__ w__ hv__ hb__); clear hK__ hv__; go_wp2_with fail; exact Eq.mp (by kernel_rfl) (Go.Proofs.YgcoaaGreat.NatW.unhide hh__)))
      rintro v ⟨s2, rfl, hs2⟩
      ((try dsimp only); go_big_quiet_want; go_big_quiet_op; go_big_quiet_on; refine wpQuiet_nil ?_)
      refine Go.Lax.end_at ?_
      intro y)
    | (
      (with_reducible refine Go.Proofs.YgcoaaGreat.NatW.at_reg 5 ?_)
      (repeat (first | (rewrite [Go.Proofs.YgcoaaGreat.NatW.frz_ite]; generalize Go.Proofs.YgcoaaGreat.NatW.frzI _ = x__) | (rewrite [Go.Proofs.YgcoaaGreat.NatW.frz_dec]; generalize Go.Proofs.YgcoaaGreat.NatW.frzB _ = x__) | (rewrite [Go.Proofs.YgcoaaGreat.NatW.frz_beq]; generalize Go.Proofs.YgcoaaGreat.NatW.frzB _ = x__) | (rewrite [Go.Proofs.YgcoaaGreat.NatW.frz_not]; generalize Go.Proofs.YgcoaaGreat.NatW.frzB _ = x__) | (rewrite [Go.Proofs.YgcoaaGreat.NatW.frz_and]; generalize Go.Proofs.YgcoaaGreat.NatW.frzB _ = x__) | (rewrite [Go.Proofs.YgcoaaGreat.NatW.frz_or]; generalize Go.Proofs.YgcoaaGreat.NatW.frzB _ = x__) | (rewrite [show ∀ (a b : Int), Value.bool (a != b) = Value.bool (Go.Proofs.YgcoaaGreat.NatW.frzB (a != b)) from fun _ _ => rfl]; generalize Go.Proofs.YgcoaaGreat.NatW.frzB _ = x__)))
      refine Go.Lax.region_calls _ 7 3 [(5, fun v => ∃ s : ByteArray, v = .string s ∧ s.size ≤ 300000), (6, fun v => ∃ s : ByteArray, v = .string s ∧ s.size ≤ 300000)] (by kernel_rfl) (by kernel_rfl) (by kernel_rfl) (List.forall_mem_cons.2 ⟨⟨_, ByteArray.empty, rfl, by decide⟩, List.forall_mem_cons.2 ⟨⟨_, ByteArray.empty, rfl, by decide⟩, fun _ h => by cases h⟩⟩) ?_
      iterate 5 (refine Go.Lax.walk_det rfl rfl rfl ?_; go_big_quiet_want; go_big_quiet_op; go_big_quiet_on; refine wpQuiet_nil ?_)
      refine Go.Lax.call_at rfl ?_ (fun y__ K__ hK__ => by (go_wp2_with fail; refine (textE_sz _ s0 hs0 _ he0 he1) _ _ ?_; intro v__ w__ hv__ hb__; have hh__ := Go.Proofs.YgcoaaGreat.NatW.hide (hK__ v__ w__ hv__ hb__); clear hK__ hv__; go_wp2_with fail; exact Eq.mp (by kernel_rfl) (Go.Proofs.YgcoaaGreat.NatW.unhide hh__)))
      rintro v ⟨s1, rfl, hs1⟩
      ((try dsimp only); go_big_quiet_want; go_big_quiet_op; go_big_quiet_on; refine wpQuiet_nil ?_)
      refine Go.Lax.call_at rfl ?_ (fun y__ K__ hK__ => by (go_wp2_with fail; refine (orName_sz E M hf a ha s1 hs1) _ _ ?_; intro v__ w__ hv__ hb__; have hh__ := Go.Proofs.YgcoaaGreat.NatW.hide (hK__ v__ w__ hv__ hb__); clear hK__ hv__; go_wp2_with fail; exact Eq.mp (by kernel_rfl) (Go.Proofs.YgcoaaGreat.NatW.unhide hh__)))
      rintro v ⟨s2, rfl, hs2⟩
      ((try dsimp only); go_big_quiet_want; go_big_quiet_op; go_big_quiet_on; refine wpQuiet_nil ?_)
      refine Go.Lax.end_at ?_
      intro y)
    | ((with_reducible refine Go.Proofs.YgcoaaGreat.NatW.at_later 177 ?_); refine Go.Proofs.YgcoaaGreat.NatW.Ret.run (digitsE_ret E M hf a _ ha (by first | omega | exact (u16m _).1) (by first | omega | exact (u16m _).2)) _ ?_; rintro _ y__ ⟨s0, e0, rfl, hs0, he0, he1⟩))
  all_goals first | exact unhide HK _ _ ⟨_, rfl, hs2⟩ (hB _) | skip


end Go.Proofs.YgcoaaGreat.NatW
