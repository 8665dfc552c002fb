/-
  parse: 54, format 11 52.
-/
import Derived.Test.YgcoaaGreatPaA
import Derived.Test.YgcoaaGreatNaI
import Derived.Test.YgcoaaGreatDecE
set_option linter.unusedVariables false
set_option linter.unusedSimpArgs false
set_option maxRecDepth 20000
namespace Go.Proofs.YgcoaaGreat.NatW
open Go.RowKit
open Go.Proofs.YgcoaaGreat.Det
open Go.Proofs.YgcoaaGreat.Limbs Go.Proofs.YgcoaaGreat.Bits
attribute [local go_sem] Go.Instr.field Go.asAgg

set_option maxHeartbeats 4000000 in
theorem pl_54_11_Lt (md : Int) (hmd : md = 0 ∨ 4 < md) (n : Bool) (d : ByteArray) (e : Int) (h1 : -32768 ≤ e) (h2 : e ≤ 32767) (hd : d.size ≤ 1000000) (hc : Canon d e) (hz : ¬ d.size = 0) (fast : Bool) (sb : Int) (tb : Nat) (hSB : DFT tb 104 #[.agg #[.int .u8 11, .int .u8 52]] (.int .u64 sb)) (h19 : 19 < d.size) (man : Int) (hMan : DFT tb 105 #[.string d] (.int .u64 man)) (lo : Int) (okl : Bool) (hi : Int) (okh : Bool) (hLo : DFT tb 106 #[.pointer (some ⟨tb, 0, none⟩), .agg #[.int .u8 11, .int .u8 52], .int .u64 man, .int .i16 (e + ((d.size : Int) - 19))] (.tuple #[.int .u64 lo, .bool okl])) (hHi : DFT tb 106 #[.pointer (some ⟨tb, 0, none⟩), .agg #[.int .u8 11, .int .u8 52], .int .u64 (IntKind.u64.wrap (man + 1)), .int .i16 (e + ((d.size : Int) - 19))] (.tuple #[.int .u64 hi, .bool okh])) (hl : okl = true) (hh : okh = true) (heq : (lo == hi) = true) : DFT tb 54 #[.pointer (some ⟨tb, 0, none⟩), fmt 11 52, .int .u8 md, .agg #[.bool n, .string d, .int .i16 e], .bool fast] (.tuple #[.int .u64 (bits .or .u64 lo (psg n sb)), .int .u8 3]) := by
  intro w K ho hK
  have hf : fok 11 52 = true := rfl
  have hsz : d.size ≤ 800 := by rcases hc with h | h <;> omega
  have he1 : -2000 ≤ e ∧ e ≤ 2000 := by rcases hc with h | h <;> omega
  have hz' : ((d.size : Int) == 0) = false := beq_eq_false_iff_ne.2 (by omega)
  have HK := hide hK
  clear hK
  obtain ⟨wb, x0, hwb, r0, r1, hB, hZ⟩ := boxes2 w #[.int .u8 11, .int .u8 52] #[.bool n, .string d, .int .i16 e] 23 74
  have c00 : ∀ x : Later wb, _ = some (.int .u8 11 : Value) := Later.cell r0 0 _ rfl
  have c01 : ∀ x : Later wb, _ = some (.int .u8 52 : Value) := Later.cell r0 1 _ rfl
  have c10 : ∀ x : Later wb, _ = some (.bool n : Value) := Later.cell r1 0 _ rfl
  have c11 : ∀ x : Later wb, _ = some (.string d : Value) := Later.cell r1 1 _ rfl
  have c12 : ∀ x : Later wb, _ = some (.int .i16 e : Value) := Later.cell r1 2 _ rfl
  have hne : Nonempty (Later wb) := ⟨x0⟩
  have hon : ∀ y : Later wb, On tb y.at_ := fun y => ho.later (hB y)
  have HON := hide hon
  have HhSB := hide hSB
  have HhMan := hide hMan
  have HhLo := hide hLo
  have HhHi := hide hHi
  clear ho hon r0 r1 hSB hMan hLo hHi
  have hmz : ∃ zb : Bool, (md != 0) = zb ∧ (zb = true → decide (md ≤ 4) = false) := by
    rcases hmd with rfl | h
    · exact ⟨false, rfl, fun h => by cases h⟩
    · exact ⟨true, by simp; omega, fun _ => by simp; omega⟩
  obtain ⟨zb, hzb, hz4⟩ := hmz
  clear hmd
  cases n <;> cases zb
  all_goals
    first
    | (have hz5 := hz4 rfl; clear hz4)
    | clear hz4
  · go_enter Oaag.func54, Oaag.ntmps54
    go_wp2_with (first
      | ((with_reducible refine at_later 67 ?_); refine Ret.run (fmtOk_ret 11 52 hf) _ ?_; rintro _ y__ rfl)
      | ((with_reducible refine at_later 39 ?_); refine Ret.run (decOk_ret _ d e h1 h2 hd) _ ?_; rintro _ y__ ⟨b__, rfl, hb__⟩; obtain rfl : b__ = true := hb__.2 hc; clear hb__)
      | ((with_reducible refine at_later 104 ?_); (with_reducible refine DFT.run (unhide HhSB) (unhide HON) _ ?_); intro y__)
      | ((with_reducible refine at_later 105 ?_); (with_reducible refine DFT.run (unhide HhMan) (unhide HON) _ ?_); intro y__)
      | ((with_reducible refine at_later 106 ?_); (with_reducible refine DFT.run (unhide HhLo) (unhide HON) _ ?_); intro y__)
      | ((with_reducible refine at_later 106 ?_); (with_reducible refine DFT.run (unhide HhHi) (unhide HON) _ ?_); intro y__)
      | fail)
    refine Go.LaxQ.region_guarded _ 9 3 [4, 5, 6] [(1, fun v => v = .agg #[.int .u8 11, .int .u8 52]), (7, fun v => v = .bool false)] [] (fun _ => True) (by kernel_rfl) (by kernel_rfl) (by kernel_rfl) (by kernel_rfl) trivial (fun _ _ _ _ => trivial) (fun _ h => by cases h) (List.forall_mem_cons.2 ⟨⟨_, rfl⟩, List.forall_mem_cons.2 ⟨⟨_, rfl⟩, fun _ h => by cases h⟩⟩) ?_
    (refine Go.LaxQ.walk_det rfl rfl rfl rfl rfl ?_; go_big_quiet_want; go_big_quiet_op; go_big_quiet_on; refine wpQuiet_nil ?_)
    refine Go.LaxQ.q_call rfl rfl rfl rfl (fun _ _ _ _ => trivial) ?_ (fun y K hI hG hK => by
        go_wp2_with fail
        refine fmt74_ret _ _ ?_
        rintro _ w' rfl hb
        have hh := Go.Proofs.YgcoaaGreat.NatW.hide (hK _ w' rfl trivial hb)
        clear hK
        go_wp2_with fail
        exact Eq.mp (by kernel_rfl) (Go.Proofs.YgcoaaGreat.NatW.unhide hh))
    rintro v9 rfl
    ((try dsimp only); go_big_quiet_want; go_big_quiet_op; go_big_quiet_on; refine wpQuiet_nil ?_)
    (refine Go.LaxQ.walk_det rfl rfl rfl rfl rfl ?_; go_big_quiet_want; go_big_quiet_op; go_big_quiet_on; refine wpQuiet_nil ?_)
    (refine Go.LaxQ.walk_det rfl rfl rfl rfl rfl ?_; go_big_quiet_want; go_big_quiet_op; go_big_quiet_on; refine wpQuiet_nil ?_)
    (refine Go.LaxQ.walk_skip_mv rfl rfl ?_; (try dsimp only); go_big_quiet_want; go_big_quiet_op; go_big_quiet_on; refine wpQuiet_nil ?_)
    (refine Go.LaxQ.walk_skip_mv rfl rfl ?_; (try dsimp only); go_big_quiet_want; go_big_quiet_op; go_big_quiet_on; refine wpQuiet_nil ?_)
    (refine Go.LaxQ.walk_skip_mv rfl rfl ?_; (try dsimp only); go_big_quiet_want; go_big_quiet_op; go_big_quiet_on; refine wpQuiet_nil ?_)
    refine Go.LaxQ.q_call rfl rfl rfl rfl (fun _ _ _ _ => trivial) ?_ (fun y K hI hG hK => by
        have HK := hide hK
        clear hK
        go_wp2_with fail
        exact unhide HK _ _ rfl trivial (Below.refl _ _))
    rintro v9 rfl
    ((try dsimp only); go_big_quiet_want; go_big_quiet_op; go_big_quiet_on; refine wpQuiet_nil ?_)
    (refine Go.LaxQ.walk_det rfl rfl rfl rfl rfl ?_; go_big_quiet_want; go_big_quiet_op; go_big_quiet_on; refine wpQuiet_nil ?_)
    refine Go.LaxQ.q_end ?_
    intro y hI hG
    clear hI hG
    go_wp2_with (first
      | ((with_reducible refine at_later 67 ?_); refine Ret.run (fmtOk_ret 11 52 hf) _ ?_; rintro _ y__ rfl)
      | ((with_reducible refine at_later 39 ?_); refine Ret.run (decOk_ret _ d e h1 h2 hd) _ ?_; rintro _ y__ ⟨b__, rfl, hb__⟩; obtain rfl : b__ = true := hb__.2 hc; clear hb__)
      | ((with_reducible refine at_later 104 ?_); (with_reducible refine DFT.run (unhide HhSB) (unhide HON) _ ?_); intro y__)
      | ((with_reducible refine at_later 105 ?_); (with_reducible refine DFT.run (unhide HhMan) (unhide HON) _ ?_); intro y__)
      | ((with_reducible refine at_later 106 ?_); (with_reducible refine DFT.run (unhide HhLo) (unhide HON) _ ?_); intro y__)
      | ((with_reducible refine at_later 106 ?_); (with_reducible refine DFT.run (unhide HhHi) (unhide HON) _ ?_); intro y__)
      | fail)
    all_goals exact unhide HK _ (hB _)
  · go_enter Oaag.func54, Oaag.ntmps54
    go_wp2_with (first
      | ((with_reducible refine at_later 67 ?_); refine Ret.run (fmtOk_ret 11 52 hf) _ ?_; rintro _ y__ rfl)
      | ((with_reducible refine at_later 39 ?_); refine Ret.run (decOk_ret _ d e h1 h2 hd) _ ?_; rintro _ y__ ⟨b__, rfl, hb__⟩; obtain rfl : b__ = true := hb__.2 hc; clear hb__)
      | ((with_reducible refine at_later 104 ?_); (with_reducible refine DFT.run (unhide HhSB) (unhide HON) _ ?_); intro y__)
      | ((with_reducible refine at_later 105 ?_); (with_reducible refine DFT.run (unhide HhMan) (unhide HON) _ ?_); intro y__)
      | ((with_reducible refine at_later 106 ?_); (with_reducible refine DFT.run (unhide HhLo) (unhide HON) _ ?_); intro y__)
      | ((with_reducible refine at_later 106 ?_); (with_reducible refine DFT.run (unhide HhHi) (unhide HON) _ ?_); intro y__)
      | fail)
    refine Go.LaxQ.region_guarded _ 9 3 [4, 5, 6] [(1, fun v => v = .agg #[.int .u8 11, .int .u8 52]), (7, fun v => v = .bool false)] [] (fun _ => True) (by kernel_rfl) (by kernel_rfl) (by kernel_rfl) (by kernel_rfl) trivial (fun _ _ _ _ => trivial) (fun _ h => by cases h) (List.forall_mem_cons.2 ⟨⟨_, rfl⟩, List.forall_mem_cons.2 ⟨⟨_, rfl⟩, fun _ h => by cases h⟩⟩) ?_
    (refine Go.LaxQ.walk_det rfl rfl rfl rfl rfl ?_; go_big_quiet_want; go_big_quiet_op; go_big_quiet_on; refine wpQuiet_nil ?_)
    refine Go.LaxQ.q_call rfl rfl rfl rfl (fun _ _ _ _ => trivial) ?_ (fun y K hI hG hK => by
        go_wp2_with fail
        refine fmt74_ret _ _ ?_
        rintro _ w' rfl hb
        have hh := Go.Proofs.YgcoaaGreat.NatW.hide (hK _ w' rfl trivial hb)
        clear hK
        go_wp2_with fail
        exact Eq.mp (by kernel_rfl) (Go.Proofs.YgcoaaGreat.NatW.unhide hh))
    rintro v9 rfl
    ((try dsimp only); go_big_quiet_want; go_big_quiet_op; go_big_quiet_on; refine wpQuiet_nil ?_)
    (refine Go.LaxQ.walk_det rfl rfl rfl rfl rfl ?_; go_big_quiet_want; go_big_quiet_op; go_big_quiet_on; refine wpQuiet_nil ?_)
    (refine Go.LaxQ.walk_det rfl rfl rfl rfl rfl ?_; go_big_quiet_want; go_big_quiet_op; go_big_quiet_on; refine wpQuiet_nil ?_)
    (refine Go.LaxQ.walk_skip_mv rfl rfl ?_; (try dsimp only); go_big_quiet_want; go_big_quiet_op; go_big_quiet_on; refine wpQuiet_nil ?_)
    (refine Go.LaxQ.walk_skip_mv rfl rfl ?_; (try dsimp only); go_big_quiet_want; go_big_quiet_op; go_big_quiet_on; refine wpQuiet_nil ?_)
    (refine Go.LaxQ.walk_skip_mv rfl rfl ?_; (try dsimp only); go_big_quiet_want; go_big_quiet_op; go_big_quiet_on; refine wpQuiet_nil ?_)
    refine Go.LaxQ.q_call rfl rfl rfl rfl (fun _ _ _ _ => trivial) ?_ (fun y K hI hG hK => by
        have HK := hide hK
        clear hK
        go_wp2_with fail
        exact unhide HK _ _ rfl trivial (Below.refl _ _))
    rintro v9 rfl
    ((try dsimp only); go_big_quiet_want; go_big_quiet_op; go_big_quiet_on; refine wpQuiet_nil ?_)
    (refine Go.LaxQ.walk_det rfl rfl rfl rfl rfl ?_; go_big_quiet_want; go_big_quiet_op; go_big_quiet_on; refine wpQuiet_nil ?_)
    refine Go.LaxQ.q_end ?_
    intro y hI hG
    clear hI hG
    go_wp2_with (first
      | ((with_reducible refine at_later 67 ?_); refine Ret.run (fmtOk_ret 11 52 hf) _ ?_; rintro _ y__ rfl)
      | ((with_reducible refine at_later 39 ?_); refine Ret.run (decOk_ret _ d e h1 h2 hd) _ ?_; rintro _ y__ ⟨b__, rfl, hb__⟩; obtain rfl : b__ = true := hb__.2 hc; clear hb__)
      | ((with_reducible refine at_later 104 ?_); (with_reducible refine DFT.run (unhide HhSB) (unhide HON) _ ?_); intro y__)
      | ((with_reducible refine at_later 105 ?_); (with_reducible refine DFT.run (unhide HhMan) (unhide HON) _ ?_); intro y__)
      | ((with_reducible refine at_later 106 ?_); (with_reducible refine DFT.run (unhide HhLo) (unhide HON) _ ?_); intro y__)
      | ((with_reducible refine at_later 106 ?_); (with_reducible refine DFT.run (unhide HhHi) (unhide HON) _ ?_); intro y__)
      | fail)
    all_goals exact unhide HK _ (hB _)
  · go_enter Oaag.func54, Oaag.ntmps54
    go_wp2_with (first
      | ((with_reducible refine at_later 67 ?_); refine Ret.run (fmtOk_ret 11 52 hf) _ ?_; rintro _ y__ rfl)
      | ((with_reducible refine at_later 39 ?_); refine Ret.run (decOk_ret _ d e h1 h2 hd) _ ?_; rintro _ y__ ⟨b__, rfl, hb__⟩; obtain rfl : b__ = true := hb__.2 hc; clear hb__)
      | ((with_reducible refine at_later 104 ?_); (with_reducible refine DFT.run (unhide HhSB) (unhide HON) _ ?_); intro y__)
      | ((with_reducible refine at_later 105 ?_); (with_reducible refine DFT.run (unhide HhMan) (unhide HON) _ ?_); intro y__)
      | ((with_reducible refine at_later 106 ?_); (with_reducible refine DFT.run (unhide HhLo) (unhide HON) _ ?_); intro y__)
      | ((with_reducible refine at_later 106 ?_); (with_reducible refine DFT.run (unhide HhHi) (unhide HON) _ ?_); intro y__)
      | fail)
    refine Go.LaxQ.region_guarded _ 9 3 [4, 5, 6] [(1, fun v => v = .agg #[.int .u8 11, .int .u8 52]), (7, fun v => v = .bool false)] [] (fun _ => True) (by kernel_rfl) (by kernel_rfl) (by kernel_rfl) (by kernel_rfl) trivial (fun _ _ _ _ => trivial) (fun _ h => by cases h) (List.forall_mem_cons.2 ⟨⟨_, rfl⟩, List.forall_mem_cons.2 ⟨⟨_, rfl⟩, fun _ h => by cases h⟩⟩) ?_
    (refine Go.LaxQ.walk_det rfl rfl rfl rfl rfl ?_; go_big_quiet_want; go_big_quiet_op; go_big_quiet_on; refine wpQuiet_nil ?_)
    refine Go.LaxQ.q_call rfl rfl rfl rfl (fun _ _ _ _ => trivial) ?_ (fun y K hI hG hK => by
        go_wp2_with fail
        refine fmt74_ret _ _ ?_
        rintro _ w' rfl hb
        have hh := Go.Proofs.YgcoaaGreat.NatW.hide (hK _ w' rfl trivial hb)
        clear hK
        go_wp2_with fail
        exact Eq.mp (by kernel_rfl) (Go.Proofs.YgcoaaGreat.NatW.unhide hh))
    rintro v9 rfl
    ((try dsimp only); go_big_quiet_want; go_big_quiet_op; go_big_quiet_on; refine wpQuiet_nil ?_)
    (refine Go.LaxQ.walk_det rfl rfl rfl rfl rfl ?_; go_big_quiet_want; go_big_quiet_op; go_big_quiet_on; refine wpQuiet_nil ?_)
    (refine Go.LaxQ.walk_det rfl rfl rfl rfl rfl ?_; go_big_quiet_want; go_big_quiet_op; go_big_quiet_on; refine wpQuiet_nil ?_)
    (refine Go.LaxQ.walk_skip_mv rfl rfl ?_; (try dsimp only); go_big_quiet_want; go_big_quiet_op; go_big_quiet_on; refine wpQuiet_nil ?_)
    (refine Go.LaxQ.walk_skip_mv rfl rfl ?_; (try dsimp only); go_big_quiet_want; go_big_quiet_op; go_big_quiet_on; refine wpQuiet_nil ?_)
    (refine Go.LaxQ.walk_skip_mv rfl rfl ?_; (try dsimp only); go_big_quiet_want; go_big_quiet_op; go_big_quiet_on; refine wpQuiet_nil ?_)
    refine Go.LaxQ.q_call rfl rfl rfl rfl (fun _ _ _ _ => trivial) ?_ (fun y K hI hG hK => by
        have HK := hide hK
        clear hK
        go_wp2_with fail
        exact unhide HK _ _ rfl trivial (Below.refl _ _))
    rintro v9 rfl
    ((try dsimp only); go_big_quiet_want; go_big_quiet_op; go_big_quiet_on; refine wpQuiet_nil ?_)
    (refine Go.LaxQ.walk_det rfl rfl rfl rfl rfl ?_; go_big_quiet_want; go_big_quiet_op; go_big_quiet_on; refine wpQuiet_nil ?_)
    refine Go.LaxQ.q_end ?_
    intro y hI hG
    clear hI hG
    go_wp2_with (first
      | ((with_reducible refine at_later 67 ?_); refine Ret.run (fmtOk_ret 11 52 hf) _ ?_; rintro _ y__ rfl)
      | ((with_reducible refine at_later 39 ?_); refine Ret.run (decOk_ret _ d e h1 h2 hd) _ ?_; rintro _ y__ ⟨b__, rfl, hb__⟩; obtain rfl : b__ = true := hb__.2 hc; clear hb__)
      | ((with_reducible refine at_later 104 ?_); (with_reducible refine DFT.run (unhide HhSB) (unhide HON) _ ?_); intro y__)
      | ((with_reducible refine at_later 105 ?_); (with_reducible refine DFT.run (unhide HhMan) (unhide HON) _ ?_); intro y__)
      | ((with_reducible refine at_later 106 ?_); (with_reducible refine DFT.run (unhide HhLo) (unhide HON) _ ?_); intro y__)
      | ((with_reducible refine at_later 106 ?_); (with_reducible refine DFT.run (unhide HhHi) (unhide HON) _ ?_); intro y__)
      | fail)
    all_goals exact unhide HK _ (hB _)
  · go_enter Oaag.func54, Oaag.ntmps54
    go_wp2_with (first
      | ((with_reducible refine at_later 67 ?_); refine Ret.run (fmtOk_ret 11 52 hf) _ ?_; rintro _ y__ rfl)
      | ((with_reducible refine at_later 39 ?_); refine Ret.run (decOk_ret _ d e h1 h2 hd) _ ?_; rintro _ y__ ⟨b__, rfl, hb__⟩; obtain rfl : b__ = true := hb__.2 hc; clear hb__)
      | ((with_reducible refine at_later 104 ?_); (with_reducible refine DFT.run (unhide HhSB) (unhide HON) _ ?_); intro y__)
      | ((with_reducible refine at_later 105 ?_); (with_reducible refine DFT.run (unhide HhMan) (unhide HON) _ ?_); intro y__)
      | ((with_reducible refine at_later 106 ?_); (with_reducible refine DFT.run (unhide HhLo) (unhide HON) _ ?_); intro y__)
      | ((with_reducible refine at_later 106 ?_); (with_reducible refine DFT.run (unhide HhHi) (unhide HON) _ ?_); intro y__)
      | fail)
    refine Go.LaxQ.region_guarded _ 9 3 [4, 5, 6] [(1, fun v => v = .agg #[.int .u8 11, .int .u8 52]), (7, fun v => v = .bool false)] [] (fun _ => True) (by kernel_rfl) (by kernel_rfl) (by kernel_rfl) (by kernel_rfl) trivial (fun _ _ _ _ => trivial) (fun _ h => by cases h) (List.forall_mem_cons.2 ⟨⟨_, rfl⟩, List.forall_mem_cons.2 ⟨⟨_, rfl⟩, fun _ h => by cases h⟩⟩) ?_
    (refine Go.LaxQ.walk_det rfl rfl rfl rfl rfl ?_; go_big_quiet_want; go_big_quiet_op; go_big_quiet_on; refine wpQuiet_nil ?_)
    refine Go.LaxQ.q_call rfl rfl rfl rfl (fun _ _ _ _ => trivial) ?_ (fun y K hI hG hK => by
        go_wp2_with fail
        refine fmt74_ret _ _ ?_
        rintro _ w' rfl hb
        have hh := Go.Proofs.YgcoaaGreat.NatW.hide (hK _ w' rfl trivial hb)
        clear hK
        go_wp2_with fail
        exact Eq.mp (by kernel_rfl) (Go.Proofs.YgcoaaGreat.NatW.unhide hh))
    rintro v9 rfl
    ((try dsimp only); go_big_quiet_want; go_big_quiet_op; go_big_quiet_on; refine wpQuiet_nil ?_)
    (refine Go.LaxQ.walk_det rfl rfl rfl rfl rfl ?_; go_big_quiet_want; go_big_quiet_op; go_big_quiet_on; refine wpQuiet_nil ?_)
    (refine Go.LaxQ.walk_det rfl rfl rfl rfl rfl ?_; go_big_quiet_want; go_big_quiet_op; go_big_quiet_on; refine wpQuiet_nil ?_)
    (refine Go.LaxQ.walk_skip_mv rfl rfl ?_; (try dsimp only); go_big_quiet_want; go_big_quiet_op; go_big_quiet_on; refine wpQuiet_nil ?_)
    (refine Go.LaxQ.walk_skip_mv rfl rfl ?_; (try dsimp only); go_big_quiet_want; go_big_quiet_op; go_big_quiet_on; refine wpQuiet_nil ?_)
    (refine Go.LaxQ.walk_skip_mv rfl rfl ?_; (try dsimp only); go_big_quiet_want; go_big_quiet_op; go_big_quiet_on; refine wpQuiet_nil ?_)
    refine Go.LaxQ.q_call rfl rfl rfl rfl (fun _ _ _ _ => trivial) ?_ (fun y K hI hG hK => by
        have HK := hide hK
        clear hK
        go_wp2_with fail
        exact unhide HK _ _ rfl trivial (Below.refl _ _))
    rintro v9 rfl
    ((try dsimp only); go_big_quiet_want; go_big_quiet_op; go_big_quiet_on; refine wpQuiet_nil ?_)
    (refine Go.LaxQ.walk_det rfl rfl rfl rfl rfl ?_; go_big_quiet_want; go_big_quiet_op; go_big_quiet_on; refine wpQuiet_nil ?_)
    refine Go.LaxQ.q_end ?_
    intro y hI hG
    clear hI hG
    go_wp2_with (first
      | ((with_reducible refine at_later 67 ?_); refine Ret.run (fmtOk_ret 11 52 hf) _ ?_; rintro _ y__ rfl)
      | ((with_reducible refine at_later 39 ?_); refine Ret.run (decOk_ret _ d e h1 h2 hd) _ ?_; rintro _ y__ ⟨b__, rfl, hb__⟩; obtain rfl : b__ = true := hb__.2 hc; clear hb__)
      | ((with_reducible refine at_later 104 ?_); (with_reducible refine DFT.run (unhide HhSB) (unhide HON) _ ?_); intro y__)
      | ((with_reducible refine at_later 105 ?_); (with_reducible refine DFT.run (unhide HhMan) (unhide HON) _ ?_); intro y__)
      | ((with_reducible refine at_later 106 ?_); (with_reducible refine DFT.run (unhide HhLo) (unhide HON) _ ?_); intro y__)
      | ((with_reducible refine at_later 106 ?_); (with_reducible refine DFT.run (unhide HhHi) (unhide HON) _ ?_); intro y__)
      | fail)
    all_goals exact unhide HK _ (hB _)

set_option maxHeartbeats 4000000 in
theorem pl_54_11_L1 (md : Int) (hmd : md = 0 ∨ 4 < md) (n : Bool) (d : ByteArray) (e : Int) (h1 : -32768 ≤ e) (h2 : e ≤ 32767) (hd : d.size ≤ 1000000) (hc : Canon d e) (hz : ¬ d.size = 0) (fast : Bool) (sb : Int) (tb : Nat) (hSB : DFT tb 104 #[.agg #[.int .u8 11, .int .u8 52]] (.int .u64 sb)) (h19 : 19 < d.size) (man : Int) (hMan : DFT tb 105 #[.string d] (.int .u64 man)) (lo : Int) (okl : Bool) (hi : Int) (okh : Bool) (hLo : DFT tb 106 #[.pointer (some ⟨tb, 0, none⟩), .agg #[.int .u8 11, .int .u8 52], .int .u64 man, .int .i16 (e + ((d.size : Int) - 19))] (.tuple #[.int .u64 lo, .bool okl])) (hHi : DFT tb 106 #[.pointer (some ⟨tb, 0, none⟩), .agg #[.int .u8 11, .int .u8 52], .int .u64 (IntKind.u64.wrap (man + 1)), .int .i16 (e + ((d.size : Int) - 19))] (.tuple #[.int .u64 hi, .bool okh])) (hl : okl = false) (r : Int) (hSl : DFT tb 59 #[.agg #[.int .u8 11, .int .u8 52], .int .u8 md, .agg #[.bool n, .string d, .int .i16 e]] (.int .u64 r)) : DFT tb 54 #[.pointer (some ⟨tb, 0, none⟩), fmt 11 52, .int .u8 md, .agg #[.bool n, .string d, .int .i16 e], .bool fast] (.tuple #[.int .u64 r, .int .u8 4]) := by
  intro w K ho hK
  have hf : fok 11 52 = true := rfl
  have hsz : d.size ≤ 800 := by rcases hc with h | h <;> omega
  have he1 : -2000 ≤ e ∧ e ≤ 2000 := by rcases hc with h | h <;> omega
  have hz' : ((d.size : Int) == 0) = false := beq_eq_false_iff_ne.2 (by omega)
  have HK := hide hK
  clear hK
  obtain ⟨wb, x0, hwb, r0, r1, hB, hZ⟩ := boxes2 w #[.int .u8 11, .int .u8 52] #[.bool n, .string d, .int .i16 e] 23 74
  have c00 : ∀ x : Later wb, _ = some (.int .u8 11 : Value) := Later.cell r0 0 _ rfl
  have c01 : ∀ x : Later wb, _ = some (.int .u8 52 : Value) := Later.cell r0 1 _ rfl
  have c10 : ∀ x : Later wb, _ = some (.bool n : Value) := Later.cell r1 0 _ rfl
  have c11 : ∀ x : Later wb, _ = some (.string d : Value) := Later.cell r1 1 _ rfl
  have c12 : ∀ x : Later wb, _ = some (.int .i16 e : Value) := Later.cell r1 2 _ rfl
  have hne : Nonempty (Later wb) := ⟨x0⟩
  have hon : ∀ y : Later wb, On tb y.at_ := fun y => ho.later (hB y)
  have HON := hide hon
  have HhSB := hide hSB
  have HhMan := hide hMan
  have HhLo := hide hLo
  have HhHi := hide hHi
  have HhSl := hide hSl
  clear ho hon r0 r1 hSB hMan hLo hHi hSl
  have hmz : ∃ zb : Bool, (md != 0) = zb ∧ (zb = true → decide (md ≤ 4) = false) := by
    rcases hmd with rfl | h
    · exact ⟨false, rfl, fun h => by cases h⟩
    · exact ⟨true, by simp; omega, fun _ => by simp; omega⟩
  obtain ⟨zb, hzb, hz4⟩ := hmz
  clear hmd
  cases n <;> cases zb
  all_goals
    first
    | (have hz5 := hz4 rfl; clear hz4)
    | clear hz4
  · go_enter Oaag.func54, Oaag.ntmps54
    go_wp2_with (first
      | ((with_reducible refine at_later 67 ?_); refine Ret.run (fmtOk_ret 11 52 hf) _ ?_; rintro _ y__ rfl)
      | ((with_reducible refine at_later 39 ?_); refine Ret.run (decOk_ret _ d e h1 h2 hd) _ ?_; rintro _ y__ ⟨b__, rfl, hb__⟩; obtain rfl : b__ = true := hb__.2 hc; clear hb__)
      | ((with_reducible refine at_later 104 ?_); (with_reducible refine DFT.run (unhide HhSB) (unhide HON) _ ?_); intro y__)
      | ((with_reducible refine at_later 105 ?_); (with_reducible refine DFT.run (unhide HhMan) (unhide HON) _ ?_); intro y__)
      | ((with_reducible refine at_later 106 ?_); (with_reducible refine DFT.run (unhide HhLo) (unhide HON) _ ?_); intro y__)
      | ((with_reducible refine at_later 106 ?_); (with_reducible refine DFT.run (unhide HhHi) (unhide HON) _ ?_); intro y__)
      | ((with_reducible refine at_later 59 ?_); (with_reducible refine DFT.run (unhide HhSl) (unhide HON) _ ?_); intro y__)
      | fail)
    refine Go.LaxQ.region_guarded _ 9 3 [4, 5, 6] [(1, fun v => v = .agg #[.int .u8 11, .int .u8 52]), (7, fun v => v = .bool false)] [] (fun _ => True) (by kernel_rfl) (by kernel_rfl) (by kernel_rfl) (by kernel_rfl) trivial (fun _ _ _ _ => trivial) (fun _ h => by cases h) (List.forall_mem_cons.2 ⟨⟨_, rfl⟩, List.forall_mem_cons.2 ⟨⟨_, rfl⟩, fun _ h => by cases h⟩⟩) ?_
    (refine Go.LaxQ.walk_det rfl rfl rfl rfl rfl ?_; go_big_quiet_want; go_big_quiet_op; go_big_quiet_on; refine wpQuiet_nil ?_)
    refine Go.LaxQ.q_call rfl rfl rfl rfl (fun _ _ _ _ => trivial) ?_ (fun y K hI hG hK => by
        go_wp2_with fail
        refine fmt74_ret _ _ ?_
        rintro _ w' rfl hb
        have hh := Go.Proofs.YgcoaaGreat.NatW.hide (hK _ w' rfl trivial hb)
        clear hK
        go_wp2_with fail
        exact Eq.mp (by kernel_rfl) (Go.Proofs.YgcoaaGreat.NatW.unhide hh))
    rintro v9 rfl
    ((try dsimp only); go_big_quiet_want; go_big_quiet_op; go_big_quiet_on; refine wpQuiet_nil ?_)
    (refine Go.LaxQ.walk_det rfl rfl rfl rfl rfl ?_; go_big_quiet_want; go_big_quiet_op; go_big_quiet_on; refine wpQuiet_nil ?_)
    (refine Go.LaxQ.walk_det rfl rfl rfl rfl rfl ?_; go_big_quiet_want; go_big_quiet_op; go_big_quiet_on; refine wpQuiet_nil ?_)
    (refine Go.LaxQ.walk_skip_mv rfl rfl ?_; (try dsimp only); go_big_quiet_want; go_big_quiet_op; go_big_quiet_on; refine wpQuiet_nil ?_)
    (refine Go.LaxQ.walk_skip_mv rfl rfl ?_; (try dsimp only); go_big_quiet_want; go_big_quiet_op; go_big_quiet_on; refine wpQuiet_nil ?_)
    (refine Go.LaxQ.walk_skip_mv rfl rfl ?_; (try dsimp only); go_big_quiet_want; go_big_quiet_op; go_big_quiet_on; refine wpQuiet_nil ?_)
    refine Go.LaxQ.q_call rfl rfl rfl rfl (fun _ _ _ _ => trivial) ?_ (fun y K hI hG hK => by
        have HK := hide hK
        clear hK
        go_wp2_with fail
        exact unhide HK _ _ rfl trivial (Below.refl _ _))
    rintro v9 rfl
    ((try dsimp only); go_big_quiet_want; go_big_quiet_op; go_big_quiet_on; refine wpQuiet_nil ?_)
    (refine Go.LaxQ.walk_det rfl rfl rfl rfl rfl ?_; go_big_quiet_want; go_big_quiet_op; go_big_quiet_on; refine wpQuiet_nil ?_)
    refine Go.LaxQ.q_end ?_
    intro y hI hG
    clear hI hG
    go_wp2_with (first
      | ((with_reducible refine at_later 67 ?_); refine Ret.run (fmtOk_ret 11 52 hf) _ ?_; rintro _ y__ rfl)
      | ((with_reducible refine at_later 39 ?_); refine Ret.run (decOk_ret _ d e h1 h2 hd) _ ?_; rintro _ y__ ⟨b__, rfl, hb__⟩; obtain rfl : b__ = true := hb__.2 hc; clear hb__)
      | ((with_reducible refine at_later 104 ?_); (with_reducible refine DFT.run (unhide HhSB) (unhide HON) _ ?_); intro y__)
      | ((with_reducible refine at_later 105 ?_); (with_reducible refine DFT.run (unhide HhMan) (unhide HON) _ ?_); intro y__)
      | ((with_reducible refine at_later 106 ?_); (with_reducible refine DFT.run (unhide HhLo) (unhide HON) _ ?_); intro y__)
      | ((with_reducible refine at_later 106 ?_); (with_reducible refine DFT.run (unhide HhHi) (unhide HON) _ ?_); intro y__)
      | ((with_reducible refine at_later 59 ?_); (with_reducible refine DFT.run (unhide HhSl) (unhide HON) _ ?_); intro y__)
      | fail)
    all_goals exact unhide HK _ (hB _)
  · go_enter Oaag.func54, Oaag.ntmps54
    go_wp2_with (first
      | ((with_reducible refine at_later 67 ?_); refine Ret.run (fmtOk_ret 11 52 hf) _ ?_; rintro _ y__ rfl)
      | ((with_reducible refine at_later 39 ?_); refine Ret.run (decOk_ret _ d e h1 h2 hd) _ ?_; rintro _ y__ ⟨b__, rfl, hb__⟩; obtain rfl : b__ = true := hb__.2 hc; clear hb__)
      | ((with_reducible refine at_later 104 ?_); (with_reducible refine DFT.run (unhide HhSB) (unhide HON) _ ?_); intro y__)
      | ((with_reducible refine at_later 105 ?_); (with_reducible refine DFT.run (unhide HhMan) (unhide HON) _ ?_); intro y__)
      | ((with_reducible refine at_later 106 ?_); (with_reducible refine DFT.run (unhide HhLo) (unhide HON) _ ?_); intro y__)
      | ((with_reducible refine at_later 106 ?_); (with_reducible refine DFT.run (unhide HhHi) (unhide HON) _ ?_); intro y__)
      | ((with_reducible refine at_later 59 ?_); (with_reducible refine DFT.run (unhide HhSl) (unhide HON) _ ?_); intro y__)
      | fail)
    refine Go.LaxQ.region_guarded _ 9 3 [4, 5, 6] [(1, fun v => v = .agg #[.int .u8 11, .int .u8 52]), (7, fun v => v = .bool false)] [] (fun _ => True) (by kernel_rfl) (by kernel_rfl) (by kernel_rfl) (by kernel_rfl) trivial (fun _ _ _ _ => trivial) (fun _ h => by cases h) (List.forall_mem_cons.2 ⟨⟨_, rfl⟩, List.forall_mem_cons.2 ⟨⟨_, rfl⟩, fun _ h => by cases h⟩⟩) ?_
    (refine Go.LaxQ.walk_det rfl rfl rfl rfl rfl ?_; go_big_quiet_want; go_big_quiet_op; go_big_quiet_on; refine wpQuiet_nil ?_)
    refine Go.LaxQ.q_call rfl rfl rfl rfl (fun _ _ _ _ => trivial) ?_ (fun y K hI hG hK => by
        go_wp2_with fail
        refine fmt74_ret _ _ ?_
        rintro _ w' rfl hb
        have hh := Go.Proofs.YgcoaaGreat.NatW.hide (hK _ w' rfl trivial hb)
        clear hK
        go_wp2_with fail
        exact Eq.mp (by kernel_rfl) (Go.Proofs.YgcoaaGreat.NatW.unhide hh))
    rintro v9 rfl
    ((try dsimp only); go_big_quiet_want; go_big_quiet_op; go_big_quiet_on; refine wpQuiet_nil ?_)
    (refine Go.LaxQ.walk_det rfl rfl rfl rfl rfl ?_; go_big_quiet_want; go_big_quiet_op; go_big_quiet_on; refine wpQuiet_nil ?_)
    (refine Go.LaxQ.walk_det rfl rfl rfl rfl rfl ?_; go_big_quiet_want; go_big_quiet_op; go_big_quiet_on; refine wpQuiet_nil ?_)
    (refine Go.LaxQ.walk_skip_mv rfl rfl ?_; (try dsimp only); go_big_quiet_want; go_big_quiet_op; go_big_quiet_on; refine wpQuiet_nil ?_)
    (refine Go.LaxQ.walk_skip_mv rfl rfl ?_; (try dsimp only); go_big_quiet_want; go_big_quiet_op; go_big_quiet_on; refine wpQuiet_nil ?_)
    (refine Go.LaxQ.walk_skip_mv rfl rfl ?_; (try dsimp only); go_big_quiet_want; go_big_quiet_op; go_big_quiet_on; refine wpQuiet_nil ?_)
    refine Go.LaxQ.q_call rfl rfl rfl rfl (fun _ _ _ _ => trivial) ?_ (fun y K hI hG hK => by
        have HK := hide hK
        clear hK
        go_wp2_with fail
        exact unhide HK _ _ rfl trivial (Below.refl _ _))
    rintro v9 rfl
    ((try dsimp only); go_big_quiet_want; go_big_quiet_op; go_big_quiet_on; refine wpQuiet_nil ?_)
    (refine Go.LaxQ.walk_det rfl rfl rfl rfl rfl ?_; go_big_quiet_want; go_big_quiet_op; go_big_quiet_on; refine wpQuiet_nil ?_)
    refine Go.LaxQ.q_end ?_
    intro y hI hG
    clear hI hG
    go_wp2_with (first
      | ((with_reducible refine at_later 67 ?_); refine Ret.run (fmtOk_ret 11 52 hf) _ ?_; rintro _ y__ rfl)
      | ((with_reducible refine at_later 39 ?_); refine Ret.run (decOk_ret _ d e h1 h2 hd) _ ?_; rintro _ y__ ⟨b__, rfl, hb__⟩; obtain rfl : b__ = true := hb__.2 hc; clear hb__)
      | ((with_reducible refine at_later 104 ?_); (with_reducible refine DFT.run (unhide HhSB) (unhide HON) _ ?_); intro y__)
      | ((with_reducible refine at_later 105 ?_); (with_reducible refine DFT.run (unhide HhMan) (unhide HON) _ ?_); intro y__)
      | ((with_reducible refine at_later 106 ?_); (with_reducible refine DFT.run (unhide HhLo) (unhide HON) _ ?_); intro y__)
      | ((with_reducible refine at_later 106 ?_); (with_reducible refine DFT.run (unhide HhHi) (unhide HON) _ ?_); intro y__)
      | ((with_reducible refine at_later 59 ?_); (with_reducible refine DFT.run (unhide HhSl) (unhide HON) _ ?_); intro y__)
      | fail)
    all_goals exact unhide HK _ (hB _)
  · go_enter Oaag.func54, Oaag.ntmps54
    go_wp2_with (first
      | ((with_reducible refine at_later 67 ?_); refine Ret.run (fmtOk_ret 11 52 hf) _ ?_; rintro _ y__ rfl)
      | ((with_reducible refine at_later 39 ?_); refine Ret.run (decOk_ret _ d e h1 h2 hd) _ ?_; rintro _ y__ ⟨b__, rfl, hb__⟩; obtain rfl : b__ = true := hb__.2 hc; clear hb__)
      | ((with_reducible refine at_later 104 ?_); (with_reducible refine DFT.run (unhide HhSB) (unhide HON) _ ?_); intro y__)
      | ((with_reducible refine at_later 105 ?_); (with_reducible refine DFT.run (unhide HhMan) (unhide HON) _ ?_); intro y__)
      | ((with_reducible refine at_later 106 ?_); (with_reducible refine DFT.run (unhide HhLo) (unhide HON) _ ?_); intro y__)
      | ((with_reducible refine at_later 106 ?_); (with_reducible refine DFT.run (unhide HhHi) (unhide HON) _ ?_); intro y__)
      | ((with_reducible refine at_later 59 ?_); (with_reducible refine DFT.run (unhide HhSl) (unhide HON) _ ?_); intro y__)
      | fail)
    refine Go.LaxQ.region_guarded _ 9 3 [4, 5, 6] [(1, fun v => v = .agg #[.int .u8 11, .int .u8 52]), (7, fun v => v = .bool false)] [] (fun _ => True) (by kernel_rfl) (by kernel_rfl) (by kernel_rfl) (by kernel_rfl) trivial (fun _ _ _ _ => trivial) (fun _ h => by cases h) (List.forall_mem_cons.2 ⟨⟨_, rfl⟩, List.forall_mem_cons.2 ⟨⟨_, rfl⟩, fun _ h => by cases h⟩⟩) ?_
    (refine Go.LaxQ.walk_det rfl rfl rfl rfl rfl ?_; go_big_quiet_want; go_big_quiet_op; go_big_quiet_on; refine wpQuiet_nil ?_)
    refine Go.LaxQ.q_call rfl rfl rfl rfl (fun _ _ _ _ => trivial) ?_ (fun y K hI hG hK => by
        go_wp2_with fail
        refine fmt74_ret _ _ ?_
        rintro _ w' rfl hb
        have hh := Go.Proofs.YgcoaaGreat.NatW.hide (hK _ w' rfl trivial hb)
        clear hK
        go_wp2_with fail
        exact Eq.mp (by kernel_rfl) (Go.Proofs.YgcoaaGreat.NatW.unhide hh))
    rintro v9 rfl
    ((try dsimp only); go_big_quiet_want; go_big_quiet_op; go_big_quiet_on; refine wpQuiet_nil ?_)
    (refine Go.LaxQ.walk_det rfl rfl rfl rfl rfl ?_; go_big_quiet_want; go_big_quiet_op; go_big_quiet_on; refine wpQuiet_nil ?_)
    (refine Go.LaxQ.walk_det rfl rfl rfl rfl rfl ?_; go_big_quiet_want; go_big_quiet_op; go_big_quiet_on; refine wpQuiet_nil ?_)
    (refine Go.LaxQ.walk_skip_mv rfl rfl ?_; (try dsimp only); go_big_quiet_want; go_big_quiet_op; go_big_quiet_on; refine wpQuiet_nil ?_)
    (refine Go.LaxQ.walk_skip_mv rfl rfl ?_; (try dsimp only); go_big_quiet_want; go_big_quiet_op; go_big_quiet_on; refine wpQuiet_nil ?_)
    (refine Go.LaxQ.walk_skip_mv rfl rfl ?_; (try dsimp only); go_big_quiet_want; go_big_quiet_op; go_big_quiet_on; refine wpQuiet_nil ?_)
    refine Go.LaxQ.q_call rfl rfl rfl rfl (fun _ _ _ _ => trivial) ?_ (fun y K hI hG hK => by
        have HK := hide hK
        clear hK
        go_wp2_with fail
        exact unhide HK _ _ rfl trivial (Below.refl _ _))
    rintro v9 rfl
    ((try dsimp only); go_big_quiet_want; go_big_quiet_op; go_big_quiet_on; refine wpQuiet_nil ?_)
    (refine Go.LaxQ.walk_det rfl rfl rfl rfl rfl ?_; go_big_quiet_want; go_big_quiet_op; go_big_quiet_on; refine wpQuiet_nil ?_)
    refine Go.LaxQ.q_end ?_
    intro y hI hG
    clear hI hG
    go_wp2_with (first
      | ((with_reducible refine at_later 67 ?_); refine Ret.run (fmtOk_ret 11 52 hf) _ ?_; rintro _ y__ rfl)
      | ((with_reducible refine at_later 39 ?_); refine Ret.run (decOk_ret _ d e h1 h2 hd) _ ?_; rintro _ y__ ⟨b__, rfl, hb__⟩; obtain rfl : b__ = true := hb__.2 hc; clear hb__)
      | ((with_reducible refine at_later 104 ?_); (with_reducible refine DFT.run (unhide HhSB) (unhide HON) _ ?_); intro y__)
      | ((with_reducible refine at_later 105 ?_); (with_reducible refine DFT.run (unhide HhMan) (unhide HON) _ ?_); intro y__)
      | ((with_reducible refine at_later 106 ?_); (with_reducible refine DFT.run (unhide HhLo) (unhide HON) _ ?_); intro y__)
      | ((with_reducible refine at_later 106 ?_); (with_reducible refine DFT.run (unhide HhHi) (unhide HON) _ ?_); intro y__)
      | ((with_reducible refine at_later 59 ?_); (with_reducible refine DFT.run (unhide HhSl) (unhide HON) _ ?_); intro y__)
      | fail)
    all_goals exact unhide HK _ (hB _)
  · go_enter Oaag.func54, Oaag.ntmps54
    go_wp2_with (first
      | ((with_reducible refine at_later 67 ?_); refine Ret.run (fmtOk_ret 11 52 hf) _ ?_; rintro _ y__ rfl)
      | ((with_reducible refine at_later 39 ?_); refine Ret.run (decOk_ret _ d e h1 h2 hd) _ ?_; rintro _ y__ ⟨b__, rfl, hb__⟩; obtain rfl : b__ = true := hb__.2 hc; clear hb__)
      | ((with_reducible refine at_later 104 ?_); (with_reducible refine DFT.run (unhide HhSB) (unhide HON) _ ?_); intro y__)
      | ((with_reducible refine at_later 105 ?_); (with_reducible refine DFT.run (unhide HhMan) (unhide HON) _ ?_); intro y__)
      | ((with_reducible refine at_later 106 ?_); (with_reducible refine DFT.run (unhide HhLo) (unhide HON) _ ?_); intro y__)
      | ((with_reducible refine at_later 106 ?_); (with_reducible refine DFT.run (unhide HhHi) (unhide HON) _ ?_); intro y__)
      | ((with_reducible refine at_later 59 ?_); (with_reducible refine DFT.run (unhide HhSl) (unhide HON) _ ?_); intro y__)
      | fail)
    refine Go.LaxQ.region_guarded _ 9 3 [4, 5, 6] [(1, fun v => v = .agg #[.int .u8 11, .int .u8 52]), (7, fun v => v = .bool false)] [] (fun _ => True) (by kernel_rfl) (by kernel_rfl) (by kernel_rfl) (by kernel_rfl) trivial (fun _ _ _ _ => trivial) (fun _ h => by cases h) (List.forall_mem_cons.2 ⟨⟨_, rfl⟩, List.forall_mem_cons.2 ⟨⟨_, rfl⟩, fun _ h => by cases h⟩⟩) ?_
    (refine Go.LaxQ.walk_det rfl rfl rfl rfl rfl ?_; go_big_quiet_want; go_big_quiet_op; go_big_quiet_on; refine wpQuiet_nil ?_)
    refine Go.LaxQ.q_call rfl rfl rfl rfl (fun _ _ _ _ => trivial) ?_ (fun y K hI hG hK => by
        go_wp2_with fail
        refine fmt74_ret _ _ ?_
        rintro _ w' rfl hb
        have hh := Go.Proofs.YgcoaaGreat.NatW.hide (hK _ w' rfl trivial hb)
        clear hK
        go_wp2_with fail
        exact Eq.mp (by kernel_rfl) (Go.Proofs.YgcoaaGreat.NatW.unhide hh))
    rintro v9 rfl
    ((try dsimp only); go_big_quiet_want; go_big_quiet_op; go_big_quiet_on; refine wpQuiet_nil ?_)
    (refine Go.LaxQ.walk_det rfl rfl rfl rfl rfl ?_; go_big_quiet_want; go_big_quiet_op; go_big_quiet_on; refine wpQuiet_nil ?_)
    (refine Go.LaxQ.walk_det rfl rfl rfl rfl rfl ?_; go_big_quiet_want; go_big_quiet_op; go_big_quiet_on; refine wpQuiet_nil ?_)
    (refine Go.LaxQ.walk_skip_mv rfl rfl ?_; (try dsimp only); go_big_quiet_want; go_big_quiet_op; go_big_quiet_on; refine wpQuiet_nil ?_)
    (refine Go.LaxQ.walk_skip_mv rfl rfl ?_; (try dsimp only); go_big_quiet_want; go_big_quiet_op; go_big_quiet_on; refine wpQuiet_nil ?_)
    (refine Go.LaxQ.walk_skip_mv rfl rfl ?_; (try dsimp only); go_big_quiet_want; go_big_quiet_op; go_big_quiet_on; refine wpQuiet_nil ?_)
    refine Go.LaxQ.q_call rfl rfl rfl rfl (fun _ _ _ _ => trivial) ?_ (fun y K hI hG hK => by
        have HK := hide hK
        clear hK
        go_wp2_with fail
        exact unhide HK _ _ rfl trivial (Below.refl _ _))
    rintro v9 rfl
    ((try dsimp only); go_big_quiet_want; go_big_quiet_op; go_big_quiet_on; refine wpQuiet_nil ?_)
    (refine Go.LaxQ.walk_det rfl rfl rfl rfl rfl ?_; go_big_quiet_want; go_big_quiet_op; go_big_quiet_on; refine wpQuiet_nil ?_)
    refine Go.LaxQ.q_end ?_
    intro y hI hG
    clear hI hG
    go_wp2_with (first
      | ((with_reducible refine at_later 67 ?_); refine Ret.run (fmtOk_ret 11 52 hf) _ ?_; rintro _ y__ rfl)
      | ((with_reducible refine at_later 39 ?_); refine Ret.run (decOk_ret _ d e h1 h2 hd) _ ?_; rintro _ y__ ⟨b__, rfl, hb__⟩; obtain rfl : b__ = true := hb__.2 hc; clear hb__)
      | ((with_reducible refine at_later 104 ?_); (with_reducible refine DFT.run (unhide HhSB) (unhide HON) _ ?_); intro y__)
      | ((with_reducible refine at_later 105 ?_); (with_reducible refine DFT.run (unhide HhMan) (unhide HON) _ ?_); intro y__)
      | ((with_reducible refine at_later 106 ?_); (with_reducible refine DFT.run (unhide HhLo) (unhide HON) _ ?_); intro y__)
      | ((with_reducible refine at_later 106 ?_); (with_reducible refine DFT.run (unhide HhHi) (unhide HON) _ ?_); intro y__)
      | ((with_reducible refine at_later 59 ?_); (with_reducible refine DFT.run (unhide HhSl) (unhide HON) _ ?_); intro y__)
      | fail)
    all_goals exact unhide HK _ (hB _)

set_option maxHeartbeats 4000000 in
theorem pl_54_11_L2 (md : Int) (hmd : md = 0 ∨ 4 < md) (n : Bool) (d : ByteArray) (e : Int) (h1 : -32768 ≤ e) (h2 : e ≤ 32767) (hd : d.size ≤ 1000000) (hc : Canon d e) (hz : ¬ d.size = 0) (fast : Bool) (sb : Int) (tb : Nat) (hSB : DFT tb 104 #[.agg #[.int .u8 11, .int .u8 52]] (.int .u64 sb)) (h19 : 19 < d.size) (man : Int) (hMan : DFT tb 105 #[.string d] (.int .u64 man)) (lo : Int) (okl : Bool) (hi : Int) (okh : Bool) (hLo : DFT tb 106 #[.pointer (some ⟨tb, 0, none⟩), .agg #[.int .u8 11, .int .u8 52], .int .u64 man, .int .i16 (e + ((d.size : Int) - 19))] (.tuple #[.int .u64 lo, .bool okl])) (hHi : DFT tb 106 #[.pointer (some ⟨tb, 0, none⟩), .agg #[.int .u8 11, .int .u8 52], .int .u64 (IntKind.u64.wrap (man + 1)), .int .i16 (e + ((d.size : Int) - 19))] (.tuple #[.int .u64 hi, .bool okh])) (hl : okl = true) (hh : okh = false) (r : Int) (hSl : DFT tb 59 #[.agg #[.int .u8 11, .int .u8 52], .int .u8 md, .agg #[.bool n, .string d, .int .i16 e]] (.int .u64 r)) : DFT tb 54 #[.pointer (some ⟨tb, 0, none⟩), fmt 11 52, .int .u8 md, .agg #[.bool n, .string d, .int .i16 e], .bool fast] (.tuple #[.int .u64 r, .int .u8 4]) := by
  intro w K ho hK
  have hf : fok 11 52 = true := rfl
  have hsz : d.size ≤ 800 := by rcases hc with h | h <;> omega
  have he1 : -2000 ≤ e ∧ e ≤ 2000 := by rcases hc with h | h <;> omega
  have hz' : ((d.size : Int) == 0) = false := beq_eq_false_iff_ne.2 (by omega)
  have HK := hide hK
  clear hK
  obtain ⟨wb, x0, hwb, r0, r1, hB, hZ⟩ := boxes2 w #[.int .u8 11, .int .u8 52] #[.bool n, .string d, .int .i16 e] 23 74
  have c00 : ∀ x : Later wb, _ = some (.int .u8 11 : Value) := Later.cell r0 0 _ rfl
  have c01 : ∀ x : Later wb, _ = some (.int .u8 52 : Value) := Later.cell r0 1 _ rfl
  have c10 : ∀ x : Later wb, _ = some (.bool n : Value) := Later.cell r1 0 _ rfl
  have c11 : ∀ x : Later wb, _ = some (.string d : Value) := Later.cell r1 1 _ rfl
  have c12 : ∀ x : Later wb, _ = some (.int .i16 e : Value) := Later.cell r1 2 _ rfl
  have hne : Nonempty (Later wb) := ⟨x0⟩
  have hon : ∀ y : Later wb, On tb y.at_ := fun y => ho.later (hB y)
  have HON := hide hon
  have HhSB := hide hSB
  have HhMan := hide hMan
  have HhLo := hide hLo
  have HhHi := hide hHi
  have HhSl := hide hSl
  clear ho hon r0 r1 hSB hMan hLo hHi hSl
  have hmz : ∃ zb : Bool, (md != 0) = zb ∧ (zb = true → decide (md ≤ 4) = false) := by
    rcases hmd with rfl | h
    · exact ⟨false, rfl, fun h => by cases h⟩
    · exact ⟨true, by simp; omega, fun _ => by simp; omega⟩
  obtain ⟨zb, hzb, hz4⟩ := hmz
  clear hmd
  cases n <;> cases zb
  all_goals
    first
    | (have hz5 := hz4 rfl; clear hz4)
    | clear hz4
  · go_enter Oaag.func54, Oaag.ntmps54
    go_wp2_with (first
      | ((with_reducible refine at_later 67 ?_); refine Ret.run (fmtOk_ret 11 52 hf) _ ?_; rintro _ y__ rfl)
      | ((with_reducible refine at_later 39 ?_); refine Ret.run (decOk_ret _ d e h1 h2 hd) _ ?_; rintro _ y__ ⟨b__, rfl, hb__⟩; obtain rfl : b__ = true := hb__.2 hc; clear hb__)
      | ((with_reducible refine at_later 104 ?_); (with_reducible refine DFT.run (unhide HhSB) (unhide HON) _ ?_); intro y__)
      | ((with_reducible refine at_later 105 ?_); (with_reducible refine DFT.run (unhide HhMan) (unhide HON) _ ?_); intro y__)
      | ((with_reducible refine at_later 106 ?_); (with_reducible refine DFT.run (unhide HhLo) (unhide HON) _ ?_); intro y__)
      | ((with_reducible refine at_later 106 ?_); (with_reducible refine DFT.run (unhide HhHi) (unhide HON) _ ?_); intro y__)
      | ((with_reducible refine at_later 59 ?_); (with_reducible refine DFT.run (unhide HhSl) (unhide HON) _ ?_); intro y__)
      | fail)
    refine Go.LaxQ.region_guarded _ 9 3 [4, 5, 6] [(1, fun v => v = .agg #[.int .u8 11, .int .u8 52]), (7, fun v => v = .bool false)] [] (fun _ => True) (by kernel_rfl) (by kernel_rfl) (by kernel_rfl) (by kernel_rfl) trivial (fun _ _ _ _ => trivial) (fun _ h => by cases h) (List.forall_mem_cons.2 ⟨⟨_, rfl⟩, List.forall_mem_cons.2 ⟨⟨_, rfl⟩, fun _ h => by cases h⟩⟩) ?_
    (refine Go.LaxQ.walk_det rfl rfl rfl rfl rfl ?_; go_big_quiet_want; go_big_quiet_op; go_big_quiet_on; refine wpQuiet_nil ?_)
    refine Go.LaxQ.q_call rfl rfl rfl rfl (fun _ _ _ _ => trivial) ?_ (fun y K hI hG hK => by
        go_wp2_with fail
        refine fmt74_ret _ _ ?_
        rintro _ w' rfl hb
        have hh := Go.Proofs.YgcoaaGreat.NatW.hide (hK _ w' rfl trivial hb)
        clear hK
        go_wp2_with fail
        exact Eq.mp (by kernel_rfl) (Go.Proofs.YgcoaaGreat.NatW.unhide hh))
    rintro v9 rfl
    ((try dsimp only); go_big_quiet_want; go_big_quiet_op; go_big_quiet_on; refine wpQuiet_nil ?_)
    (refine Go.LaxQ.walk_det rfl rfl rfl rfl rfl ?_; go_big_quiet_want; go_big_quiet_op; go_big_quiet_on; refine wpQuiet_nil ?_)
    (refine Go.LaxQ.walk_det rfl rfl rfl rfl rfl ?_; go_big_quiet_want; go_big_quiet_op; go_big_quiet_on; refine wpQuiet_nil ?_)
    (refine Go.LaxQ.walk_skip_mv rfl rfl ?_; (try dsimp only); go_big_quiet_want; go_big_quiet_op; go_big_quiet_on; refine wpQuiet_nil ?_)
    (refine Go.LaxQ.walk_skip_mv rfl rfl ?_; (try dsimp only); go_big_quiet_want; go_big_quiet_op; go_big_quiet_on; refine wpQuiet_nil ?_)
    (refine Go.LaxQ.walk_skip_mv rfl rfl ?_; (try dsimp only); go_big_quiet_want; go_big_quiet_op; go_big_quiet_on; refine wpQuiet_nil ?_)
    refine Go.LaxQ.q_call rfl rfl rfl rfl (fun _ _ _ _ => trivial) ?_ (fun y K hI hG hK => by
        have HK := hide hK
        clear hK
        go_wp2_with fail
        exact unhide HK _ _ rfl trivial (Below.refl _ _))
    rintro v9 rfl
    ((try dsimp only); go_big_quiet_want; go_big_quiet_op; go_big_quiet_on; refine wpQuiet_nil ?_)
    (refine Go.LaxQ.walk_det rfl rfl rfl rfl rfl ?_; go_big_quiet_want; go_big_quiet_op; go_big_quiet_on; refine wpQuiet_nil ?_)
    refine Go.LaxQ.q_end ?_
    intro y hI hG
    clear hI hG
    go_wp2_with (first
      | ((with_reducible refine at_later 67 ?_); refine Ret.run (fmtOk_ret 11 52 hf) _ ?_; rintro _ y__ rfl)
      | ((with_reducible refine at_later 39 ?_); refine Ret.run (decOk_ret _ d e h1 h2 hd) _ ?_; rintro _ y__ ⟨b__, rfl, hb__⟩; obtain rfl : b__ = true := hb__.2 hc; clear hb__)
      | ((with_reducible refine at_later 104 ?_); (with_reducible refine DFT.run (unhide HhSB) (unhide HON) _ ?_); intro y__)
      | ((with_reducible refine at_later 105 ?_); (with_reducible refine DFT.run (unhide HhMan) (unhide HON) _ ?_); intro y__)
      | ((with_reducible refine at_later 106 ?_); (with_reducible refine DFT.run (unhide HhLo) (unhide HON) _ ?_); intro y__)
      | ((with_reducible refine at_later 106 ?_); (with_reducible refine DFT.run (unhide HhHi) (unhide HON) _ ?_); intro y__)
      | ((with_reducible refine at_later 59 ?_); (with_reducible refine DFT.run (unhide HhSl) (unhide HON) _ ?_); intro y__)
      | fail)
    all_goals exact unhide HK _ (hB _)
  · go_enter Oaag.func54, Oaag.ntmps54
    go_wp2_with (first
      | ((with_reducible refine at_later 67 ?_); refine Ret.run (fmtOk_ret 11 52 hf) _ ?_; rintro _ y__ rfl)
      | ((with_reducible refine at_later 39 ?_); refine Ret.run (decOk_ret _ d e h1 h2 hd) _ ?_; rintro _ y__ ⟨b__, rfl, hb__⟩; obtain rfl : b__ = true := hb__.2 hc; clear hb__)
      | ((with_reducible refine at_later 104 ?_); (with_reducible refine DFT.run (unhide HhSB) (unhide HON) _ ?_); intro y__)
      | ((with_reducible refine at_later 105 ?_); (with_reducible refine DFT.run (unhide HhMan) (unhide HON) _ ?_); intro y__)
      | ((with_reducible refine at_later 106 ?_); (with_reducible refine DFT.run (unhide HhLo) (unhide HON) _ ?_); intro y__)
      | ((with_reducible refine at_later 106 ?_); (with_reducible refine DFT.run (unhide HhHi) (unhide HON) _ ?_); intro y__)
      | ((with_reducible refine at_later 59 ?_); (with_reducible refine DFT.run (unhide HhSl) (unhide HON) _ ?_); intro y__)
      | fail)
    refine Go.LaxQ.region_guarded _ 9 3 [4, 5, 6] [(1, fun v => v = .agg #[.int .u8 11, .int .u8 52]), (7, fun v => v = .bool false)] [] (fun _ => True) (by kernel_rfl) (by kernel_rfl) (by kernel_rfl) (by kernel_rfl) trivial (fun _ _ _ _ => trivial) (fun _ h => by cases h) (List.forall_mem_cons.2 ⟨⟨_, rfl⟩, List.forall_mem_cons.2 ⟨⟨_, rfl⟩, fun _ h => by cases h⟩⟩) ?_
    (refine Go.LaxQ.walk_det rfl rfl rfl rfl rfl ?_; go_big_quiet_want; go_big_quiet_op; go_big_quiet_on; refine wpQuiet_nil ?_)
    refine Go.LaxQ.q_call rfl rfl rfl rfl (fun _ _ _ _ => trivial) ?_ (fun y K hI hG hK => by
        go_wp2_with fail
        refine fmt74_ret _ _ ?_
        rintro _ w' rfl hb
        have hh := Go.Proofs.YgcoaaGreat.NatW.hide (hK _ w' rfl trivial hb)
        clear hK
        go_wp2_with fail
        exact Eq.mp (by kernel_rfl) (Go.Proofs.YgcoaaGreat.NatW.unhide hh))
    rintro v9 rfl
    ((try dsimp only); go_big_quiet_want; go_big_quiet_op; go_big_quiet_on; refine wpQuiet_nil ?_)
    (refine Go.LaxQ.walk_det rfl rfl rfl rfl rfl ?_; go_big_quiet_want; go_big_quiet_op; go_big_quiet_on; refine wpQuiet_nil ?_)
    (refine Go.LaxQ.walk_det rfl rfl rfl rfl rfl ?_; go_big_quiet_want; go_big_quiet_op; go_big_quiet_on; refine wpQuiet_nil ?_)
    (refine Go.LaxQ.walk_skip_mv rfl rfl ?_; (try dsimp only); go_big_quiet_want; go_big_quiet_op; go_big_quiet_on; refine wpQuiet_nil ?_)
    (refine Go.LaxQ.walk_skip_mv rfl rfl ?_; (try dsimp only); go_big_quiet_want; go_big_quiet_op; go_big_quiet_on; refine wpQuiet_nil ?_)
    (refine Go.LaxQ.walk_skip_mv rfl rfl ?_; (try dsimp only); go_big_quiet_want; go_big_quiet_op; go_big_quiet_on; refine wpQuiet_nil ?_)
    refine Go.LaxQ.q_call rfl rfl rfl rfl (fun _ _ _ _ => trivial) ?_ (fun y K hI hG hK => by
        have HK := hide hK
        clear hK
        go_wp2_with fail
        exact unhide HK _ _ rfl trivial (Below.refl _ _))
    rintro v9 rfl
    ((try dsimp only); go_big_quiet_want; go_big_quiet_op; go_big_quiet_on; refine wpQuiet_nil ?_)
    (refine Go.LaxQ.walk_det rfl rfl rfl rfl rfl ?_; go_big_quiet_want; go_big_quiet_op; go_big_quiet_on; refine wpQuiet_nil ?_)
    refine Go.LaxQ.q_end ?_
    intro y hI hG
    clear hI hG
    go_wp2_with (first
      | ((with_reducible refine at_later 67 ?_); refine Ret.run (fmtOk_ret 11 52 hf) _ ?_; rintro _ y__ rfl)
      | ((with_reducible refine at_later 39 ?_); refine Ret.run (decOk_ret _ d e h1 h2 hd) _ ?_; rintro _ y__ ⟨b__, rfl, hb__⟩; obtain rfl : b__ = true := hb__.2 hc; clear hb__)
      | ((with_reducible refine at_later 104 ?_); (with_reducible refine DFT.run (unhide HhSB) (unhide HON) _ ?_); intro y__)
      | ((with_reducible refine at_later 105 ?_); (with_reducible refine DFT.run (unhide HhMan) (unhide HON) _ ?_); intro y__)
      | ((with_reducible refine at_later 106 ?_); (with_reducible refine DFT.run (unhide HhLo) (unhide HON) _ ?_); intro y__)
      | ((with_reducible refine at_later 106 ?_); (with_reducible refine DFT.run (unhide HhHi) (unhide HON) _ ?_); intro y__)
      | ((with_reducible refine at_later 59 ?_); (with_reducible refine DFT.run (unhide HhSl) (unhide HON) _ ?_); intro y__)
      | fail)
    all_goals exact unhide HK _ (hB _)
  · go_enter Oaag.func54, Oaag.ntmps54
    go_wp2_with (first
      | ((with_reducible refine at_later 67 ?_); refine Ret.run (fmtOk_ret 11 52 hf) _ ?_; rintro _ y__ rfl)
      | ((with_reducible refine at_later 39 ?_); refine Ret.run (decOk_ret _ d e h1 h2 hd) _ ?_; rintro _ y__ ⟨b__, rfl, hb__⟩; obtain rfl : b__ = true := hb__.2 hc; clear hb__)
      | ((with_reducible refine at_later 104 ?_); (with_reducible refine DFT.run (unhide HhSB) (unhide HON) _ ?_); intro y__)
      | ((with_reducible refine at_later 105 ?_); (with_reducible refine DFT.run (unhide HhMan) (unhide HON) _ ?_); intro y__)
      | ((with_reducible refine at_later 106 ?_); (with_reducible refine DFT.run (unhide HhLo) (unhide HON) _ ?_); intro y__)
      | ((with_reducible refine at_later 106 ?_); (with_reducible refine DFT.run (unhide HhHi) (unhide HON) _ ?_); intro y__)
      | ((with_reducible refine at_later 59 ?_); (with_reducible refine DFT.run (unhide HhSl) (unhide HON) _ ?_); intro y__)
      | fail)
    refine Go.LaxQ.region_guarded _ 9 3 [4, 5, 6] [(1, fun v => v = .agg #[.int .u8 11, .int .u8 52]), (7, fun v => v = .bool false)] [] (fun _ => True) (by kernel_rfl) (by kernel_rfl) (by kernel_rfl) (by kernel_rfl) trivial (fun _ _ _ _ => trivial) (fun _ h => by cases h) (List.forall_mem_cons.2 ⟨⟨_, rfl⟩, List.forall_mem_cons.2 ⟨⟨_, rfl⟩, fun _ h => by cases h⟩⟩) ?_
    (refine Go.LaxQ.walk_det rfl rfl rfl rfl rfl ?_; go_big_quiet_want; go_big_quiet_op; go_big_quiet_on; refine wpQuiet_nil ?_)
    refine Go.LaxQ.q_call rfl rfl rfl rfl (fun _ _ _ _ => trivial) ?_ (fun y K hI hG hK => by
        go_wp2_with fail
        refine fmt74_ret _ _ ?_
        rintro _ w' rfl hb
        have hh := Go.Proofs.YgcoaaGreat.NatW.hide (hK _ w' rfl trivial hb)
        clear hK
        go_wp2_with fail
        exact Eq.mp (by kernel_rfl) (Go.Proofs.YgcoaaGreat.NatW.unhide hh))
    rintro v9 rfl
    ((try dsimp only); go_big_quiet_want; go_big_quiet_op; go_big_quiet_on; refine wpQuiet_nil ?_)
    (refine Go.LaxQ.walk_det rfl rfl rfl rfl rfl ?_; go_big_quiet_want; go_big_quiet_op; go_big_quiet_on; refine wpQuiet_nil ?_)
    (refine Go.LaxQ.walk_det rfl rfl rfl rfl rfl ?_; go_big_quiet_want; go_big_quiet_op; go_big_quiet_on; refine wpQuiet_nil ?_)
    (refine Go.LaxQ.walk_skip_mv rfl rfl ?_; (try dsimp only); go_big_quiet_want; go_big_quiet_op; go_big_quiet_on; refine wpQuiet_nil ?_)
    (refine Go.LaxQ.walk_skip_mv rfl rfl ?_; (try dsimp only); go_big_quiet_want; go_big_quiet_op; go_big_quiet_on; refine wpQuiet_nil ?_)
    (refine Go.LaxQ.walk_skip_mv rfl rfl ?_; (try dsimp only); go_big_quiet_want; go_big_quiet_op; go_big_quiet_on; refine wpQuiet_nil ?_)
    refine Go.LaxQ.q_call rfl rfl rfl rfl (fun _ _ _ _ => trivial) ?_ (fun y K hI hG hK => by
        have HK := hide hK
        clear hK
        go_wp2_with fail
        exact unhide HK _ _ rfl trivial (Below.refl _ _))
    rintro v9 rfl
    ((try dsimp only); go_big_quiet_want; go_big_quiet_op; go_big_quiet_on; refine wpQuiet_nil ?_)
    (refine Go.LaxQ.walk_det rfl rfl rfl rfl rfl ?_; go_big_quiet_want; go_big_quiet_op; go_big_quiet_on; refine wpQuiet_nil ?_)
    refine Go.LaxQ.q_end ?_
    intro y hI hG
    clear hI hG
    go_wp2_with (first
      | ((with_reducible refine at_later 67 ?_); refine Ret.run (fmtOk_ret 11 52 hf) _ ?_; rintro _ y__ rfl)
      | ((with_reducible refine at_later 39 ?_); refine Ret.run (decOk_ret _ d e h1 h2 hd) _ ?_; rintro _ y__ ⟨b__, rfl, hb__⟩; obtain rfl : b__ = true := hb__.2 hc; clear hb__)
      | ((with_reducible refine at_later 104 ?_); (with_reducible refine DFT.run (unhide HhSB) (unhide HON) _ ?_); intro y__)
      | ((with_reducible refine at_later 105 ?_); (with_reducible refine DFT.run (unhide HhMan) (unhide HON) _ ?_); intro y__)
      | ((with_reducible refine at_later 106 ?_); (with_reducible refine DFT.run (unhide HhLo) (unhide HON) _ ?_); intro y__)
      | ((with_reducible refine at_later 106 ?_); (with_reducible refine DFT.run (unhide HhHi) (unhide HON) _ ?_); intro y__)
      | ((with_reducible refine at_later 59 ?_); (with_reducible refine DFT.run (unhide HhSl) (unhide HON) _ ?_); intro y__)
      | fail)
    all_goals exact unhide HK _ (hB _)
  · go_enter Oaag.func54, Oaag.ntmps54
    go_wp2_with (first
      | ((with_reducible refine at_later 67 ?_); refine Ret.run (fmtOk_ret 11 52 hf) _ ?_; rintro _ y__ rfl)
      | ((with_reducible refine at_later 39 ?_); refine Ret.run (decOk_ret _ d e h1 h2 hd) _ ?_; rintro _ y__ ⟨b__, rfl, hb__⟩; obtain rfl : b__ = true := hb__.2 hc; clear hb__)
      | ((with_reducible refine at_later 104 ?_); (with_reducible refine DFT.run (unhide HhSB) (unhide HON) _ ?_); intro y__)
      | ((with_reducible refine at_later 105 ?_); (with_reducible refine DFT.run (unhide HhMan) (unhide HON) _ ?_); intro y__)
      | ((with_reducible refine at_later 106 ?_); (with_reducible refine DFT.run (unhide HhLo) (unhide HON) _ ?_); intro y__)
      | ((with_reducible refine at_later 106 ?_); (with_reducible refine DFT.run (unhide HhHi) (unhide HON) _ ?_); intro y__)
      | ((with_reducible refine at_later 59 ?_); (with_reducible refine DFT.run (unhide HhSl) (unhide HON) _ ?_); intro y__)
      | fail)
    refine Go.LaxQ.region_guarded _ 9 3 [4, 5, 6] [(1, fun v => v = .agg #[.int .u8 11, .int .u8 52]), (7, fun v => v = .bool false)] [] (fun _ => True) (by kernel_rfl) (by kernel_rfl) (by kernel_rfl) (by kernel_rfl) trivial (fun _ _ _ _ => trivial) (fun _ h => by cases h) (List.forall_mem_cons.2 ⟨⟨_, rfl⟩, List.forall_mem_cons.2 ⟨⟨_, rfl⟩, fun _ h => by cases h⟩⟩) ?_
    (refine Go.LaxQ.walk_det rfl rfl rfl rfl rfl ?_; go_big_quiet_want; go_big_quiet_op; go_big_quiet_on; refine wpQuiet_nil ?_)
    refine Go.LaxQ.q_call rfl rfl rfl rfl (fun _ _ _ _ => trivial) ?_ (fun y K hI hG hK => by
        go_wp2_with fail
        refine fmt74_ret _ _ ?_
        rintro _ w' rfl hb
        have hh := Go.Proofs.YgcoaaGreat.NatW.hide (hK _ w' rfl trivial hb)
        clear hK
        go_wp2_with fail
        exact Eq.mp (by kernel_rfl) (Go.Proofs.YgcoaaGreat.NatW.unhide hh))
    rintro v9 rfl
    ((try dsimp only); go_big_quiet_want; go_big_quiet_op; go_big_quiet_on; refine wpQuiet_nil ?_)
    (refine Go.LaxQ.walk_det rfl rfl rfl rfl rfl ?_; go_big_quiet_want; go_big_quiet_op; go_big_quiet_on; refine wpQuiet_nil ?_)
    (refine Go.LaxQ.walk_det rfl rfl rfl rfl rfl ?_; go_big_quiet_want; go_big_quiet_op; go_big_quiet_on; refine wpQuiet_nil ?_)
    (refine Go.LaxQ.walk_skip_mv rfl rfl ?_; (try dsimp only); go_big_quiet_want; go_big_quiet_op; go_big_quiet_on; refine wpQuiet_nil ?_)
    (refine Go.LaxQ.walk_skip_mv rfl rfl ?_; (try dsimp only); go_big_quiet_want; go_big_quiet_op; go_big_quiet_on; refine wpQuiet_nil ?_)
    (refine Go.LaxQ.walk_skip_mv rfl rfl ?_; (try dsimp only); go_big_quiet_want; go_big_quiet_op; go_big_quiet_on; refine wpQuiet_nil ?_)
    refine Go.LaxQ.q_call rfl rfl rfl rfl (fun _ _ _ _ => trivial) ?_ (fun y K hI hG hK => by
        have HK := hide hK
        clear hK
        go_wp2_with fail
        exact unhide HK _ _ rfl trivial (Below.refl _ _))
    rintro v9 rfl
    ((try dsimp only); go_big_quiet_want; go_big_quiet_op; go_big_quiet_on; refine wpQuiet_nil ?_)
    (refine Go.LaxQ.walk_det rfl rfl rfl rfl rfl ?_; go_big_quiet_want; go_big_quiet_op; go_big_quiet_on; refine wpQuiet_nil ?_)
    refine Go.LaxQ.q_end ?_
    intro y hI hG
    clear hI hG
    go_wp2_with (first
      | ((with_reducible refine at_later 67 ?_); refine Ret.run (fmtOk_ret 11 52 hf) _ ?_; rintro _ y__ rfl)
      | ((with_reducible refine at_later 39 ?_); refine Ret.run (decOk_ret _ d e h1 h2 hd) _ ?_; rintro _ y__ ⟨b__, rfl, hb__⟩; obtain rfl : b__ = true := hb__.2 hc; clear hb__)
      | ((with_reducible refine at_later 104 ?_); (with_reducible refine DFT.run (unhide HhSB) (unhide HON) _ ?_); intro y__)
      | ((with_reducible refine at_later 105 ?_); (with_reducible refine DFT.run (unhide HhMan) (unhide HON) _ ?_); intro y__)
      | ((with_reducible refine at_later 106 ?_); (with_reducible refine DFT.run (unhide HhLo) (unhide HON) _ ?_); intro y__)
      | ((with_reducible refine at_later 106 ?_); (with_reducible refine DFT.run (unhide HhHi) (unhide HON) _ ?_); intro y__)
      | ((with_reducible refine at_later 59 ?_); (with_reducible refine DFT.run (unhide HhSl) (unhide HON) _ ?_); intro y__)
      | fail)
    all_goals exact unhide HK _ (hB _)

set_option maxHeartbeats 4000000 in
theorem pl_54_11_L3 (md : Int) (hmd : md = 0 ∨ 4 < md) (n : Bool) (d : ByteArray) (e : Int) (h1 : -32768 ≤ e) (h2 : e ≤ 32767) (hd : d.size ≤ 1000000) (hc : Canon d e) (hz : ¬ d.size = 0) (fast : Bool) (sb : Int) (tb : Nat) (hSB : DFT tb 104 #[.agg #[.int .u8 11, .int .u8 52]] (.int .u64 sb)) (h19 : 19 < d.size) (man : Int) (hMan : DFT tb 105 #[.string d] (.int .u64 man)) (lo : Int) (okl : Bool) (hi : Int) (okh : Bool) (hLo : DFT tb 106 #[.pointer (some ⟨tb, 0, none⟩), .agg #[.int .u8 11, .int .u8 52], .int .u64 man, .int .i16 (e + ((d.size : Int) - 19))] (.tuple #[.int .u64 lo, .bool okl])) (hHi : DFT tb 106 #[.pointer (some ⟨tb, 0, none⟩), .agg #[.int .u8 11, .int .u8 52], .int .u64 (IntKind.u64.wrap (man + 1)), .int .i16 (e + ((d.size : Int) - 19))] (.tuple #[.int .u64 hi, .bool okh])) (hl : okl = true) (hh : okh = true) (heq : (lo == hi) = false) (r : Int) (hSl : DFT tb 59 #[.agg #[.int .u8 11, .int .u8 52], .int .u8 md, .agg #[.bool n, .string d, .int .i16 e]] (.int .u64 r)) : DFT tb 54 #[.pointer (some ⟨tb, 0, none⟩), fmt 11 52, .int .u8 md, .agg #[.bool n, .string d, .int .i16 e], .bool fast] (.tuple #[.int .u64 r, .int .u8 4]) := by
  intro w K ho hK
  have hf : fok 11 52 = true := rfl
  have hsz : d.size ≤ 800 := by rcases hc with h | h <;> omega
  have he1 : -2000 ≤ e ∧ e ≤ 2000 := by rcases hc with h | h <;> omega
  have hz' : ((d.size : Int) == 0) = false := beq_eq_false_iff_ne.2 (by omega)
  have HK := hide hK
  clear hK
  obtain ⟨wb, x0, hwb, r0, r1, hB, hZ⟩ := boxes2 w #[.int .u8 11, .int .u8 52] #[.bool n, .string d, .int .i16 e] 23 74
  have c00 : ∀ x : Later wb, _ = some (.int .u8 11 : Value) := Later.cell r0 0 _ rfl
  have c01 : ∀ x : Later wb, _ = some (.int .u8 52 : Value) := Later.cell r0 1 _ rfl
  have c10 : ∀ x : Later wb, _ = some (.bool n : Value) := Later.cell r1 0 _ rfl
  have c11 : ∀ x : Later wb, _ = some (.string d : Value) := Later.cell r1 1 _ rfl
  have c12 : ∀ x : Later wb, _ = some (.int .i16 e : Value) := Later.cell r1 2 _ rfl
  have hne : Nonempty (Later wb) := ⟨x0⟩
  have hon : ∀ y : Later wb, On tb y.at_ := fun y => ho.later (hB y)
  have HON := hide hon
  have HhSB := hide hSB
  have HhMan := hide hMan
  have HhLo := hide hLo
  have HhHi := hide hHi
  have HhSl := hide hSl
  clear ho hon r0 r1 hSB hMan hLo hHi hSl
  have hmz : ∃ zb : Bool, (md != 0) = zb ∧ (zb = true → decide (md ≤ 4) = false) := by
    rcases hmd with rfl | h
    · exact ⟨false, rfl, fun h => by cases h⟩
    · exact ⟨true, by simp; omega, fun _ => by simp; omega⟩
  obtain ⟨zb, hzb, hz4⟩ := hmz
  clear hmd
  cases n <;> cases zb
  all_goals
    first
    | (have hz5 := hz4 rfl; clear hz4)
    | clear hz4
  · go_enter Oaag.func54, Oaag.ntmps54
    go_wp2_with (first
      | ((with_reducible refine at_later 67 ?_); refine Ret.run (fmtOk_ret 11 52 hf) _ ?_; rintro _ y__ rfl)
      | ((with_reducible refine at_later 39 ?_); refine Ret.run (decOk_ret _ d e h1 h2 hd) _ ?_; rintro _ y__ ⟨b__, rfl, hb__⟩; obtain rfl : b__ = true := hb__.2 hc; clear hb__)
      | ((with_reducible refine at_later 104 ?_); (with_reducible refine DFT.run (unhide HhSB) (unhide HON) _ ?_); intro y__)
      | ((with_reducible refine at_later 105 ?_); (with_reducible refine DFT.run (unhide HhMan) (unhide HON) _ ?_); intro y__)
      | ((with_reducible refine at_later 106 ?_); (with_reducible refine DFT.run (unhide HhLo) (unhide HON) _ ?_); intro y__)
      | ((with_reducible refine at_later 106 ?_); (with_reducible refine DFT.run (unhide HhHi) (unhide HON) _ ?_); intro y__)
      | ((with_reducible refine at_later 59 ?_); (with_reducible refine DFT.run (unhide HhSl) (unhide HON) _ ?_); intro y__)
      | fail)
    refine Go.LaxQ.region_guarded _ 9 3 [4, 5, 6] [(1, fun v => v = .agg #[.int .u8 11, .int .u8 52]), (7, fun v => v = .bool false)] [] (fun _ => True) (by kernel_rfl) (by kernel_rfl) (by kernel_rfl) (by kernel_rfl) trivial (fun _ _ _ _ => trivial) (fun _ h => by cases h) (List.forall_mem_cons.2 ⟨⟨_, rfl⟩, List.forall_mem_cons.2 ⟨⟨_, rfl⟩, fun _ h => by cases h⟩⟩) ?_
    (refine Go.LaxQ.walk_det rfl rfl rfl rfl rfl ?_; go_big_quiet_want; go_big_quiet_op; go_big_quiet_on; refine wpQuiet_nil ?_)
    refine Go.LaxQ.q_call rfl rfl rfl rfl (fun _ _ _ _ => trivial) ?_ (fun y K hI hG hK => by
        go_wp2_with fail
        refine fmt74_ret _ _ ?_
        rintro _ w' rfl hb
        have hh := Go.Proofs.YgcoaaGreat.NatW.hide (hK _ w' rfl trivial hb)
        clear hK
        go_wp2_with fail
        exact Eq.mp (by kernel_rfl) (Go.Proofs.YgcoaaGreat.NatW.unhide hh))
    rintro v9 rfl
    ((try dsimp only); go_big_quiet_want; go_big_quiet_op; go_big_quiet_on; refine wpQuiet_nil ?_)
    (refine Go.LaxQ.walk_det rfl rfl rfl rfl rfl ?_; go_big_quiet_want; go_big_quiet_op; go_big_quiet_on; refine wpQuiet_nil ?_)
    (refine Go.LaxQ.walk_det rfl rfl rfl rfl rfl ?_; go_big_quiet_want; go_big_quiet_op; go_big_quiet_on; refine wpQuiet_nil ?_)
    (refine Go.LaxQ.walk_skip_mv rfl rfl ?_; (try dsimp only); go_big_quiet_want; go_big_quiet_op; go_big_quiet_on; refine wpQuiet_nil ?_)
    (refine Go.LaxQ.walk_skip_mv rfl rfl ?_; (try dsimp only); go_big_quiet_want; go_big_quiet_op; go_big_quiet_on; refine wpQuiet_nil ?_)
    (refine Go.LaxQ.walk_skip_mv rfl rfl ?_; (try dsimp only); go_big_quiet_want; go_big_quiet_op; go_big_quiet_on; refine wpQuiet_nil ?_)
    refine Go.LaxQ.q_call rfl rfl rfl rfl (fun _ _ _ _ => trivial) ?_ (fun y K hI hG hK => by
        have HK := hide hK
        clear hK
        go_wp2_with fail
        exact unhide HK _ _ rfl trivial (Below.refl _ _))
    rintro v9 rfl
    ((try dsimp only); go_big_quiet_want; go_big_quiet_op; go_big_quiet_on; refine wpQuiet_nil ?_)
    (refine Go.LaxQ.walk_det rfl rfl rfl rfl rfl ?_; go_big_quiet_want; go_big_quiet_op; go_big_quiet_on; refine wpQuiet_nil ?_)
    refine Go.LaxQ.q_end ?_
    intro y hI hG
    clear hI hG
    go_wp2_with (first
      | ((with_reducible refine at_later 67 ?_); refine Ret.run (fmtOk_ret 11 52 hf) _ ?_; rintro _ y__ rfl)
      | ((with_reducible refine at_later 39 ?_); refine Ret.run (decOk_ret _ d e h1 h2 hd) _ ?_; rintro _ y__ ⟨b__, rfl, hb__⟩; obtain rfl : b__ = true := hb__.2 hc; clear hb__)
      | ((with_reducible refine at_later 104 ?_); (with_reducible refine DFT.run (unhide HhSB) (unhide HON) _ ?_); intro y__)
      | ((with_reducible refine at_later 105 ?_); (with_reducible refine DFT.run (unhide HhMan) (unhide HON) _ ?_); intro y__)
      | ((with_reducible refine at_later 106 ?_); (with_reducible refine DFT.run (unhide HhLo) (unhide HON) _ ?_); intro y__)
      | ((with_reducible refine at_later 106 ?_); (with_reducible refine DFT.run (unhide HhHi) (unhide HON) _ ?_); intro y__)
      | ((with_reducible refine at_later 59 ?_); (with_reducible refine DFT.run (unhide HhSl) (unhide HON) _ ?_); intro y__)
      | fail)
    all_goals exact unhide HK _ (hB _)
  · go_enter Oaag.func54, Oaag.ntmps54
    go_wp2_with (first
      | ((with_reducible refine at_later 67 ?_); refine Ret.run (fmtOk_ret 11 52 hf) _ ?_; rintro _ y__ rfl)
      | ((with_reducible refine at_later 39 ?_); refine Ret.run (decOk_ret _ d e h1 h2 hd) _ ?_; rintro _ y__ ⟨b__, rfl, hb__⟩; obtain rfl : b__ = true := hb__.2 hc; clear hb__)
      | ((with_reducible refine at_later 104 ?_); (with_reducible refine DFT.run (unhide HhSB) (unhide HON) _ ?_); intro y__)
      | ((with_reducible refine at_later 105 ?_); (with_reducible refine DFT.run (unhide HhMan) (unhide HON) _ ?_); intro y__)
      | ((with_reducible refine at_later 106 ?_); (with_reducible refine DFT.run (unhide HhLo) (unhide HON) _ ?_); intro y__)
      | ((with_reducible refine at_later 106 ?_); (with_reducible refine DFT.run (unhide HhHi) (unhide HON) _ ?_); intro y__)
      | ((with_reducible refine at_later 59 ?_); (with_reducible refine DFT.run (unhide HhSl) (unhide HON) _ ?_); intro y__)
      | fail)
    refine Go.LaxQ.region_guarded _ 9 3 [4, 5, 6] [(1, fun v => v = .agg #[.int .u8 11, .int .u8 52]), (7, fun v => v = .bool false)] [] (fun _ => True) (by kernel_rfl) (by kernel_rfl) (by kernel_rfl) (by kernel_rfl) trivial (fun _ _ _ _ => trivial) (fun _ h => by cases h) (List.forall_mem_cons.2 ⟨⟨_, rfl⟩, List.forall_mem_cons.2 ⟨⟨_, rfl⟩, fun _ h => by cases h⟩⟩) ?_
    (refine Go.LaxQ.walk_det rfl rfl rfl rfl rfl ?_; go_big_quiet_want; go_big_quiet_op; go_big_quiet_on; refine wpQuiet_nil ?_)
    refine Go.LaxQ.q_call rfl rfl rfl rfl (fun _ _ _ _ => trivial) ?_ (fun y K hI hG hK => by
        go_wp2_with fail
        refine fmt74_ret _ _ ?_
        rintro _ w' rfl hb
        have hh := Go.Proofs.YgcoaaGreat.NatW.hide (hK _ w' rfl trivial hb)
        clear hK
        go_wp2_with fail
        exact Eq.mp (by kernel_rfl) (Go.Proofs.YgcoaaGreat.NatW.unhide hh))
    rintro v9 rfl
    ((try dsimp only); go_big_quiet_want; go_big_quiet_op; go_big_quiet_on; refine wpQuiet_nil ?_)
    (refine Go.LaxQ.walk_det rfl rfl rfl rfl rfl ?_; go_big_quiet_want; go_big_quiet_op; go_big_quiet_on; refine wpQuiet_nil ?_)
    (refine Go.LaxQ.walk_det rfl rfl rfl rfl rfl ?_; go_big_quiet_want; go_big_quiet_op; go_big_quiet_on; refine wpQuiet_nil ?_)
    (refine Go.LaxQ.walk_skip_mv rfl rfl ?_; (try dsimp only); go_big_quiet_want; go_big_quiet_op; go_big_quiet_on; refine wpQuiet_nil ?_)
    (refine Go.LaxQ.walk_skip_mv rfl rfl ?_; (try dsimp only); go_big_quiet_want; go_big_quiet_op; go_big_quiet_on; refine wpQuiet_nil ?_)
    (refine Go.LaxQ.walk_skip_mv rfl rfl ?_; (try dsimp only); go_big_quiet_want; go_big_quiet_op; go_big_quiet_on; refine wpQuiet_nil ?_)
    refine Go.LaxQ.q_call rfl rfl rfl rfl (fun _ _ _ _ => trivial) ?_ (fun y K hI hG hK => by
        have HK := hide hK
        clear hK
        go_wp2_with fail
        exact unhide HK _ _ rfl trivial (Below.refl _ _))
    rintro v9 rfl
    ((try dsimp only); go_big_quiet_want; go_big_quiet_op; go_big_quiet_on; refine wpQuiet_nil ?_)
    (refine Go.LaxQ.walk_det rfl rfl rfl rfl rfl ?_; go_big_quiet_want; go_big_quiet_op; go_big_quiet_on; refine wpQuiet_nil ?_)
    refine Go.LaxQ.q_end ?_
    intro y hI hG
    clear hI hG
    go_wp2_with (first
      | ((with_reducible refine at_later 67 ?_); refine Ret.run (fmtOk_ret 11 52 hf) _ ?_; rintro _ y__ rfl)
      | ((with_reducible refine at_later 39 ?_); refine Ret.run (decOk_ret _ d e h1 h2 hd) _ ?_; rintro _ y__ ⟨b__, rfl, hb__⟩; obtain rfl : b__ = true := hb__.2 hc; clear hb__)
      | ((with_reducible refine at_later 104 ?_); (with_reducible refine DFT.run (unhide HhSB) (unhide HON) _ ?_); intro y__)
      | ((with_reducible refine at_later 105 ?_); (with_reducible refine DFT.run (unhide HhMan) (unhide HON) _ ?_); intro y__)
      | ((with_reducible refine at_later 106 ?_); (with_reducible refine DFT.run (unhide HhLo) (unhide HON) _ ?_); intro y__)
      | ((with_reducible refine at_later 106 ?_); (with_reducible refine DFT.run (unhide HhHi) (unhide HON) _ ?_); intro y__)
      | ((with_reducible refine at_later 59 ?_); (with_reducible refine DFT.run (unhide HhSl) (unhide HON) _ ?_); intro y__)
      | fail)
    all_goals exact unhide HK _ (hB _)
  · go_enter Oaag.func54, Oaag.ntmps54
    go_wp2_with (first
      | ((with_reducible refine at_later 67 ?_); refine Ret.run (fmtOk_ret 11 52 hf) _ ?_; rintro _ y__ rfl)
      | ((with_reducible refine at_later 39 ?_); refine Ret.run (decOk_ret _ d e h1 h2 hd) _ ?_; rintro _ y__ ⟨b__, rfl, hb__⟩; obtain rfl : b__ = true := hb__.2 hc; clear hb__)
      | ((with_reducible refine at_later 104 ?_); (with_reducible refine DFT.run (unhide HhSB) (unhide HON) _ ?_); intro y__)
      | ((with_reducible refine at_later 105 ?_); (with_reducible refine DFT.run (unhide HhMan) (unhide HON) _ ?_); intro y__)
      | ((with_reducible refine at_later 106 ?_); (with_reducible refine DFT.run (unhide HhLo) (unhide HON) _ ?_); intro y__)
      | ((with_reducible refine at_later 106 ?_); (with_reducible refine DFT.run (unhide HhHi) (unhide HON) _ ?_); intro y__)
      | ((with_reducible refine at_later 59 ?_); (with_reducible refine DFT.run (unhide HhSl) (unhide HON) _ ?_); intro y__)
      | fail)
    refine Go.LaxQ.region_guarded _ 9 3 [4, 5, 6] [(1, fun v => v = .agg #[.int .u8 11, .int .u8 52]), (7, fun v => v = .bool false)] [] (fun _ => True) (by kernel_rfl) (by kernel_rfl) (by kernel_rfl) (by kernel_rfl) trivial (fun _ _ _ _ => trivial) (fun _ h => by cases h) (List.forall_mem_cons.2 ⟨⟨_, rfl⟩, List.forall_mem_cons.2 ⟨⟨_, rfl⟩, fun _ h => by cases h⟩⟩) ?_
    (refine Go.LaxQ.walk_det rfl rfl rfl rfl rfl ?_; go_big_quiet_want; go_big_quiet_op; go_big_quiet_on; refine wpQuiet_nil ?_)
    refine Go.LaxQ.q_call rfl rfl rfl rfl (fun _ _ _ _ => trivial) ?_ (fun y K hI hG hK => by
        go_wp2_with fail
        refine fmt74_ret _ _ ?_
        rintro _ w' rfl hb
        have hh := Go.Proofs.YgcoaaGreat.NatW.hide (hK _ w' rfl trivial hb)
        clear hK
        go_wp2_with fail
        exact Eq.mp (by kernel_rfl) (Go.Proofs.YgcoaaGreat.NatW.unhide hh))
    rintro v9 rfl
    ((try dsimp only); go_big_quiet_want; go_big_quiet_op; go_big_quiet_on; refine wpQuiet_nil ?_)
    (refine Go.LaxQ.walk_det rfl rfl rfl rfl rfl ?_; go_big_quiet_want; go_big_quiet_op; go_big_quiet_on; refine wpQuiet_nil ?_)
    (refine Go.LaxQ.walk_det rfl rfl rfl rfl rfl ?_; go_big_quiet_want; go_big_quiet_op; go_big_quiet_on; refine wpQuiet_nil ?_)
    (refine Go.LaxQ.walk_skip_mv rfl rfl ?_; (try dsimp only); go_big_quiet_want; go_big_quiet_op; go_big_quiet_on; refine wpQuiet_nil ?_)
    (refine Go.LaxQ.walk_skip_mv rfl rfl ?_; (try dsimp only); go_big_quiet_want; go_big_quiet_op; go_big_quiet_on; refine wpQuiet_nil ?_)
    (refine Go.LaxQ.walk_skip_mv rfl rfl ?_; (try dsimp only); go_big_quiet_want; go_big_quiet_op; go_big_quiet_on; refine wpQuiet_nil ?_)
    refine Go.LaxQ.q_call rfl rfl rfl rfl (fun _ _ _ _ => trivial) ?_ (fun y K hI hG hK => by
        have HK := hide hK
        clear hK
        go_wp2_with fail
        exact unhide HK _ _ rfl trivial (Below.refl _ _))
    rintro v9 rfl
    ((try dsimp only); go_big_quiet_want; go_big_quiet_op; go_big_quiet_on; refine wpQuiet_nil ?_)
    (refine Go.LaxQ.walk_det rfl rfl rfl rfl rfl ?_; go_big_quiet_want; go_big_quiet_op; go_big_quiet_on; refine wpQuiet_nil ?_)
    refine Go.LaxQ.q_end ?_
    intro y hI hG
    clear hI hG
    go_wp2_with (first
      | ((with_reducible refine at_later 67 ?_); refine Ret.run (fmtOk_ret 11 52 hf) _ ?_; rintro _ y__ rfl)
      | ((with_reducible refine at_later 39 ?_); refine Ret.run (decOk_ret _ d e h1 h2 hd) _ ?_; rintro _ y__ ⟨b__, rfl, hb__⟩; obtain rfl : b__ = true := hb__.2 hc; clear hb__)
      | ((with_reducible refine at_later 104 ?_); (with_reducible refine DFT.run (unhide HhSB) (unhide HON) _ ?_); intro y__)
      | ((with_reducible refine at_later 105 ?_); (with_reducible refine DFT.run (unhide HhMan) (unhide HON) _ ?_); intro y__)
      | ((with_reducible refine at_later 106 ?_); (with_reducible refine DFT.run (unhide HhLo) (unhide HON) _ ?_); intro y__)
      | ((with_reducible refine at_later 106 ?_); (with_reducible refine DFT.run (unhide HhHi) (unhide HON) _ ?_); intro y__)
      | ((with_reducible refine at_later 59 ?_); (with_reducible refine DFT.run (unhide HhSl) (unhide HON) _ ?_); intro y__)
      | fail)
    all_goals exact unhide HK _ (hB _)
  · go_enter Oaag.func54, Oaag.ntmps54
    go_wp2_with (first
      | ((with_reducible refine at_later 67 ?_); refine Ret.run (fmtOk_ret 11 52 hf) _ ?_; rintro _ y__ rfl)
      | ((with_reducible refine at_later 39 ?_); refine Ret.run (decOk_ret _ d e h1 h2 hd) _ ?_; rintro _ y__ ⟨b__, rfl, hb__⟩; obtain rfl : b__ = true := hb__.2 hc; clear hb__)
      | ((with_reducible refine at_later 104 ?_); (with_reducible refine DFT.run (unhide HhSB) (unhide HON) _ ?_); intro y__)
      | ((with_reducible refine at_later 105 ?_); (with_reducible refine DFT.run (unhide HhMan) (unhide HON) _ ?_); intro y__)
      | ((with_reducible refine at_later 106 ?_); (with_reducible refine DFT.run (unhide HhLo) (unhide HON) _ ?_); intro y__)
      | ((with_reducible refine at_later 106 ?_); (with_reducible refine DFT.run (unhide HhHi) (unhide HON) _ ?_); intro y__)
      | ((with_reducible refine at_later 59 ?_); (with_reducible refine DFT.run (unhide HhSl) (unhide HON) _ ?_); intro y__)
      | fail)
    refine Go.LaxQ.region_guarded _ 9 3 [4, 5, 6] [(1, fun v => v = .agg #[.int .u8 11, .int .u8 52]), (7, fun v => v = .bool false)] [] (fun _ => True) (by kernel_rfl) (by kernel_rfl) (by kernel_rfl) (by kernel_rfl) trivial (fun _ _ _ _ => trivial) (fun _ h => by cases h) (List.forall_mem_cons.2 ⟨⟨_, rfl⟩, List.forall_mem_cons.2 ⟨⟨_, rfl⟩, fun _ h => by cases h⟩⟩) ?_
    (refine Go.LaxQ.walk_det rfl rfl rfl rfl rfl ?_; go_big_quiet_want; go_big_quiet_op; go_big_quiet_on; refine wpQuiet_nil ?_)
    refine Go.LaxQ.q_call rfl rfl rfl rfl (fun _ _ _ _ => trivial) ?_ (fun y K hI hG hK => by
        go_wp2_with fail
        refine fmt74_ret _ _ ?_
        rintro _ w' rfl hb
        have hh := Go.Proofs.YgcoaaGreat.NatW.hide (hK _ w' rfl trivial hb)
        clear hK
        go_wp2_with fail
        exact Eq.mp (by kernel_rfl) (Go.Proofs.YgcoaaGreat.NatW.unhide hh))
    rintro v9 rfl
    ((try dsimp only); go_big_quiet_want; go_big_quiet_op; go_big_quiet_on; refine wpQuiet_nil ?_)
    (refine Go.LaxQ.walk_det rfl rfl rfl rfl rfl ?_; go_big_quiet_want; go_big_quiet_op; go_big_quiet_on; refine wpQuiet_nil ?_)
    (refine Go.LaxQ.walk_det rfl rfl rfl rfl rfl ?_; go_big_quiet_want; go_big_quiet_op; go_big_quiet_on; refine wpQuiet_nil ?_)
    (refine Go.LaxQ.walk_skip_mv rfl rfl ?_; (try dsimp only); go_big_quiet_want; go_big_quiet_op; go_big_quiet_on; refine wpQuiet_nil ?_)
    (refine Go.LaxQ.walk_skip_mv rfl rfl ?_; (try dsimp only); go_big_quiet_want; go_big_quiet_op; go_big_quiet_on; refine wpQuiet_nil ?_)
    (refine Go.LaxQ.walk_skip_mv rfl rfl ?_; (try dsimp only); go_big_quiet_want; go_big_quiet_op; go_big_quiet_on; refine wpQuiet_nil ?_)
    refine Go.LaxQ.q_call rfl rfl rfl rfl (fun _ _ _ _ => trivial) ?_ (fun y K hI hG hK => by
        have HK := hide hK
        clear hK
        go_wp2_with fail
        exact unhide HK _ _ rfl trivial (Below.refl _ _))
    rintro v9 rfl
    ((try dsimp only); go_big_quiet_want; go_big_quiet_op; go_big_quiet_on; refine wpQuiet_nil ?_)
    (refine Go.LaxQ.walk_det rfl rfl rfl rfl rfl ?_; go_big_quiet_want; go_big_quiet_op; go_big_quiet_on; refine wpQuiet_nil ?_)
    refine Go.LaxQ.q_end ?_
    intro y hI hG
    clear hI hG
    go_wp2_with (first
      | ((with_reducible refine at_later 67 ?_); refine Ret.run (fmtOk_ret 11 52 hf) _ ?_; rintro _ y__ rfl)
      | ((with_reducible refine at_later 39 ?_); refine Ret.run (decOk_ret _ d e h1 h2 hd) _ ?_; rintro _ y__ ⟨b__, rfl, hb__⟩; obtain rfl : b__ = true := hb__.2 hc; clear hb__)
      | ((with_reducible refine at_later 104 ?_); (with_reducible refine DFT.run (unhide HhSB) (unhide HON) _ ?_); intro y__)
      | ((with_reducible refine at_later 105 ?_); (with_reducible refine DFT.run (unhide HhMan) (unhide HON) _ ?_); intro y__)
      | ((with_reducible refine at_later 106 ?_); (with_reducible refine DFT.run (unhide HhLo) (unhide HON) _ ?_); intro y__)
      | ((with_reducible refine at_later 106 ?_); (with_reducible refine DFT.run (unhide HhHi) (unhide HON) _ ?_); intro y__)
      | ((with_reducible refine at_later 59 ?_); (with_reducible refine DFT.run (unhide HhSl) (unhide HON) _ ?_); intro y__)
      | fail)
    all_goals exact unhide HK _ (hB _)

set_option maxHeartbeats 4000000 in
theorem pl_54_11_Sc (md : Int) (hmd : md = 0 ∨ 4 < md) (n : Bool) (d : ByteArray) (e : Int) (h1 : -32768 ≤ e) (h2 : e ≤ 32767) (hd : d.size ≤ 1000000) (hc : Canon d e) (hz : ¬ d.size = 0) (fast : Bool) (sb : Int) (tb : Nat) (hSB : DFT tb 104 #[.agg #[.int .u8 11, .int .u8 52]] (.int .u64 sb)) (h19 : d.size ≤ 19) (man : Int) (hMan : DFT tb 105 #[.string d] (.int .u64 man)) (hfa : fast = true) (cv : Int) (hCl : DFT tb 107 #[.agg #[.int .u8 11, .int .u8 52], .int .u64 man, .int .i16 e] (.tuple #[.int .u64 cv, .bool true])) : DFT tb 54 #[.pointer (some ⟨tb, 0, none⟩), fmt 11 52, .int .u8 md, .agg #[.bool n, .string d, .int .i16 e], .bool fast] (.tuple #[.int .u64 (bits .or .u64 cv (psg n sb)), .int .u8 1]) := by
  intro w K ho hK
  have hf : fok 11 52 = true := rfl
  have hsz : d.size ≤ 800 := by rcases hc with h | h <;> omega
  have he1 : -2000 ≤ e ∧ e ≤ 2000 := by rcases hc with h | h <;> omega
  have hz' : ((d.size : Int) == 0) = false := beq_eq_false_iff_ne.2 (by omega)
  have HK := hide hK
  clear hK
  obtain ⟨wb, x0, hwb, r0, r1, hB, hZ⟩ := boxes2 w #[.int .u8 11, .int .u8 52] #[.bool n, .string d, .int .i16 e] 23 74
  have c00 : ∀ x : Later wb, _ = some (.int .u8 11 : Value) := Later.cell r0 0 _ rfl
  have c01 : ∀ x : Later wb, _ = some (.int .u8 52 : Value) := Later.cell r0 1 _ rfl
  have c10 : ∀ x : Later wb, _ = some (.bool n : Value) := Later.cell r1 0 _ rfl
  have c11 : ∀ x : Later wb, _ = some (.string d : Value) := Later.cell r1 1 _ rfl
  have c12 : ∀ x : Later wb, _ = some (.int .i16 e : Value) := Later.cell r1 2 _ rfl
  have hne : Nonempty (Later wb) := ⟨x0⟩
  have hon : ∀ y : Later wb, On tb y.at_ := fun y => ho.later (hB y)
  have HON := hide hon
  have HhSB := hide hSB
  have HhMan := hide hMan
  have HhCl := hide hCl
  clear ho hon r0 r1 hSB hMan hCl
  have hmz : ∃ zb : Bool, (md != 0) = zb ∧ (zb = true → decide (md ≤ 4) = false) := by
    rcases hmd with rfl | h
    · exact ⟨false, rfl, fun h => by cases h⟩
    · exact ⟨true, by simp; omega, fun _ => by simp; omega⟩
  obtain ⟨zb, hzb, hz4⟩ := hmz
  clear hmd
  cases n <;> cases zb
  all_goals
    first
    | (have hz5 := hz4 rfl; clear hz4)
    | clear hz4
  · go_enter Oaag.func54, Oaag.ntmps54
    go_wp2_with (first
      | ((with_reducible refine at_later 67 ?_); refine Ret.run (fmtOk_ret 11 52 hf) _ ?_; rintro _ y__ rfl)
      | ((with_reducible refine at_later 39 ?_); refine Ret.run (decOk_ret _ d e h1 h2 hd) _ ?_; rintro _ y__ ⟨b__, rfl, hb__⟩; obtain rfl : b__ = true := hb__.2 hc; clear hb__)
      | ((with_reducible refine at_later 104 ?_); (with_reducible refine DFT.run (unhide HhSB) (unhide HON) _ ?_); intro y__)
      | ((with_reducible refine at_later 105 ?_); (with_reducible refine DFT.run (unhide HhMan) (unhide HON) _ ?_); intro y__)
      | ((with_reducible refine at_later 107 ?_); (with_reducible refine DFT.run (unhide HhCl) (unhide HON) _ ?_); intro y__)
      | fail)
    refine Go.LaxQ.region_guarded _ 9 3 [4, 5, 6] [(1, fun v => v = .agg #[.int .u8 11, .int .u8 52]), (7, fun v => v = .bool false)] [] (fun _ => True) (by kernel_rfl) (by kernel_rfl) (by kernel_rfl) (by kernel_rfl) trivial (fun _ _ _ _ => trivial) (fun _ h => by cases h) (List.forall_mem_cons.2 ⟨⟨_, rfl⟩, List.forall_mem_cons.2 ⟨⟨_, rfl⟩, fun _ h => by cases h⟩⟩) ?_
    (refine Go.LaxQ.walk_det rfl rfl rfl rfl rfl ?_; go_big_quiet_want; go_big_quiet_op; go_big_quiet_on; refine wpQuiet_nil ?_)
    refine Go.LaxQ.q_call rfl rfl rfl rfl (fun _ _ _ _ => trivial) ?_ (fun y K hI hG hK => by
        go_wp2_with fail
        refine fmt74_ret _ _ ?_
        rintro _ w' rfl hb
        have hh := Go.Proofs.YgcoaaGreat.NatW.hide (hK _ w' rfl trivial hb)
        clear hK
        go_wp2_with fail
        exact Eq.mp (by kernel_rfl) (Go.Proofs.YgcoaaGreat.NatW.unhide hh))
    rintro v9 rfl
    ((try dsimp only); go_big_quiet_want; go_big_quiet_op; go_big_quiet_on; refine wpQuiet_nil ?_)
    (refine Go.LaxQ.walk_det rfl rfl rfl rfl rfl ?_; go_big_quiet_want; go_big_quiet_op; go_big_quiet_on; refine wpQuiet_nil ?_)
    (refine Go.LaxQ.walk_det rfl rfl rfl rfl rfl ?_; go_big_quiet_want; go_big_quiet_op; go_big_quiet_on; refine wpQuiet_nil ?_)
    (refine Go.LaxQ.walk_skip_mv rfl rfl ?_; (try dsimp only); go_big_quiet_want; go_big_quiet_op; go_big_quiet_on; refine wpQuiet_nil ?_)
    (refine Go.LaxQ.walk_skip_mv rfl rfl ?_; (try dsimp only); go_big_quiet_want; go_big_quiet_op; go_big_quiet_on; refine wpQuiet_nil ?_)
    (refine Go.LaxQ.walk_skip_mv rfl rfl ?_; (try dsimp only); go_big_quiet_want; go_big_quiet_op; go_big_quiet_on; refine wpQuiet_nil ?_)
    refine Go.LaxQ.q_call rfl rfl rfl rfl (fun _ _ _ _ => trivial) ?_ (fun y K hI hG hK => by
        have HK := hide hK
        clear hK
        go_wp2_with fail
        exact unhide HK _ _ rfl trivial (Below.refl _ _))
    rintro v9 rfl
    ((try dsimp only); go_big_quiet_want; go_big_quiet_op; go_big_quiet_on; refine wpQuiet_nil ?_)
    (refine Go.LaxQ.walk_det rfl rfl rfl rfl rfl ?_; go_big_quiet_want; go_big_quiet_op; go_big_quiet_on; refine wpQuiet_nil ?_)
    refine Go.LaxQ.q_end ?_
    intro y hI hG
    clear hI hG
    go_wp2_with (first
      | ((with_reducible refine at_later 67 ?_); refine Ret.run (fmtOk_ret 11 52 hf) _ ?_; rintro _ y__ rfl)
      | ((with_reducible refine at_later 39 ?_); refine Ret.run (decOk_ret _ d e h1 h2 hd) _ ?_; rintro _ y__ ⟨b__, rfl, hb__⟩; obtain rfl : b__ = true := hb__.2 hc; clear hb__)
      | ((with_reducible refine at_later 104 ?_); (with_reducible refine DFT.run (unhide HhSB) (unhide HON) _ ?_); intro y__)
      | ((with_reducible refine at_later 105 ?_); (with_reducible refine DFT.run (unhide HhMan) (unhide HON) _ ?_); intro y__)
      | ((with_reducible refine at_later 107 ?_); (with_reducible refine DFT.run (unhide HhCl) (unhide HON) _ ?_); intro y__)
      | fail)
    all_goals exact unhide HK _ (hB _)
  · go_enter Oaag.func54, Oaag.ntmps54
    go_wp2_with (first
      | ((with_reducible refine at_later 67 ?_); refine Ret.run (fmtOk_ret 11 52 hf) _ ?_; rintro _ y__ rfl)
      | ((with_reducible refine at_later 39 ?_); refine Ret.run (decOk_ret _ d e h1 h2 hd) _ ?_; rintro _ y__ ⟨b__, rfl, hb__⟩; obtain rfl : b__ = true := hb__.2 hc; clear hb__)
      | ((with_reducible refine at_later 104 ?_); (with_reducible refine DFT.run (unhide HhSB) (unhide HON) _ ?_); intro y__)
      | ((with_reducible refine at_later 105 ?_); (with_reducible refine DFT.run (unhide HhMan) (unhide HON) _ ?_); intro y__)
      | ((with_reducible refine at_later 107 ?_); (with_reducible refine DFT.run (unhide HhCl) (unhide HON) _ ?_); intro y__)
      | fail)
    refine Go.LaxQ.region_guarded _ 9 3 [4, 5, 6] [(1, fun v => v = .agg #[.int .u8 11, .int .u8 52]), (7, fun v => v = .bool false)] [] (fun _ => True) (by kernel_rfl) (by kernel_rfl) (by kernel_rfl) (by kernel_rfl) trivial (fun _ _ _ _ => trivial) (fun _ h => by cases h) (List.forall_mem_cons.2 ⟨⟨_, rfl⟩, List.forall_mem_cons.2 ⟨⟨_, rfl⟩, fun _ h => by cases h⟩⟩) ?_
    (refine Go.LaxQ.walk_det rfl rfl rfl rfl rfl ?_; go_big_quiet_want; go_big_quiet_op; go_big_quiet_on; refine wpQuiet_nil ?_)
    refine Go.LaxQ.q_call rfl rfl rfl rfl (fun _ _ _ _ => trivial) ?_ (fun y K hI hG hK => by
        go_wp2_with fail
        refine fmt74_ret _ _ ?_
        rintro _ w' rfl hb
        have hh := Go.Proofs.YgcoaaGreat.NatW.hide (hK _ w' rfl trivial hb)
        clear hK
        go_wp2_with fail
        exact Eq.mp (by kernel_rfl) (Go.Proofs.YgcoaaGreat.NatW.unhide hh))
    rintro v9 rfl
    ((try dsimp only); go_big_quiet_want; go_big_quiet_op; go_big_quiet_on; refine wpQuiet_nil ?_)
    (refine Go.LaxQ.walk_det rfl rfl rfl rfl rfl ?_; go_big_quiet_want; go_big_quiet_op; go_big_quiet_on; refine wpQuiet_nil ?_)
    (refine Go.LaxQ.walk_det rfl rfl rfl rfl rfl ?_; go_big_quiet_want; go_big_quiet_op; go_big_quiet_on; refine wpQuiet_nil ?_)
    (refine Go.LaxQ.walk_skip_mv rfl rfl ?_; (try dsimp only); go_big_quiet_want; go_big_quiet_op; go_big_quiet_on; refine wpQuiet_nil ?_)
    (refine Go.LaxQ.walk_skip_mv rfl rfl ?_; (try dsimp only); go_big_quiet_want; go_big_quiet_op; go_big_quiet_on; refine wpQuiet_nil ?_)
    (refine Go.LaxQ.walk_skip_mv rfl rfl ?_; (try dsimp only); go_big_quiet_want; go_big_quiet_op; go_big_quiet_on; refine wpQuiet_nil ?_)
    refine Go.LaxQ.q_call rfl rfl rfl rfl (fun _ _ _ _ => trivial) ?_ (fun y K hI hG hK => by
        have HK := hide hK
        clear hK
        go_wp2_with fail
        exact unhide HK _ _ rfl trivial (Below.refl _ _))
    rintro v9 rfl
    ((try dsimp only); go_big_quiet_want; go_big_quiet_op; go_big_quiet_on; refine wpQuiet_nil ?_)
    (refine Go.LaxQ.walk_det rfl rfl rfl rfl rfl ?_; go_big_quiet_want; go_big_quiet_op; go_big_quiet_on; refine wpQuiet_nil ?_)
    refine Go.LaxQ.q_end ?_
    intro y hI hG
    clear hI hG
    go_wp2_with (first
      | ((with_reducible refine at_later 67 ?_); refine Ret.run (fmtOk_ret 11 52 hf) _ ?_; rintro _ y__ rfl)
      | ((with_reducible refine at_later 39 ?_); refine Ret.run (decOk_ret _ d e h1 h2 hd) _ ?_; rintro _ y__ ⟨b__, rfl, hb__⟩; obtain rfl : b__ = true := hb__.2 hc; clear hb__)
      | ((with_reducible refine at_later 104 ?_); (with_reducible refine DFT.run (unhide HhSB) (unhide HON) _ ?_); intro y__)
      | ((with_reducible refine at_later 105 ?_); (with_reducible refine DFT.run (unhide HhMan) (unhide HON) _ ?_); intro y__)
      | ((with_reducible refine at_later 107 ?_); (with_reducible refine DFT.run (unhide HhCl) (unhide HON) _ ?_); intro y__)
      | fail)
    all_goals exact unhide HK _ (hB _)
  · go_enter Oaag.func54, Oaag.ntmps54
    go_wp2_with (first
      | ((with_reducible refine at_later 67 ?_); refine Ret.run (fmtOk_ret 11 52 hf) _ ?_; rintro _ y__ rfl)
      | ((with_reducible refine at_later 39 ?_); refine Ret.run (decOk_ret _ d e h1 h2 hd) _ ?_; rintro _ y__ ⟨b__, rfl, hb__⟩; obtain rfl : b__ = true := hb__.2 hc; clear hb__)
      | ((with_reducible refine at_later 104 ?_); (with_reducible refine DFT.run (unhide HhSB) (unhide HON) _ ?_); intro y__)
      | ((with_reducible refine at_later 105 ?_); (with_reducible refine DFT.run (unhide HhMan) (unhide HON) _ ?_); intro y__)
      | ((with_reducible refine at_later 107 ?_); (with_reducible refine DFT.run (unhide HhCl) (unhide HON) _ ?_); intro y__)
      | fail)
    refine Go.LaxQ.region_guarded _ 9 3 [4, 5, 6] [(1, fun v => v = .agg #[.int .u8 11, .int .u8 52]), (7, fun v => v = .bool false)] [] (fun _ => True) (by kernel_rfl) (by kernel_rfl) (by kernel_rfl) (by kernel_rfl) trivial (fun _ _ _ _ => trivial) (fun _ h => by cases h) (List.forall_mem_cons.2 ⟨⟨_, rfl⟩, List.forall_mem_cons.2 ⟨⟨_, rfl⟩, fun _ h => by cases h⟩⟩) ?_
    (refine Go.LaxQ.walk_det rfl rfl rfl rfl rfl ?_; go_big_quiet_want; go_big_quiet_op; go_big_quiet_on; refine wpQuiet_nil ?_)
    refine Go.LaxQ.q_call rfl rfl rfl rfl (fun _ _ _ _ => trivial) ?_ (fun y K hI hG hK => by
        go_wp2_with fail
        refine fmt74_ret _ _ ?_
        rintro _ w' rfl hb
        have hh := Go.Proofs.YgcoaaGreat.NatW.hide (hK _ w' rfl trivial hb)
        clear hK
        go_wp2_with fail
        exact Eq.mp (by kernel_rfl) (Go.Proofs.YgcoaaGreat.NatW.unhide hh))
    rintro v9 rfl
    ((try dsimp only); go_big_quiet_want; go_big_quiet_op; go_big_quiet_on; refine wpQuiet_nil ?_)
    (refine Go.LaxQ.walk_det rfl rfl rfl rfl rfl ?_; go_big_quiet_want; go_big_quiet_op; go_big_quiet_on; refine wpQuiet_nil ?_)
    (refine Go.LaxQ.walk_det rfl rfl rfl rfl rfl ?_; go_big_quiet_want; go_big_quiet_op; go_big_quiet_on; refine wpQuiet_nil ?_)
    (refine Go.LaxQ.walk_skip_mv rfl rfl ?_; (try dsimp only); go_big_quiet_want; go_big_quiet_op; go_big_quiet_on; refine wpQuiet_nil ?_)
    (refine Go.LaxQ.walk_skip_mv rfl rfl ?_; (try dsimp only); go_big_quiet_want; go_big_quiet_op; go_big_quiet_on; refine wpQuiet_nil ?_)
    (refine Go.LaxQ.walk_skip_mv rfl rfl ?_; (try dsimp only); go_big_quiet_want; go_big_quiet_op; go_big_quiet_on; refine wpQuiet_nil ?_)
    refine Go.LaxQ.q_call rfl rfl rfl rfl (fun _ _ _ _ => trivial) ?_ (fun y K hI hG hK => by
        have HK := hide hK
        clear hK
        go_wp2_with fail
        exact unhide HK _ _ rfl trivial (Below.refl _ _))
    rintro v9 rfl
    ((try dsimp only); go_big_quiet_want; go_big_quiet_op; go_big_quiet_on; refine wpQuiet_nil ?_)
    (refine Go.LaxQ.walk_det rfl rfl rfl rfl rfl ?_; go_big_quiet_want; go_big_quiet_op; go_big_quiet_on; refine wpQuiet_nil ?_)
    refine Go.LaxQ.q_end ?_
    intro y hI hG
    clear hI hG
    go_wp2_with (first
      | ((with_reducible refine at_later 67 ?_); refine Ret.run (fmtOk_ret 11 52 hf) _ ?_; rintro _ y__ rfl)
      | ((with_reducible refine at_later 39 ?_); refine Ret.run (decOk_ret _ d e h1 h2 hd) _ ?_; rintro _ y__ ⟨b__, rfl, hb__⟩; obtain rfl : b__ = true := hb__.2 hc; clear hb__)
      | ((with_reducible refine at_later 104 ?_); (with_reducible refine DFT.run (unhide HhSB) (unhide HON) _ ?_); intro y__)
      | ((with_reducible refine at_later 105 ?_); (with_reducible refine DFT.run (unhide HhMan) (unhide HON) _ ?_); intro y__)
      | ((with_reducible refine at_later 107 ?_); (with_reducible refine DFT.run (unhide HhCl) (unhide HON) _ ?_); intro y__)
      | fail)
    all_goals exact unhide HK _ (hB _)
  · go_enter Oaag.func54, Oaag.ntmps54
    go_wp2_with (first
      | ((with_reducible refine at_later 67 ?_); refine Ret.run (fmtOk_ret 11 52 hf) _ ?_; rintro _ y__ rfl)
      | ((with_reducible refine at_later 39 ?_); refine Ret.run (decOk_ret _ d e h1 h2 hd) _ ?_; rintro _ y__ ⟨b__, rfl, hb__⟩; obtain rfl : b__ = true := hb__.2 hc; clear hb__)
      | ((with_reducible refine at_later 104 ?_); (with_reducible refine DFT.run (unhide HhSB) (unhide HON) _ ?_); intro y__)
      | ((with_reducible refine at_later 105 ?_); (with_reducible refine DFT.run (unhide HhMan) (unhide HON) _ ?_); intro y__)
      | ((with_reducible refine at_later 107 ?_); (with_reducible refine DFT.run (unhide HhCl) (unhide HON) _ ?_); intro y__)
      | fail)
    refine Go.LaxQ.region_guarded _ 9 3 [4, 5, 6] [(1, fun v => v = .agg #[.int .u8 11, .int .u8 52]), (7, fun v => v = .bool false)] [] (fun _ => True) (by kernel_rfl) (by kernel_rfl) (by kernel_rfl) (by kernel_rfl) trivial (fun _ _ _ _ => trivial) (fun _ h => by cases h) (List.forall_mem_cons.2 ⟨⟨_, rfl⟩, List.forall_mem_cons.2 ⟨⟨_, rfl⟩, fun _ h => by cases h⟩⟩) ?_
    (refine Go.LaxQ.walk_det rfl rfl rfl rfl rfl ?_; go_big_quiet_want; go_big_quiet_op; go_big_quiet_on; refine wpQuiet_nil ?_)
    refine Go.LaxQ.q_call rfl rfl rfl rfl (fun _ _ _ _ => trivial) ?_ (fun y K hI hG hK => by
        go_wp2_with fail
        refine fmt74_ret _ _ ?_
        rintro _ w' rfl hb
        have hh := Go.Proofs.YgcoaaGreat.NatW.hide (hK _ w' rfl trivial hb)
        clear hK
        go_wp2_with fail
        exact Eq.mp (by kernel_rfl) (Go.Proofs.YgcoaaGreat.NatW.unhide hh))
    rintro v9 rfl
    ((try dsimp only); go_big_quiet_want; go_big_quiet_op; go_big_quiet_on; refine wpQuiet_nil ?_)
    (refine Go.LaxQ.walk_det rfl rfl rfl rfl rfl ?_; go_big_quiet_want; go_big_quiet_op; go_big_quiet_on; refine wpQuiet_nil ?_)
    (refine Go.LaxQ.walk_det rfl rfl rfl rfl rfl ?_; go_big_quiet_want; go_big_quiet_op; go_big_quiet_on; refine wpQuiet_nil ?_)
    (refine Go.LaxQ.walk_skip_mv rfl rfl ?_; (try dsimp only); go_big_quiet_want; go_big_quiet_op; go_big_quiet_on; refine wpQuiet_nil ?_)
    (refine Go.LaxQ.walk_skip_mv rfl rfl ?_; (try dsimp only); go_big_quiet_want; go_big_quiet_op; go_big_quiet_on; refine wpQuiet_nil ?_)
    (refine Go.LaxQ.walk_skip_mv rfl rfl ?_; (try dsimp only); go_big_quiet_want; go_big_quiet_op; go_big_quiet_on; refine wpQuiet_nil ?_)
    refine Go.LaxQ.q_call rfl rfl rfl rfl (fun _ _ _ _ => trivial) ?_ (fun y K hI hG hK => by
        have HK := hide hK
        clear hK
        go_wp2_with fail
        exact unhide HK _ _ rfl trivial (Below.refl _ _))
    rintro v9 rfl
    ((try dsimp only); go_big_quiet_want; go_big_quiet_op; go_big_quiet_on; refine wpQuiet_nil ?_)
    (refine Go.LaxQ.walk_det rfl rfl rfl rfl rfl ?_; go_big_quiet_want; go_big_quiet_op; go_big_quiet_on; refine wpQuiet_nil ?_)
    refine Go.LaxQ.q_end ?_
    intro y hI hG
    clear hI hG
    go_wp2_with (first
      | ((with_reducible refine at_later 67 ?_); refine Ret.run (fmtOk_ret 11 52 hf) _ ?_; rintro _ y__ rfl)
      | ((with_reducible refine at_later 39 ?_); refine Ret.run (decOk_ret _ d e h1 h2 hd) _ ?_; rintro _ y__ ⟨b__, rfl, hb__⟩; obtain rfl : b__ = true := hb__.2 hc; clear hb__)
      | ((with_reducible refine at_later 104 ?_); (with_reducible refine DFT.run (unhide HhSB) (unhide HON) _ ?_); intro y__)
      | ((with_reducible refine at_later 105 ?_); (with_reducible refine DFT.run (unhide HhMan) (unhide HON) _ ?_); intro y__)
      | ((with_reducible refine at_later 107 ?_); (with_reducible refine DFT.run (unhide HhCl) (unhide HON) _ ?_); intro y__)
      | fail)
    all_goals exact unhide HK _ (hB _)

set_option maxHeartbeats 4000000 in
theorem pl_54_11_Sft (md : Int) (hmd : md = 0 ∨ 4 < md) (n : Bool) (d : ByteArray) (e : Int) (h1 : -32768 ≤ e) (h2 : e ≤ 32767) (hd : d.size ≤ 1000000) (hc : Canon d e) (hz : ¬ d.size = 0) (fast : Bool) (sb : Int) (tb : Nat) (hSB : DFT tb 104 #[.agg #[.int .u8 11, .int .u8 52]] (.int .u64 sb)) (h19 : d.size ≤ 19) (man : Int) (hMan : DFT tb 105 #[.string d] (.int .u64 man)) (hfa : fast = false) (lo : Int) (hLo : DFT tb 106 #[.pointer (some ⟨tb, 0, none⟩), .agg #[.int .u8 11, .int .u8 52], .int .u64 man, .int .i16 e] (.tuple #[.int .u64 lo, .bool true])) : DFT tb 54 #[.pointer (some ⟨tb, 0, none⟩), fmt 11 52, .int .u8 md, .agg #[.bool n, .string d, .int .i16 e], .bool fast] (.tuple #[.int .u64 (bits .or .u64 lo (psg n sb)), .int .u8 2]) := by
  intro w K ho hK
  have hf : fok 11 52 = true := rfl
  have hsz : d.size ≤ 800 := by rcases hc with h | h <;> omega
  have he1 : -2000 ≤ e ∧ e ≤ 2000 := by rcases hc with h | h <;> omega
  have hz' : ((d.size : Int) == 0) = false := beq_eq_false_iff_ne.2 (by omega)
  have HK := hide hK
  clear hK
  obtain ⟨wb, x0, hwb, r0, r1, hB, hZ⟩ := boxes2 w #[.int .u8 11, .int .u8 52] #[.bool n, .string d, .int .i16 e] 23 74
  have c00 : ∀ x : Later wb, _ = some (.int .u8 11 : Value) := Later.cell r0 0 _ rfl
  have c01 : ∀ x : Later wb, _ = some (.int .u8 52 : Value) := Later.cell r0 1 _ rfl
  have c10 : ∀ x : Later wb, _ = some (.bool n : Value) := Later.cell r1 0 _ rfl
  have c11 : ∀ x : Later wb, _ = some (.string d : Value) := Later.cell r1 1 _ rfl
  have c12 : ∀ x : Later wb, _ = some (.int .i16 e : Value) := Later.cell r1 2 _ rfl
  have hne : Nonempty (Later wb) := ⟨x0⟩
  have hon : ∀ y : Later wb, On tb y.at_ := fun y => ho.later (hB y)
  have HON := hide hon
  have HhSB := hide hSB
  have HhMan := hide hMan
  have HhLo := hide hLo
  clear ho hon r0 r1 hSB hMan hLo
  have hmz : ∃ zb : Bool, (md != 0) = zb ∧ (zb = true → decide (md ≤ 4) = false) := by
    rcases hmd with rfl | h
    · exact ⟨false, rfl, fun h => by cases h⟩
    · exact ⟨true, by simp; omega, fun _ => by simp; omega⟩
  obtain ⟨zb, hzb, hz4⟩ := hmz
  clear hmd
  cases n <;> cases zb
  all_goals
    first
    | (have hz5 := hz4 rfl; clear hz4)
    | clear hz4
  · go_enter Oaag.func54, Oaag.ntmps54
    go_wp2_with (first
      | ((with_reducible refine at_later 67 ?_); refine Ret.run (fmtOk_ret 11 52 hf) _ ?_; rintro _ y__ rfl)
      | ((with_reducible refine at_later 39 ?_); refine Ret.run (decOk_ret _ d e h1 h2 hd) _ ?_; rintro _ y__ ⟨b__, rfl, hb__⟩; obtain rfl : b__ = true := hb__.2 hc; clear hb__)
      | ((with_reducible refine at_later 104 ?_); (with_reducible refine DFT.run (unhide HhSB) (unhide HON) _ ?_); intro y__)
      | ((with_reducible refine at_later 105 ?_); (with_reducible refine DFT.run (unhide HhMan) (unhide HON) _ ?_); intro y__)
      | ((with_reducible refine at_later 106 ?_); (with_reducible refine DFT.run (unhide HhLo) (unhide HON) _ ?_); intro y__)
      | fail)
    refine Go.LaxQ.region_guarded _ 9 3 [4, 5, 6] [(1, fun v => v = .agg #[.int .u8 11, .int .u8 52]), (7, fun v => v = .bool false)] [] (fun _ => True) (by kernel_rfl) (by kernel_rfl) (by kernel_rfl) (by kernel_rfl) trivial (fun _ _ _ _ => trivial) (fun _ h => by cases h) (List.forall_mem_cons.2 ⟨⟨_, rfl⟩, List.forall_mem_cons.2 ⟨⟨_, rfl⟩, fun _ h => by cases h⟩⟩) ?_
    (refine Go.LaxQ.walk_det rfl rfl rfl rfl rfl ?_; go_big_quiet_want; go_big_quiet_op; go_big_quiet_on; refine wpQuiet_nil ?_)
    refine Go.LaxQ.q_call rfl rfl rfl rfl (fun _ _ _ _ => trivial) ?_ (fun y K hI hG hK => by
        go_wp2_with fail
        refine fmt74_ret _ _ ?_
        rintro _ w' rfl hb
        have hh := Go.Proofs.YgcoaaGreat.NatW.hide (hK _ w' rfl trivial hb)
        clear hK
        go_wp2_with fail
        exact Eq.mp (by kernel_rfl) (Go.Proofs.YgcoaaGreat.NatW.unhide hh))
    rintro v9 rfl
    ((try dsimp only); go_big_quiet_want; go_big_quiet_op; go_big_quiet_on; refine wpQuiet_nil ?_)
    (refine Go.LaxQ.walk_det rfl rfl rfl rfl rfl ?_; go_big_quiet_want; go_big_quiet_op; go_big_quiet_on; refine wpQuiet_nil ?_)
    (refine Go.LaxQ.walk_det rfl rfl rfl rfl rfl ?_; go_big_quiet_want; go_big_quiet_op; go_big_quiet_on; refine wpQuiet_nil ?_)
    (refine Go.LaxQ.walk_skip_mv rfl rfl ?_; (try dsimp only); go_big_quiet_want; go_big_quiet_op; go_big_quiet_on; refine wpQuiet_nil ?_)
    (refine Go.LaxQ.walk_skip_mv rfl rfl ?_; (try dsimp only); go_big_quiet_want; go_big_quiet_op; go_big_quiet_on; refine wpQuiet_nil ?_)
    (refine Go.LaxQ.walk_skip_mv rfl rfl ?_; (try dsimp only); go_big_quiet_want; go_big_quiet_op; go_big_quiet_on; refine wpQuiet_nil ?_)
    refine Go.LaxQ.q_call rfl rfl rfl rfl (fun _ _ _ _ => trivial) ?_ (fun y K hI hG hK => by
        have HK := hide hK
        clear hK
        go_wp2_with fail
        exact unhide HK _ _ rfl trivial (Below.refl _ _))
    rintro v9 rfl
    ((try dsimp only); go_big_quiet_want; go_big_quiet_op; go_big_quiet_on; refine wpQuiet_nil ?_)
    (refine Go.LaxQ.walk_det rfl rfl rfl rfl rfl ?_; go_big_quiet_want; go_big_quiet_op; go_big_quiet_on; refine wpQuiet_nil ?_)
    refine Go.LaxQ.q_end ?_
    intro y hI hG
    clear hI hG
    go_wp2_with (first
      | ((with_reducible refine at_later 67 ?_); refine Ret.run (fmtOk_ret 11 52 hf) _ ?_; rintro _ y__ rfl)
      | ((with_reducible refine at_later 39 ?_); refine Ret.run (decOk_ret _ d e h1 h2 hd) _ ?_; rintro _ y__ ⟨b__, rfl, hb__⟩; obtain rfl : b__ = true := hb__.2 hc; clear hb__)
      | ((with_reducible refine at_later 104 ?_); (with_reducible refine DFT.run (unhide HhSB) (unhide HON) _ ?_); intro y__)
      | ((with_reducible refine at_later 105 ?_); (with_reducible refine DFT.run (unhide HhMan) (unhide HON) _ ?_); intro y__)
      | ((with_reducible refine at_later 106 ?_); (with_reducible refine DFT.run (unhide HhLo) (unhide HON) _ ?_); intro y__)
      | fail)
    all_goals exact unhide HK _ (hB _)
  · go_enter Oaag.func54, Oaag.ntmps54
    go_wp2_with (first
      | ((with_reducible refine at_later 67 ?_); refine Ret.run (fmtOk_ret 11 52 hf) _ ?_; rintro _ y__ rfl)
      | ((with_reducible refine at_later 39 ?_); refine Ret.run (decOk_ret _ d e h1 h2 hd) _ ?_; rintro _ y__ ⟨b__, rfl, hb__⟩; obtain rfl : b__ = true := hb__.2 hc; clear hb__)
      | ((with_reducible refine at_later 104 ?_); (with_reducible refine DFT.run (unhide HhSB) (unhide HON) _ ?_); intro y__)
      | ((with_reducible refine at_later 105 ?_); (with_reducible refine DFT.run (unhide HhMan) (unhide HON) _ ?_); intro y__)
      | ((with_reducible refine at_later 106 ?_); (with_reducible refine DFT.run (unhide HhLo) (unhide HON) _ ?_); intro y__)
      | fail)
    refine Go.LaxQ.region_guarded _ 9 3 [4, 5, 6] [(1, fun v => v = .agg #[.int .u8 11, .int .u8 52]), (7, fun v => v = .bool false)] [] (fun _ => True) (by kernel_rfl) (by kernel_rfl) (by kernel_rfl) (by kernel_rfl) trivial (fun _ _ _ _ => trivial) (fun _ h => by cases h) (List.forall_mem_cons.2 ⟨⟨_, rfl⟩, List.forall_mem_cons.2 ⟨⟨_, rfl⟩, fun _ h => by cases h⟩⟩) ?_
    (refine Go.LaxQ.walk_det rfl rfl rfl rfl rfl ?_; go_big_quiet_want; go_big_quiet_op; go_big_quiet_on; refine wpQuiet_nil ?_)
    refine Go.LaxQ.q_call rfl rfl rfl rfl (fun _ _ _ _ => trivial) ?_ (fun y K hI hG hK => by
        go_wp2_with fail
        refine fmt74_ret _ _ ?_
        rintro _ w' rfl hb
        have hh := Go.Proofs.YgcoaaGreat.NatW.hide (hK _ w' rfl trivial hb)
        clear hK
        go_wp2_with fail
        exact Eq.mp (by kernel_rfl) (Go.Proofs.YgcoaaGreat.NatW.unhide hh))
    rintro v9 rfl
    ((try dsimp only); go_big_quiet_want; go_big_quiet_op; go_big_quiet_on; refine wpQuiet_nil ?_)
    (refine Go.LaxQ.walk_det rfl rfl rfl rfl rfl ?_; go_big_quiet_want; go_big_quiet_op; go_big_quiet_on; refine wpQuiet_nil ?_)
    (refine Go.LaxQ.walk_det rfl rfl rfl rfl rfl ?_; go_big_quiet_want; go_big_quiet_op; go_big_quiet_on; refine wpQuiet_nil ?_)
    (refine Go.LaxQ.walk_skip_mv rfl rfl ?_; (try dsimp only); go_big_quiet_want; go_big_quiet_op; go_big_quiet_on; refine wpQuiet_nil ?_)
    (refine Go.LaxQ.walk_skip_mv rfl rfl ?_; (try dsimp only); go_big_quiet_want; go_big_quiet_op; go_big_quiet_on; refine wpQuiet_nil ?_)
    (refine Go.LaxQ.walk_skip_mv rfl rfl ?_; (try dsimp only); go_big_quiet_want; go_big_quiet_op; go_big_quiet_on; refine wpQuiet_nil ?_)
    refine Go.LaxQ.q_call rfl rfl rfl rfl (fun _ _ _ _ => trivial) ?_ (fun y K hI hG hK => by
        have HK := hide hK
        clear hK
        go_wp2_with fail
        exact unhide HK _ _ rfl trivial (Below.refl _ _))
    rintro v9 rfl
    ((try dsimp only); go_big_quiet_want; go_big_quiet_op; go_big_quiet_on; refine wpQuiet_nil ?_)
    (refine Go.LaxQ.walk_det rfl rfl rfl rfl rfl ?_; go_big_quiet_want; go_big_quiet_op; go_big_quiet_on; refine wpQuiet_nil ?_)
    refine Go.LaxQ.q_end ?_
    intro y hI hG
    clear hI hG
    go_wp2_with (first
      | ((with_reducible refine at_later 67 ?_); refine Ret.run (fmtOk_ret 11 52 hf) _ ?_; rintro _ y__ rfl)
      | ((with_reducible refine at_later 39 ?_); refine Ret.run (decOk_ret _ d e h1 h2 hd) _ ?_; rintro _ y__ ⟨b__, rfl, hb__⟩; obtain rfl : b__ = true := hb__.2 hc; clear hb__)
      | ((with_reducible refine at_later 104 ?_); (with_reducible refine DFT.run (unhide HhSB) (unhide HON) _ ?_); intro y__)
      | ((with_reducible refine at_later 105 ?_); (with_reducible refine DFT.run (unhide HhMan) (unhide HON) _ ?_); intro y__)
      | ((with_reducible refine at_later 106 ?_); (with_reducible refine DFT.run (unhide HhLo) (unhide HON) _ ?_); intro y__)
      | fail)
    all_goals exact unhide HK _ (hB _)
  · go_enter Oaag.func54, Oaag.ntmps54
    go_wp2_with (first
      | ((with_reducible refine at_later 67 ?_); refine Ret.run (fmtOk_ret 11 52 hf) _ ?_; rintro _ y__ rfl)
      | ((with_reducible refine at_later 39 ?_); refine Ret.run (decOk_ret _ d e h1 h2 hd) _ ?_; rintro _ y__ ⟨b__, rfl, hb__⟩; obtain rfl : b__ = true := hb__.2 hc; clear hb__)
      | ((with_reducible refine at_later 104 ?_); (with_reducible refine DFT.run (unhide HhSB) (unhide HON) _ ?_); intro y__)
      | ((with_reducible refine at_later 105 ?_); (with_reducible refine DFT.run (unhide HhMan) (unhide HON) _ ?_); intro y__)
      | ((with_reducible refine at_later 106 ?_); (with_reducible refine DFT.run (unhide HhLo) (unhide HON) _ ?_); intro y__)
      | fail)
    refine Go.LaxQ.region_guarded _ 9 3 [4, 5, 6] [(1, fun v => v = .agg #[.int .u8 11, .int .u8 52]), (7, fun v => v = .bool false)] [] (fun _ => True) (by kernel_rfl) (by kernel_rfl) (by kernel_rfl) (by kernel_rfl) trivial (fun _ _ _ _ => trivial) (fun _ h => by cases h) (List.forall_mem_cons.2 ⟨⟨_, rfl⟩, List.forall_mem_cons.2 ⟨⟨_, rfl⟩, fun _ h => by cases h⟩⟩) ?_
    (refine Go.LaxQ.walk_det rfl rfl rfl rfl rfl ?_; go_big_quiet_want; go_big_quiet_op; go_big_quiet_on; refine wpQuiet_nil ?_)
    refine Go.LaxQ.q_call rfl rfl rfl rfl (fun _ _ _ _ => trivial) ?_ (fun y K hI hG hK => by
        go_wp2_with fail
        refine fmt74_ret _ _ ?_
        rintro _ w' rfl hb
        have hh := Go.Proofs.YgcoaaGreat.NatW.hide (hK _ w' rfl trivial hb)
        clear hK
        go_wp2_with fail
        exact Eq.mp (by kernel_rfl) (Go.Proofs.YgcoaaGreat.NatW.unhide hh))
    rintro v9 rfl
    ((try dsimp only); go_big_quiet_want; go_big_quiet_op; go_big_quiet_on; refine wpQuiet_nil ?_)
    (refine Go.LaxQ.walk_det rfl rfl rfl rfl rfl ?_; go_big_quiet_want; go_big_quiet_op; go_big_quiet_on; refine wpQuiet_nil ?_)
    (refine Go.LaxQ.walk_det rfl rfl rfl rfl rfl ?_; go_big_quiet_want; go_big_quiet_op; go_big_quiet_on; refine wpQuiet_nil ?_)
    (refine Go.LaxQ.walk_skip_mv rfl rfl ?_; (try dsimp only); go_big_quiet_want; go_big_quiet_op; go_big_quiet_on; refine wpQuiet_nil ?_)
    (refine Go.LaxQ.walk_skip_mv rfl rfl ?_; (try dsimp only); go_big_quiet_want; go_big_quiet_op; go_big_quiet_on; refine wpQuiet_nil ?_)
    (refine Go.LaxQ.walk_skip_mv rfl rfl ?_; (try dsimp only); go_big_quiet_want; go_big_quiet_op; go_big_quiet_on; refine wpQuiet_nil ?_)
    refine Go.LaxQ.q_call rfl rfl rfl rfl (fun _ _ _ _ => trivial) ?_ (fun y K hI hG hK => by
        have HK := hide hK
        clear hK
        go_wp2_with fail
        exact unhide HK _ _ rfl trivial (Below.refl _ _))
    rintro v9 rfl
    ((try dsimp only); go_big_quiet_want; go_big_quiet_op; go_big_quiet_on; refine wpQuiet_nil ?_)
    (refine Go.LaxQ.walk_det rfl rfl rfl rfl rfl ?_; go_big_quiet_want; go_big_quiet_op; go_big_quiet_on; refine wpQuiet_nil ?_)
    refine Go.LaxQ.q_end ?_
    intro y hI hG
    clear hI hG
    go_wp2_with (first
      | ((with_reducible refine at_later 67 ?_); refine Ret.run (fmtOk_ret 11 52 hf) _ ?_; rintro _ y__ rfl)
      | ((with_reducible refine at_later 39 ?_); refine Ret.run (decOk_ret _ d e h1 h2 hd) _ ?_; rintro _ y__ ⟨b__, rfl, hb__⟩; obtain rfl : b__ = true := hb__.2 hc; clear hb__)
      | ((with_reducible refine at_later 104 ?_); (with_reducible refine DFT.run (unhide HhSB) (unhide HON) _ ?_); intro y__)
      | ((with_reducible refine at_later 105 ?_); (with_reducible refine DFT.run (unhide HhMan) (unhide HON) _ ?_); intro y__)
      | ((with_reducible refine at_later 106 ?_); (with_reducible refine DFT.run (unhide HhLo) (unhide HON) _ ?_); intro y__)
      | fail)
    all_goals exact unhide HK _ (hB _)
  · go_enter Oaag.func54, Oaag.ntmps54
    go_wp2_with (first
      | ((with_reducible refine at_later 67 ?_); refine Ret.run (fmtOk_ret 11 52 hf) _ ?_; rintro _ y__ rfl)
      | ((with_reducible refine at_later 39 ?_); refine Ret.run (decOk_ret _ d e h1 h2 hd) _ ?_; rintro _ y__ ⟨b__, rfl, hb__⟩; obtain rfl : b__ = true := hb__.2 hc; clear hb__)
      | ((with_reducible refine at_later 104 ?_); (with_reducible refine DFT.run (unhide HhSB) (unhide HON) _ ?_); intro y__)
      | ((with_reducible refine at_later 105 ?_); (with_reducible refine DFT.run (unhide HhMan) (unhide HON) _ ?_); intro y__)
      | ((with_reducible refine at_later 106 ?_); (with_reducible refine DFT.run (unhide HhLo) (unhide HON) _ ?_); intro y__)
      | fail)
    refine Go.LaxQ.region_guarded _ 9 3 [4, 5, 6] [(1, fun v => v = .agg #[.int .u8 11, .int .u8 52]), (7, fun v => v = .bool false)] [] (fun _ => True) (by kernel_rfl) (by kernel_rfl) (by kernel_rfl) (by kernel_rfl) trivial (fun _ _ _ _ => trivial) (fun _ h => by cases h) (List.forall_mem_cons.2 ⟨⟨_, rfl⟩, List.forall_mem_cons.2 ⟨⟨_, rfl⟩, fun _ h => by cases h⟩⟩) ?_
    (refine Go.LaxQ.walk_det rfl rfl rfl rfl rfl ?_; go_big_quiet_want; go_big_quiet_op; go_big_quiet_on; refine wpQuiet_nil ?_)
    refine Go.LaxQ.q_call rfl rfl rfl rfl (fun _ _ _ _ => trivial) ?_ (fun y K hI hG hK => by
        go_wp2_with fail
        refine fmt74_ret _ _ ?_
        rintro _ w' rfl hb
        have hh := Go.Proofs.YgcoaaGreat.NatW.hide (hK _ w' rfl trivial hb)
        clear hK
        go_wp2_with fail
        exact Eq.mp (by kernel_rfl) (Go.Proofs.YgcoaaGreat.NatW.unhide hh))
    rintro v9 rfl
    ((try dsimp only); go_big_quiet_want; go_big_quiet_op; go_big_quiet_on; refine wpQuiet_nil ?_)
    (refine Go.LaxQ.walk_det rfl rfl rfl rfl rfl ?_; go_big_quiet_want; go_big_quiet_op; go_big_quiet_on; refine wpQuiet_nil ?_)
    (refine Go.LaxQ.walk_det rfl rfl rfl rfl rfl ?_; go_big_quiet_want; go_big_quiet_op; go_big_quiet_on; refine wpQuiet_nil ?_)
    (refine Go.LaxQ.walk_skip_mv rfl rfl ?_; (try dsimp only); go_big_quiet_want; go_big_quiet_op; go_big_quiet_on; refine wpQuiet_nil ?_)
    (refine Go.LaxQ.walk_skip_mv rfl rfl ?_; (try dsimp only); go_big_quiet_want; go_big_quiet_op; go_big_quiet_on; refine wpQuiet_nil ?_)
    (refine Go.LaxQ.walk_skip_mv rfl rfl ?_; (try dsimp only); go_big_quiet_want; go_big_quiet_op; go_big_quiet_on; refine wpQuiet_nil ?_)
    refine Go.LaxQ.q_call rfl rfl rfl rfl (fun _ _ _ _ => trivial) ?_ (fun y K hI hG hK => by
        have HK := hide hK
        clear hK
        go_wp2_with fail
        exact unhide HK _ _ rfl trivial (Below.refl _ _))
    rintro v9 rfl
    ((try dsimp only); go_big_quiet_want; go_big_quiet_op; go_big_quiet_on; refine wpQuiet_nil ?_)
    (refine Go.LaxQ.walk_det rfl rfl rfl rfl rfl ?_; go_big_quiet_want; go_big_quiet_op; go_big_quiet_on; refine wpQuiet_nil ?_)
    refine Go.LaxQ.q_end ?_
    intro y hI hG
    clear hI hG
    go_wp2_with (first
      | ((with_reducible refine at_later 67 ?_); refine Ret.run (fmtOk_ret 11 52 hf) _ ?_; rintro _ y__ rfl)
      | ((with_reducible refine at_later 39 ?_); refine Ret.run (decOk_ret _ d e h1 h2 hd) _ ?_; rintro _ y__ ⟨b__, rfl, hb__⟩; obtain rfl : b__ = true := hb__.2 hc; clear hb__)
      | ((with_reducible refine at_later 104 ?_); (with_reducible refine DFT.run (unhide HhSB) (unhide HON) _ ?_); intro y__)
      | ((with_reducible refine at_later 105 ?_); (with_reducible refine DFT.run (unhide HhMan) (unhide HON) _ ?_); intro y__)
      | ((with_reducible refine at_later 106 ?_); (with_reducible refine DFT.run (unhide HhLo) (unhide HON) _ ?_); intro y__)
      | fail)
    all_goals exact unhide HK _ (hB _)

set_option maxHeartbeats 4000000 in
theorem pl_54_11_Sfs (md : Int) (hmd : md = 0 ∨ 4 < md) (n : Bool) (d : ByteArray) (e : Int) (h1 : -32768 ≤ e) (h2 : e ≤ 32767) (hd : d.size ≤ 1000000) (hc : Canon d e) (hz : ¬ d.size = 0) (fast : Bool) (sb : Int) (tb : Nat) (hSB : DFT tb 104 #[.agg #[.int .u8 11, .int .u8 52]] (.int .u64 sb)) (h19 : d.size ≤ 19) (man : Int) (hMan : DFT tb 105 #[.string d] (.int .u64 man)) (hfa : fast = false) (lo : Int) (hLo : DFT tb 106 #[.pointer (some ⟨tb, 0, none⟩), .agg #[.int .u8 11, .int .u8 52], .int .u64 man, .int .i16 e] (.tuple #[.int .u64 lo, .bool false])) (r : Int) (hSl : DFT tb 59 #[.agg #[.int .u8 11, .int .u8 52], .int .u8 md, .agg #[.bool n, .string d, .int .i16 e]] (.int .u64 r)) : DFT tb 54 #[.pointer (some ⟨tb, 0, none⟩), fmt 11 52, .int .u8 md, .agg #[.bool n, .string d, .int .i16 e], .bool fast] (.tuple #[.int .u64 r, .int .u8 4]) := by
  intro w K ho hK
  have hf : fok 11 52 = true := rfl
  have hsz : d.size ≤ 800 := by rcases hc with h | h <;> omega
  have he1 : -2000 ≤ e ∧ e ≤ 2000 := by rcases hc with h | h <;> omega
  have hz' : ((d.size : Int) == 0) = false := beq_eq_false_iff_ne.2 (by omega)
  have HK := hide hK
  clear hK
  obtain ⟨wb, x0, hwb, r0, r1, hB, hZ⟩ := boxes2 w #[.int .u8 11, .int .u8 52] #[.bool n, .string d, .int .i16 e] 23 74
  have c00 : ∀ x : Later wb, _ = some (.int .u8 11 : Value) := Later.cell r0 0 _ rfl
  have c01 : ∀ x : Later wb, _ = some (.int .u8 52 : Value) := Later.cell r0 1 _ rfl
  have c10 : ∀ x : Later wb, _ = some (.bool n : Value) := Later.cell r1 0 _ rfl
  have c11 : ∀ x : Later wb, _ = some (.string d : Value) := Later.cell r1 1 _ rfl
  have c12 : ∀ x : Later wb, _ = some (.int .i16 e : Value) := Later.cell r1 2 _ rfl
  have hne : Nonempty (Later wb) := ⟨x0⟩
  have hon : ∀ y : Later wb, On tb y.at_ := fun y => ho.later (hB y)
  have HON := hide hon
  have HhSB := hide hSB
  have HhMan := hide hMan
  have HhLo := hide hLo
  have HhSl := hide hSl
  clear ho hon r0 r1 hSB hMan hLo hSl
  have hmz : ∃ zb : Bool, (md != 0) = zb ∧ (zb = true → decide (md ≤ 4) = false) := by
    rcases hmd with rfl | h
    · exact ⟨false, rfl, fun h => by cases h⟩
    · exact ⟨true, by simp; omega, fun _ => by simp; omega⟩
  obtain ⟨zb, hzb, hz4⟩ := hmz
  clear hmd
  cases n <;> cases zb
  all_goals
    first
    | (have hz5 := hz4 rfl; clear hz4)
    | clear hz4
  · go_enter Oaag.func54, Oaag.ntmps54
    go_wp2_with (first
      | ((with_reducible refine at_later 67 ?_); refine Ret.run (fmtOk_ret 11 52 hf) _ ?_; rintro _ y__ rfl)
      | ((with_reducible refine at_later 39 ?_); refine Ret.run (decOk_ret _ d e h1 h2 hd) _ ?_; rintro _ y__ ⟨b__, rfl, hb__⟩; obtain rfl : b__ = true := hb__.2 hc; clear hb__)
      | ((with_reducible refine at_later 104 ?_); (with_reducible refine DFT.run (unhide HhSB) (unhide HON) _ ?_); intro y__)
      | ((with_reducible refine at_later 105 ?_); (with_reducible refine DFT.run (unhide HhMan) (unhide HON) _ ?_); intro y__)
      | ((with_reducible refine at_later 106 ?_); (with_reducible refine DFT.run (unhide HhLo) (unhide HON) _ ?_); intro y__)
      | ((with_reducible refine at_later 59 ?_); (with_reducible refine DFT.run (unhide HhSl) (unhide HON) _ ?_); intro y__)
      | fail)
    refine Go.LaxQ.region_guarded _ 9 3 [4, 5, 6] [(1, fun v => v = .agg #[.int .u8 11, .int .u8 52]), (7, fun v => v = .bool false)] [] (fun _ => True) (by kernel_rfl) (by kernel_rfl) (by kernel_rfl) (by kernel_rfl) trivial (fun _ _ _ _ => trivial) (fun _ h => by cases h) (List.forall_mem_cons.2 ⟨⟨_, rfl⟩, List.forall_mem_cons.2 ⟨⟨_, rfl⟩, fun _ h => by cases h⟩⟩) ?_
    (refine Go.LaxQ.walk_det rfl rfl rfl rfl rfl ?_; go_big_quiet_want; go_big_quiet_op; go_big_quiet_on; refine wpQuiet_nil ?_)
    refine Go.LaxQ.q_call rfl rfl rfl rfl (fun _ _ _ _ => trivial) ?_ (fun y K hI hG hK => by
        go_wp2_with fail
        refine fmt74_ret _ _ ?_
        rintro _ w' rfl hb
        have hh := Go.Proofs.YgcoaaGreat.NatW.hide (hK _ w' rfl trivial hb)
        clear hK
        go_wp2_with fail
        exact Eq.mp (by kernel_rfl) (Go.Proofs.YgcoaaGreat.NatW.unhide hh))
    rintro v9 rfl
    ((try dsimp only); go_big_quiet_want; go_big_quiet_op; go_big_quiet_on; refine wpQuiet_nil ?_)
    (refine Go.LaxQ.walk_det rfl rfl rfl rfl rfl ?_; go_big_quiet_want; go_big_quiet_op; go_big_quiet_on; refine wpQuiet_nil ?_)
    (refine Go.LaxQ.walk_det rfl rfl rfl rfl rfl ?_; go_big_quiet_want; go_big_quiet_op; go_big_quiet_on; refine wpQuiet_nil ?_)
    (refine Go.LaxQ.walk_skip_mv rfl rfl ?_; (try dsimp only); go_big_quiet_want; go_big_quiet_op; go_big_quiet_on; refine wpQuiet_nil ?_)
    (refine Go.LaxQ.walk_skip_mv rfl rfl ?_; (try dsimp only); go_big_quiet_want; go_big_quiet_op; go_big_quiet_on; refine wpQuiet_nil ?_)
    (refine Go.LaxQ.walk_skip_mv rfl rfl ?_; (try dsimp only); go_big_quiet_want; go_big_quiet_op; go_big_quiet_on; refine wpQuiet_nil ?_)
    refine Go.LaxQ.q_call rfl rfl rfl rfl (fun _ _ _ _ => trivial) ?_ (fun y K hI hG hK => by
        have HK := hide hK
        clear hK
        go_wp2_with fail
        exact unhide HK _ _ rfl trivial (Below.refl _ _))
    rintro v9 rfl
    ((try dsimp only); go_big_quiet_want; go_big_quiet_op; go_big_quiet_on; refine wpQuiet_nil ?_)
    (refine Go.LaxQ.walk_det rfl rfl rfl rfl rfl ?_; go_big_quiet_want; go_big_quiet_op; go_big_quiet_on; refine wpQuiet_nil ?_)
    refine Go.LaxQ.q_end ?_
    intro y hI hG
    clear hI hG
    go_wp2_with (first
      | ((with_reducible refine at_later 67 ?_); refine Ret.run (fmtOk_ret 11 52 hf) _ ?_; rintro _ y__ rfl)
      | ((with_reducible refine at_later 39 ?_); refine Ret.run (decOk_ret _ d e h1 h2 hd) _ ?_; rintro _ y__ ⟨b__, rfl, hb__⟩; obtain rfl : b__ = true := hb__.2 hc; clear hb__)
      | ((with_reducible refine at_later 104 ?_); (with_reducible refine DFT.run (unhide HhSB) (unhide HON) _ ?_); intro y__)
      | ((with_reducible refine at_later 105 ?_); (with_reducible refine DFT.run (unhide HhMan) (unhide HON) _ ?_); intro y__)
      | ((with_reducible refine at_later 106 ?_); (with_reducible refine DFT.run (unhide HhLo) (unhide HON) _ ?_); intro y__)
      | ((with_reducible refine at_later 59 ?_); (with_reducible refine DFT.run (unhide HhSl) (unhide HON) _ ?_); intro y__)
      | fail)
    all_goals exact unhide HK _ (hB _)
  · go_enter Oaag.func54, Oaag.ntmps54
    go_wp2_with (first
      | ((with_reducible refine at_later 67 ?_); refine Ret.run (fmtOk_ret 11 52 hf) _ ?_; rintro _ y__ rfl)
      | ((with_reducible refine at_later 39 ?_); refine Ret.run (decOk_ret _ d e h1 h2 hd) _ ?_; rintro _ y__ ⟨b__, rfl, hb__⟩; obtain rfl : b__ = true := hb__.2 hc; clear hb__)
      | ((with_reducible refine at_later 104 ?_); (with_reducible refine DFT.run (unhide HhSB) (unhide HON) _ ?_); intro y__)
      | ((with_reducible refine at_later 105 ?_); (with_reducible refine DFT.run (unhide HhMan) (unhide HON) _ ?_); intro y__)
      | ((with_reducible refine at_later 106 ?_); (with_reducible refine DFT.run (unhide HhLo) (unhide HON) _ ?_); intro y__)
      | ((with_reducible refine at_later 59 ?_); (with_reducible refine DFT.run (unhide HhSl) (unhide HON) _ ?_); intro y__)
      | fail)
    refine Go.LaxQ.region_guarded _ 9 3 [4, 5, 6] [(1, fun v => v = .agg #[.int .u8 11, .int .u8 52]), (7, fun v => v = .bool false)] [] (fun _ => True) (by kernel_rfl) (by kernel_rfl) (by kernel_rfl) (by kernel_rfl) trivial (fun _ _ _ _ => trivial) (fun _ h => by cases h) (List.forall_mem_cons.2 ⟨⟨_, rfl⟩, List.forall_mem_cons.2 ⟨⟨_, rfl⟩, fun _ h => by cases h⟩⟩) ?_
    (refine Go.LaxQ.walk_det rfl rfl rfl rfl rfl ?_; go_big_quiet_want; go_big_quiet_op; go_big_quiet_on; refine wpQuiet_nil ?_)
    refine Go.LaxQ.q_call rfl rfl rfl rfl (fun _ _ _ _ => trivial) ?_ (fun y K hI hG hK => by
        go_wp2_with fail
        refine fmt74_ret _ _ ?_
        rintro _ w' rfl hb
        have hh := Go.Proofs.YgcoaaGreat.NatW.hide (hK _ w' rfl trivial hb)
        clear hK
        go_wp2_with fail
        exact Eq.mp (by kernel_rfl) (Go.Proofs.YgcoaaGreat.NatW.unhide hh))
    rintro v9 rfl
    ((try dsimp only); go_big_quiet_want; go_big_quiet_op; go_big_quiet_on; refine wpQuiet_nil ?_)
    (refine Go.LaxQ.walk_det rfl rfl rfl rfl rfl ?_; go_big_quiet_want; go_big_quiet_op; go_big_quiet_on; refine wpQuiet_nil ?_)
    (refine Go.LaxQ.walk_det rfl rfl rfl rfl rfl ?_; go_big_quiet_want; go_big_quiet_op; go_big_quiet_on; refine wpQuiet_nil ?_)
    (refine Go.LaxQ.walk_skip_mv rfl rfl ?_; (try dsimp only); go_big_quiet_want; go_big_quiet_op; go_big_quiet_on; refine wpQuiet_nil ?_)
    (refine Go.LaxQ.walk_skip_mv rfl rfl ?_; (try dsimp only); go_big_quiet_want; go_big_quiet_op; go_big_quiet_on; refine wpQuiet_nil ?_)
    (refine Go.LaxQ.walk_skip_mv rfl rfl ?_; (try dsimp only); go_big_quiet_want; go_big_quiet_op; go_big_quiet_on; refine wpQuiet_nil ?_)
    refine Go.LaxQ.q_call rfl rfl rfl rfl (fun _ _ _ _ => trivial) ?_ (fun y K hI hG hK => by
        have HK := hide hK
        clear hK
        go_wp2_with fail
        exact unhide HK _ _ rfl trivial (Below.refl _ _))
    rintro v9 rfl
    ((try dsimp only); go_big_quiet_want; go_big_quiet_op; go_big_quiet_on; refine wpQuiet_nil ?_)
    (refine Go.LaxQ.walk_det rfl rfl rfl rfl rfl ?_; go_big_quiet_want; go_big_quiet_op; go_big_quiet_on; refine wpQuiet_nil ?_)
    refine Go.LaxQ.q_end ?_
    intro y hI hG
    clear hI hG
    go_wp2_with (first
      | ((with_reducible refine at_later 67 ?_); refine Ret.run (fmtOk_ret 11 52 hf) _ ?_; rintro _ y__ rfl)
      | ((with_reducible refine at_later 39 ?_); refine Ret.run (decOk_ret _ d e h1 h2 hd) _ ?_; rintro _ y__ ⟨b__, rfl, hb__⟩; obtain rfl : b__ = true := hb__.2 hc; clear hb__)
      | ((with_reducible refine at_later 104 ?_); (with_reducible refine DFT.run (unhide HhSB) (unhide HON) _ ?_); intro y__)
      | ((with_reducible refine at_later 105 ?_); (with_reducible refine DFT.run (unhide HhMan) (unhide HON) _ ?_); intro y__)
      | ((with_reducible refine at_later 106 ?_); (with_reducible refine DFT.run (unhide HhLo) (unhide HON) _ ?_); intro y__)
      | ((with_reducible refine at_later 59 ?_); (with_reducible refine DFT.run (unhide HhSl) (unhide HON) _ ?_); intro y__)
      | fail)
    all_goals exact unhide HK _ (hB _)
  · go_enter Oaag.func54, Oaag.ntmps54
    go_wp2_with (first
      | ((with_reducible refine at_later 67 ?_); refine Ret.run (fmtOk_ret 11 52 hf) _ ?_; rintro _ y__ rfl)
      | ((with_reducible refine at_later 39 ?_); refine Ret.run (decOk_ret _ d e h1 h2 hd) _ ?_; rintro _ y__ ⟨b__, rfl, hb__⟩; obtain rfl : b__ = true := hb__.2 hc; clear hb__)
      | ((with_reducible refine at_later 104 ?_); (with_reducible refine DFT.run (unhide HhSB) (unhide HON) _ ?_); intro y__)
      | ((with_reducible refine at_later 105 ?_); (with_reducible refine DFT.run (unhide HhMan) (unhide HON) _ ?_); intro y__)
      | ((with_reducible refine at_later 106 ?_); (with_reducible refine DFT.run (unhide HhLo) (unhide HON) _ ?_); intro y__)
      | ((with_reducible refine at_later 59 ?_); (with_reducible refine DFT.run (unhide HhSl) (unhide HON) _ ?_); intro y__)
      | fail)
    refine Go.LaxQ.region_guarded _ 9 3 [4, 5, 6] [(1, fun v => v = .agg #[.int .u8 11, .int .u8 52]), (7, fun v => v = .bool false)] [] (fun _ => True) (by kernel_rfl) (by kernel_rfl) (by kernel_rfl) (by kernel_rfl) trivial (fun _ _ _ _ => trivial) (fun _ h => by cases h) (List.forall_mem_cons.2 ⟨⟨_, rfl⟩, List.forall_mem_cons.2 ⟨⟨_, rfl⟩, fun _ h => by cases h⟩⟩) ?_
    (refine Go.LaxQ.walk_det rfl rfl rfl rfl rfl ?_; go_big_quiet_want; go_big_quiet_op; go_big_quiet_on; refine wpQuiet_nil ?_)
    refine Go.LaxQ.q_call rfl rfl rfl rfl (fun _ _ _ _ => trivial) ?_ (fun y K hI hG hK => by
        go_wp2_with fail
        refine fmt74_ret _ _ ?_
        rintro _ w' rfl hb
        have hh := Go.Proofs.YgcoaaGreat.NatW.hide (hK _ w' rfl trivial hb)
        clear hK
        go_wp2_with fail
        exact Eq.mp (by kernel_rfl) (Go.Proofs.YgcoaaGreat.NatW.unhide hh))
    rintro v9 rfl
    ((try dsimp only); go_big_quiet_want; go_big_quiet_op; go_big_quiet_on; refine wpQuiet_nil ?_)
    (refine Go.LaxQ.walk_det rfl rfl rfl rfl rfl ?_; go_big_quiet_want; go_big_quiet_op; go_big_quiet_on; refine wpQuiet_nil ?_)
    (refine Go.LaxQ.walk_det rfl rfl rfl rfl rfl ?_; go_big_quiet_want; go_big_quiet_op; go_big_quiet_on; refine wpQuiet_nil ?_)
    (refine Go.LaxQ.walk_skip_mv rfl rfl ?_; (try dsimp only); go_big_quiet_want; go_big_quiet_op; go_big_quiet_on; refine wpQuiet_nil ?_)
    (refine Go.LaxQ.walk_skip_mv rfl rfl ?_; (try dsimp only); go_big_quiet_want; go_big_quiet_op; go_big_quiet_on; refine wpQuiet_nil ?_)
    (refine Go.LaxQ.walk_skip_mv rfl rfl ?_; (try dsimp only); go_big_quiet_want; go_big_quiet_op; go_big_quiet_on; refine wpQuiet_nil ?_)
    refine Go.LaxQ.q_call rfl rfl rfl rfl (fun _ _ _ _ => trivial) ?_ (fun y K hI hG hK => by
        have HK := hide hK
        clear hK
        go_wp2_with fail
        exact unhide HK _ _ rfl trivial (Below.refl _ _))
    rintro v9 rfl
    ((try dsimp only); go_big_quiet_want; go_big_quiet_op; go_big_quiet_on; refine wpQuiet_nil ?_)
    (refine Go.LaxQ.walk_det rfl rfl rfl rfl rfl ?_; go_big_quiet_want; go_big_quiet_op; go_big_quiet_on; refine wpQuiet_nil ?_)
    refine Go.LaxQ.q_end ?_
    intro y hI hG
    clear hI hG
    go_wp2_with (first
      | ((with_reducible refine at_later 67 ?_); refine Ret.run (fmtOk_ret 11 52 hf) _ ?_; rintro _ y__ rfl)
      | ((with_reducible refine at_later 39 ?_); refine Ret.run (decOk_ret _ d e h1 h2 hd) _ ?_; rintro _ y__ ⟨b__, rfl, hb__⟩; obtain rfl : b__ = true := hb__.2 hc; clear hb__)
      | ((with_reducible refine at_later 104 ?_); (with_reducible refine DFT.run (unhide HhSB) (unhide HON) _ ?_); intro y__)
      | ((with_reducible refine at_later 105 ?_); (with_reducible refine DFT.run (unhide HhMan) (unhide HON) _ ?_); intro y__)
      | ((with_reducible refine at_later 106 ?_); (with_reducible refine DFT.run (unhide HhLo) (unhide HON) _ ?_); intro y__)
      | ((with_reducible refine at_later 59 ?_); (with_reducible refine DFT.run (unhide HhSl) (unhide HON) _ ?_); intro y__)
      | fail)
    all_goals exact unhide HK _ (hB _)
  · go_enter Oaag.func54, Oaag.ntmps54
    go_wp2_with (first
      | ((with_reducible refine at_later 67 ?_); refine Ret.run (fmtOk_ret 11 52 hf) _ ?_; rintro _ y__ rfl)
      | ((with_reducible refine at_later 39 ?_); refine Ret.run (decOk_ret _ d e h1 h2 hd) _ ?_; rintro _ y__ ⟨b__, rfl, hb__⟩; obtain rfl : b__ = true := hb__.2 hc; clear hb__)
      | ((with_reducible refine at_later 104 ?_); (with_reducible refine DFT.run (unhide HhSB) (unhide HON) _ ?_); intro y__)
      | ((with_reducible refine at_later 105 ?_); (with_reducible refine DFT.run (unhide HhMan) (unhide HON) _ ?_); intro y__)
      | ((with_reducible refine at_later 106 ?_); (with_reducible refine DFT.run (unhide HhLo) (unhide HON) _ ?_); intro y__)
      | ((with_reducible refine at_later 59 ?_); (with_reducible refine DFT.run (unhide HhSl) (unhide HON) _ ?_); intro y__)
      | fail)
    refine Go.LaxQ.region_guarded _ 9 3 [4, 5, 6] [(1, fun v => v = .agg #[.int .u8 11, .int .u8 52]), (7, fun v => v = .bool false)] [] (fun _ => True) (by kernel_rfl) (by kernel_rfl) (by kernel_rfl) (by kernel_rfl) trivial (fun _ _ _ _ => trivial) (fun _ h => by cases h) (List.forall_mem_cons.2 ⟨⟨_, rfl⟩, List.forall_mem_cons.2 ⟨⟨_, rfl⟩, fun _ h => by cases h⟩⟩) ?_
    (refine Go.LaxQ.walk_det rfl rfl rfl rfl rfl ?_; go_big_quiet_want; go_big_quiet_op; go_big_quiet_on; refine wpQuiet_nil ?_)
    refine Go.LaxQ.q_call rfl rfl rfl rfl (fun _ _ _ _ => trivial) ?_ (fun y K hI hG hK => by
        go_wp2_with fail
        refine fmt74_ret _ _ ?_
        rintro _ w' rfl hb
        have hh := Go.Proofs.YgcoaaGreat.NatW.hide (hK _ w' rfl trivial hb)
        clear hK
        go_wp2_with fail
        exact Eq.mp (by kernel_rfl) (Go.Proofs.YgcoaaGreat.NatW.unhide hh))
    rintro v9 rfl
    ((try dsimp only); go_big_quiet_want; go_big_quiet_op; go_big_quiet_on; refine wpQuiet_nil ?_)
    (refine Go.LaxQ.walk_det rfl rfl rfl rfl rfl ?_; go_big_quiet_want; go_big_quiet_op; go_big_quiet_on; refine wpQuiet_nil ?_)
    (refine Go.LaxQ.walk_det rfl rfl rfl rfl rfl ?_; go_big_quiet_want; go_big_quiet_op; go_big_quiet_on; refine wpQuiet_nil ?_)
    (refine Go.LaxQ.walk_skip_mv rfl rfl ?_; (try dsimp only); go_big_quiet_want; go_big_quiet_op; go_big_quiet_on; refine wpQuiet_nil ?_)
    (refine Go.LaxQ.walk_skip_mv rfl rfl ?_; (try dsimp only); go_big_quiet_want; go_big_quiet_op; go_big_quiet_on; refine wpQuiet_nil ?_)
    (refine Go.LaxQ.walk_skip_mv rfl rfl ?_; (try dsimp only); go_big_quiet_want; go_big_quiet_op; go_big_quiet_on; refine wpQuiet_nil ?_)
    refine Go.LaxQ.q_call rfl rfl rfl rfl (fun _ _ _ _ => trivial) ?_ (fun y K hI hG hK => by
        have HK := hide hK
        clear hK
        go_wp2_with fail
        exact unhide HK _ _ rfl trivial (Below.refl _ _))
    rintro v9 rfl
    ((try dsimp only); go_big_quiet_want; go_big_quiet_op; go_big_quiet_on; refine wpQuiet_nil ?_)
    (refine Go.LaxQ.walk_det rfl rfl rfl rfl rfl ?_; go_big_quiet_want; go_big_quiet_op; go_big_quiet_on; refine wpQuiet_nil ?_)
    refine Go.LaxQ.q_end ?_
    intro y hI hG
    clear hI hG
    go_wp2_with (first
      | ((with_reducible refine at_later 67 ?_); refine Ret.run (fmtOk_ret 11 52 hf) _ ?_; rintro _ y__ rfl)
      | ((with_reducible refine at_later 39 ?_); refine Ret.run (decOk_ret _ d e h1 h2 hd) _ ?_; rintro _ y__ ⟨b__, rfl, hb__⟩; obtain rfl : b__ = true := hb__.2 hc; clear hb__)
      | ((with_reducible refine at_later 104 ?_); (with_reducible refine DFT.run (unhide HhSB) (unhide HON) _ ?_); intro y__)
      | ((with_reducible refine at_later 105 ?_); (with_reducible refine DFT.run (unhide HhMan) (unhide HON) _ ?_); intro y__)
      | ((with_reducible refine at_later 106 ?_); (with_reducible refine DFT.run (unhide HhLo) (unhide HON) _ ?_); intro y__)
      | ((with_reducible refine at_later 59 ?_); (with_reducible refine DFT.run (unhide HhSl) (unhide HON) _ ?_); intro y__)
      | fail)
    all_goals exact unhide HK _ (hB _)

set_option maxHeartbeats 4000000 in
theorem pl_54_11_Sgt (md : Int) (hmd : md = 0 ∨ 4 < md) (n : Bool) (d : ByteArray) (e : Int) (h1 : -32768 ≤ e) (h2 : e ≤ 32767) (hd : d.size ≤ 1000000) (hc : Canon d e) (hz : ¬ d.size = 0) (fast : Bool) (sb : Int) (tb : Nat) (hSB : DFT tb 104 #[.agg #[.int .u8 11, .int .u8 52]] (.int .u64 sb)) (h19 : d.size ≤ 19) (man : Int) (hMan : DFT tb 105 #[.string d] (.int .u64 man)) (hfa : fast = true) (cv : Int) (hCl : DFT tb 107 #[.agg #[.int .u8 11, .int .u8 52], .int .u64 man, .int .i16 e] (.tuple #[.int .u64 cv, .bool false])) (lo : Int) (hLo : DFT tb 106 #[.pointer (some ⟨tb, 0, none⟩), .agg #[.int .u8 11, .int .u8 52], .int .u64 man, .int .i16 e] (.tuple #[.int .u64 lo, .bool true])) : DFT tb 54 #[.pointer (some ⟨tb, 0, none⟩), fmt 11 52, .int .u8 md, .agg #[.bool n, .string d, .int .i16 e], .bool fast] (.tuple #[.int .u64 (bits .or .u64 lo (psg n sb)), .int .u8 2]) := by
  intro w K ho hK
  have hf : fok 11 52 = true := rfl
  have hsz : d.size ≤ 800 := by rcases hc with h | h <;> omega
  have he1 : -2000 ≤ e ∧ e ≤ 2000 := by rcases hc with h | h <;> omega
  have hz' : ((d.size : Int) == 0) = false := beq_eq_false_iff_ne.2 (by omega)
  have HK := hide hK
  clear hK
  obtain ⟨wb, x0, hwb, r0, r1, hB, hZ⟩ := boxes2 w #[.int .u8 11, .int .u8 52] #[.bool n, .string d, .int .i16 e] 23 74
  have c00 : ∀ x : Later wb, _ = some (.int .u8 11 : Value) := Later.cell r0 0 _ rfl
  have c01 : ∀ x : Later wb, _ = some (.int .u8 52 : Value) := Later.cell r0 1 _ rfl
  have c10 : ∀ x : Later wb, _ = some (.bool n : Value) := Later.cell r1 0 _ rfl
  have c11 : ∀ x : Later wb, _ = some (.string d : Value) := Later.cell r1 1 _ rfl
  have c12 : ∀ x : Later wb, _ = some (.int .i16 e : Value) := Later.cell r1 2 _ rfl
  have hne : Nonempty (Later wb) := ⟨x0⟩
  have hon : ∀ y : Later wb, On tb y.at_ := fun y => ho.later (hB y)
  have HON := hide hon
  have HhSB := hide hSB
  have HhMan := hide hMan
  have HhCl := hide hCl
  have HhLo := hide hLo
  clear ho hon r0 r1 hSB hMan hCl hLo
  have hmz : ∃ zb : Bool, (md != 0) = zb ∧ (zb = true → decide (md ≤ 4) = false) := by
    rcases hmd with rfl | h
    · exact ⟨false, rfl, fun h => by cases h⟩
    · exact ⟨true, by simp; omega, fun _ => by simp; omega⟩
  obtain ⟨zb, hzb, hz4⟩ := hmz
  clear hmd
  cases n <;> cases zb
  all_goals
    first
    | (have hz5 := hz4 rfl; clear hz4)
    | clear hz4
  · go_enter Oaag.func54, Oaag.ntmps54
    go_wp2_with (first
      | ((with_reducible refine at_later 67 ?_); refine Ret.run (fmtOk_ret 11 52 hf) _ ?_; rintro _ y__ rfl)
      | ((with_reducible refine at_later 39 ?_); refine Ret.run (decOk_ret _ d e h1 h2 hd) _ ?_; rintro _ y__ ⟨b__, rfl, hb__⟩; obtain rfl : b__ = true := hb__.2 hc; clear hb__)
      | ((with_reducible refine at_later 104 ?_); (with_reducible refine DFT.run (unhide HhSB) (unhide HON) _ ?_); intro y__)
      | ((with_reducible refine at_later 105 ?_); (with_reducible refine DFT.run (unhide HhMan) (unhide HON) _ ?_); intro y__)
      | ((with_reducible refine at_later 107 ?_); (with_reducible refine DFT.run (unhide HhCl) (unhide HON) _ ?_); intro y__)
      | ((with_reducible refine at_later 106 ?_); (with_reducible refine DFT.run (unhide HhLo) (unhide HON) _ ?_); intro y__)
      | fail)
    refine Go.LaxQ.region_guarded _ 9 3 [4, 5, 6] [(1, fun v => v = .agg #[.int .u8 11, .int .u8 52]), (7, fun v => v = .bool false)] [] (fun _ => True) (by kernel_rfl) (by kernel_rfl) (by kernel_rfl) (by kernel_rfl) trivial (fun _ _ _ _ => trivial) (fun _ h => by cases h) (List.forall_mem_cons.2 ⟨⟨_, rfl⟩, List.forall_mem_cons.2 ⟨⟨_, rfl⟩, fun _ h => by cases h⟩⟩) ?_
    (refine Go.LaxQ.walk_det rfl rfl rfl rfl rfl ?_; go_big_quiet_want; go_big_quiet_op; go_big_quiet_on; refine wpQuiet_nil ?_)
    refine Go.LaxQ.q_call rfl rfl rfl rfl (fun _ _ _ _ => trivial) ?_ (fun y K hI hG hK => by
        go_wp2_with fail
        refine fmt74_ret _ _ ?_
        rintro _ w' rfl hb
        have hh := Go.Proofs.YgcoaaGreat.NatW.hide (hK _ w' rfl trivial hb)
        clear hK
        go_wp2_with fail
        exact Eq.mp (by kernel_rfl) (Go.Proofs.YgcoaaGreat.NatW.unhide hh))
    rintro v9 rfl
    ((try dsimp only); go_big_quiet_want; go_big_quiet_op; go_big_quiet_on; refine wpQuiet_nil ?_)
    (refine Go.LaxQ.walk_det rfl rfl rfl rfl rfl ?_; go_big_quiet_want; go_big_quiet_op; go_big_quiet_on; refine wpQuiet_nil ?_)
    (refine Go.LaxQ.walk_det rfl rfl rfl rfl rfl ?_; go_big_quiet_want; go_big_quiet_op; go_big_quiet_on; refine wpQuiet_nil ?_)
    (refine Go.LaxQ.walk_skip_mv rfl rfl ?_; (try dsimp only); go_big_quiet_want; go_big_quiet_op; go_big_quiet_on; refine wpQuiet_nil ?_)
    (refine Go.LaxQ.walk_skip_mv rfl rfl ?_; (try dsimp only); go_big_quiet_want; go_big_quiet_op; go_big_quiet_on; refine wpQuiet_nil ?_)
    (refine Go.LaxQ.walk_skip_mv rfl rfl ?_; (try dsimp only); go_big_quiet_want; go_big_quiet_op; go_big_quiet_on; refine wpQuiet_nil ?_)
    refine Go.LaxQ.q_call rfl rfl rfl rfl (fun _ _ _ _ => trivial) ?_ (fun y K hI hG hK => by
        have HK := hide hK
        clear hK
        go_wp2_with fail
        exact unhide HK _ _ rfl trivial (Below.refl _ _))
    rintro v9 rfl
    ((try dsimp only); go_big_quiet_want; go_big_quiet_op; go_big_quiet_on; refine wpQuiet_nil ?_)
    (refine Go.LaxQ.walk_det rfl rfl rfl rfl rfl ?_; go_big_quiet_want; go_big_quiet_op; go_big_quiet_on; refine wpQuiet_nil ?_)
    refine Go.LaxQ.q_end ?_
    intro y hI hG
    clear hI hG
    go_wp2_with (first
      | ((with_reducible refine at_later 67 ?_); refine Ret.run (fmtOk_ret 11 52 hf) _ ?_; rintro _ y__ rfl)
      | ((with_reducible refine at_later 39 ?_); refine Ret.run (decOk_ret _ d e h1 h2 hd) _ ?_; rintro _ y__ ⟨b__, rfl, hb__⟩; obtain rfl : b__ = true := hb__.2 hc; clear hb__)
      | ((with_reducible refine at_later 104 ?_); (with_reducible refine DFT.run (unhide HhSB) (unhide HON) _ ?_); intro y__)
      | ((with_reducible refine at_later 105 ?_); (with_reducible refine DFT.run (unhide HhMan) (unhide HON) _ ?_); intro y__)
      | ((with_reducible refine at_later 107 ?_); (with_reducible refine DFT.run (unhide HhCl) (unhide HON) _ ?_); intro y__)
      | ((with_reducible refine at_later 106 ?_); (with_reducible refine DFT.run (unhide HhLo) (unhide HON) _ ?_); intro y__)
      | fail)
    all_goals exact unhide HK _ (hB _)
  · go_enter Oaag.func54, Oaag.ntmps54
    go_wp2_with (first
      | ((with_reducible refine at_later 67 ?_); refine Ret.run (fmtOk_ret 11 52 hf) _ ?_; rintro _ y__ rfl)
      | ((with_reducible refine at_later 39 ?_); refine Ret.run (decOk_ret _ d e h1 h2 hd) _ ?_; rintro _ y__ ⟨b__, rfl, hb__⟩; obtain rfl : b__ = true := hb__.2 hc; clear hb__)
      | ((with_reducible refine at_later 104 ?_); (with_reducible refine DFT.run (unhide HhSB) (unhide HON) _ ?_); intro y__)
      | ((with_reducible refine at_later 105 ?_); (with_reducible refine DFT.run (unhide HhMan) (unhide HON) _ ?_); intro y__)
      | ((with_reducible refine at_later 107 ?_); (with_reducible refine DFT.run (unhide HhCl) (unhide HON) _ ?_); intro y__)
      | ((with_reducible refine at_later 106 ?_); (with_reducible refine DFT.run (unhide HhLo) (unhide HON) _ ?_); intro y__)
      | fail)
    refine Go.LaxQ.region_guarded _ 9 3 [4, 5, 6] [(1, fun v => v = .agg #[.int .u8 11, .int .u8 52]), (7, fun v => v = .bool false)] [] (fun _ => True) (by kernel_rfl) (by kernel_rfl) (by kernel_rfl) (by kernel_rfl) trivial (fun _ _ _ _ => trivial) (fun _ h => by cases h) (List.forall_mem_cons.2 ⟨⟨_, rfl⟩, List.forall_mem_cons.2 ⟨⟨_, rfl⟩, fun _ h => by cases h⟩⟩) ?_
    (refine Go.LaxQ.walk_det rfl rfl rfl rfl rfl ?_; go_big_quiet_want; go_big_quiet_op; go_big_quiet_on; refine wpQuiet_nil ?_)
    refine Go.LaxQ.q_call rfl rfl rfl rfl (fun _ _ _ _ => trivial) ?_ (fun y K hI hG hK => by
        go_wp2_with fail
        refine fmt74_ret _ _ ?_
        rintro _ w' rfl hb
        have hh := Go.Proofs.YgcoaaGreat.NatW.hide (hK _ w' rfl trivial hb)
        clear hK
        go_wp2_with fail
        exact Eq.mp (by kernel_rfl) (Go.Proofs.YgcoaaGreat.NatW.unhide hh))
    rintro v9 rfl
    ((try dsimp only); go_big_quiet_want; go_big_quiet_op; go_big_quiet_on; refine wpQuiet_nil ?_)
    (refine Go.LaxQ.walk_det rfl rfl rfl rfl rfl ?_; go_big_quiet_want; go_big_quiet_op; go_big_quiet_on; refine wpQuiet_nil ?_)
    (refine Go.LaxQ.walk_det rfl rfl rfl rfl rfl ?_; go_big_quiet_want; go_big_quiet_op; go_big_quiet_on; refine wpQuiet_nil ?_)
    (refine Go.LaxQ.walk_skip_mv rfl rfl ?_; (try dsimp only); go_big_quiet_want; go_big_quiet_op; go_big_quiet_on; refine wpQuiet_nil ?_)
    (refine Go.LaxQ.walk_skip_mv rfl rfl ?_; (try dsimp only); go_big_quiet_want; go_big_quiet_op; go_big_quiet_on; refine wpQuiet_nil ?_)
    (refine Go.LaxQ.walk_skip_mv rfl rfl ?_; (try dsimp only); go_big_quiet_want; go_big_quiet_op; go_big_quiet_on; refine wpQuiet_nil ?_)
    refine Go.LaxQ.q_call rfl rfl rfl rfl (fun _ _ _ _ => trivial) ?_ (fun y K hI hG hK => by
        have HK := hide hK
        clear hK
        go_wp2_with fail
        exact unhide HK _ _ rfl trivial (Below.refl _ _))
    rintro v9 rfl
    ((try dsimp only); go_big_quiet_want; go_big_quiet_op; go_big_quiet_on; refine wpQuiet_nil ?_)
    (refine Go.LaxQ.walk_det rfl rfl rfl rfl rfl ?_; go_big_quiet_want; go_big_quiet_op; go_big_quiet_on; refine wpQuiet_nil ?_)
    refine Go.LaxQ.q_end ?_
    intro y hI hG
    clear hI hG
    go_wp2_with (first
      | ((with_reducible refine at_later 67 ?_); refine Ret.run (fmtOk_ret 11 52 hf) _ ?_; rintro _ y__ rfl)
      | ((with_reducible refine at_later 39 ?_); refine Ret.run (decOk_ret _ d e h1 h2 hd) _ ?_; rintro _ y__ ⟨b__, rfl, hb__⟩; obtain rfl : b__ = true := hb__.2 hc; clear hb__)
      | ((with_reducible refine at_later 104 ?_); (with_reducible refine DFT.run (unhide HhSB) (unhide HON) _ ?_); intro y__)
      | ((with_reducible refine at_later 105 ?_); (with_reducible refine DFT.run (unhide HhMan) (unhide HON) _ ?_); intro y__)
      | ((with_reducible refine at_later 107 ?_); (with_reducible refine DFT.run (unhide HhCl) (unhide HON) _ ?_); intro y__)
      | ((with_reducible refine at_later 106 ?_); (with_reducible refine DFT.run (unhide HhLo) (unhide HON) _ ?_); intro y__)
      | fail)
    all_goals exact unhide HK _ (hB _)
  · go_enter Oaag.func54, Oaag.ntmps54
    go_wp2_with (first
      | ((with_reducible refine at_later 67 ?_); refine Ret.run (fmtOk_ret 11 52 hf) _ ?_; rintro _ y__ rfl)
      | ((with_reducible refine at_later 39 ?_); refine Ret.run (decOk_ret _ d e h1 h2 hd) _ ?_; rintro _ y__ ⟨b__, rfl, hb__⟩; obtain rfl : b__ = true := hb__.2 hc; clear hb__)
      | ((with_reducible refine at_later 104 ?_); (with_reducible refine DFT.run (unhide HhSB) (unhide HON) _ ?_); intro y__)
      | ((with_reducible refine at_later 105 ?_); (with_reducible refine DFT.run (unhide HhMan) (unhide HON) _ ?_); intro y__)
      | ((with_reducible refine at_later 107 ?_); (with_reducible refine DFT.run (unhide HhCl) (unhide HON) _ ?_); intro y__)
      | ((with_reducible refine at_later 106 ?_); (with_reducible refine DFT.run (unhide HhLo) (unhide HON) _ ?_); intro y__)
      | fail)
    refine Go.LaxQ.region_guarded _ 9 3 [4, 5, 6] [(1, fun v => v = .agg #[.int .u8 11, .int .u8 52]), (7, fun v => v = .bool false)] [] (fun _ => True) (by kernel_rfl) (by kernel_rfl) (by kernel_rfl) (by kernel_rfl) trivial (fun _ _ _ _ => trivial) (fun _ h => by cases h) (List.forall_mem_cons.2 ⟨⟨_, rfl⟩, List.forall_mem_cons.2 ⟨⟨_, rfl⟩, fun _ h => by cases h⟩⟩) ?_
    (refine Go.LaxQ.walk_det rfl rfl rfl rfl rfl ?_; go_big_quiet_want; go_big_quiet_op; go_big_quiet_on; refine wpQuiet_nil ?_)
    refine Go.LaxQ.q_call rfl rfl rfl rfl (fun _ _ _ _ => trivial) ?_ (fun y K hI hG hK => by
        go_wp2_with fail
        refine fmt74_ret _ _ ?_
        rintro _ w' rfl hb
        have hh := Go.Proofs.YgcoaaGreat.NatW.hide (hK _ w' rfl trivial hb)
        clear hK
        go_wp2_with fail
        exact Eq.mp (by kernel_rfl) (Go.Proofs.YgcoaaGreat.NatW.unhide hh))
    rintro v9 rfl
    ((try dsimp only); go_big_quiet_want; go_big_quiet_op; go_big_quiet_on; refine wpQuiet_nil ?_)
    (refine Go.LaxQ.walk_det rfl rfl rfl rfl rfl ?_; go_big_quiet_want; go_big_quiet_op; go_big_quiet_on; refine wpQuiet_nil ?_)
    (refine Go.LaxQ.walk_det rfl rfl rfl rfl rfl ?_; go_big_quiet_want; go_big_quiet_op; go_big_quiet_on; refine wpQuiet_nil ?_)
    (refine Go.LaxQ.walk_skip_mv rfl rfl ?_; (try dsimp only); go_big_quiet_want; go_big_quiet_op; go_big_quiet_on; refine wpQuiet_nil ?_)
    (refine Go.LaxQ.walk_skip_mv rfl rfl ?_; (try dsimp only); go_big_quiet_want; go_big_quiet_op; go_big_quiet_on; refine wpQuiet_nil ?_)
    (refine Go.LaxQ.walk_skip_mv rfl rfl ?_; (try dsimp only); go_big_quiet_want; go_big_quiet_op; go_big_quiet_on; refine wpQuiet_nil ?_)
    refine Go.LaxQ.q_call rfl rfl rfl rfl (fun _ _ _ _ => trivial) ?_ (fun y K hI hG hK => by
        have HK := hide hK
        clear hK
        go_wp2_with fail
        exact unhide HK _ _ rfl trivial (Below.refl _ _))
    rintro v9 rfl
    ((try dsimp only); go_big_quiet_want; go_big_quiet_op; go_big_quiet_on; refine wpQuiet_nil ?_)
    (refine Go.LaxQ.walk_det rfl rfl rfl rfl rfl ?_; go_big_quiet_want; go_big_quiet_op; go_big_quiet_on; refine wpQuiet_nil ?_)
    refine Go.LaxQ.q_end ?_
    intro y hI hG
    clear hI hG
    go_wp2_with (first
      | ((with_reducible refine at_later 67 ?_); refine Ret.run (fmtOk_ret 11 52 hf) _ ?_; rintro _ y__ rfl)
      | ((with_reducible refine at_later 39 ?_); refine Ret.run (decOk_ret _ d e h1 h2 hd) _ ?_; rintro _ y__ ⟨b__, rfl, hb__⟩; obtain rfl : b__ = true := hb__.2 hc; clear hb__)
      | ((with_reducible refine at_later 104 ?_); (with_reducible refine DFT.run (unhide HhSB) (unhide HON) _ ?_); intro y__)
      | ((with_reducible refine at_later 105 ?_); (with_reducible refine DFT.run (unhide HhMan) (unhide HON) _ ?_); intro y__)
      | ((with_reducible refine at_later 107 ?_); (with_reducible refine DFT.run (unhide HhCl) (unhide HON) _ ?_); intro y__)
      | ((with_reducible refine at_later 106 ?_); (with_reducible refine DFT.run (unhide HhLo) (unhide HON) _ ?_); intro y__)
      | fail)
    all_goals exact unhide HK _ (hB _)
  · go_enter Oaag.func54, Oaag.ntmps54
    go_wp2_with (first
      | ((with_reducible refine at_later 67 ?_); refine Ret.run (fmtOk_ret 11 52 hf) _ ?_; rintro _ y__ rfl)
      | ((with_reducible refine at_later 39 ?_); refine Ret.run (decOk_ret _ d e h1 h2 hd) _ ?_; rintro _ y__ ⟨b__, rfl, hb__⟩; obtain rfl : b__ = true := hb__.2 hc; clear hb__)
      | ((with_reducible refine at_later 104 ?_); (with_reducible refine DFT.run (unhide HhSB) (unhide HON) _ ?_); intro y__)
      | ((with_reducible refine at_later 105 ?_); (with_reducible refine DFT.run (unhide HhMan) (unhide HON) _ ?_); intro y__)
      | ((with_reducible refine at_later 107 ?_); (with_reducible refine DFT.run (unhide HhCl) (unhide HON) _ ?_); intro y__)
      | ((with_reducible refine at_later 106 ?_); (with_reducible refine DFT.run (unhide HhLo) (unhide HON) _ ?_); intro y__)
      | fail)
    refine Go.LaxQ.region_guarded _ 9 3 [4, 5, 6] [(1, fun v => v = .agg #[.int .u8 11, .int .u8 52]), (7, fun v => v = .bool false)] [] (fun _ => True) (by kernel_rfl) (by kernel_rfl) (by kernel_rfl) (by kernel_rfl) trivial (fun _ _ _ _ => trivial) (fun _ h => by cases h) (List.forall_mem_cons.2 ⟨⟨_, rfl⟩, List.forall_mem_cons.2 ⟨⟨_, rfl⟩, fun _ h => by cases h⟩⟩) ?_
    (refine Go.LaxQ.walk_det rfl rfl rfl rfl rfl ?_; go_big_quiet_want; go_big_quiet_op; go_big_quiet_on; refine wpQuiet_nil ?_)
    refine Go.LaxQ.q_call rfl rfl rfl rfl (fun _ _ _ _ => trivial) ?_ (fun y K hI hG hK => by
        go_wp2_with fail
        refine fmt74_ret _ _ ?_
        rintro _ w' rfl hb
        have hh := Go.Proofs.YgcoaaGreat.NatW.hide (hK _ w' rfl trivial hb)
        clear hK
        go_wp2_with fail
        exact Eq.mp (by kernel_rfl) (Go.Proofs.YgcoaaGreat.NatW.unhide hh))
    rintro v9 rfl
    ((try dsimp only); go_big_quiet_want; go_big_quiet_op; go_big_quiet_on; refine wpQuiet_nil ?_)
    (refine Go.LaxQ.walk_det rfl rfl rfl rfl rfl ?_; go_big_quiet_want; go_big_quiet_op; go_big_quiet_on; refine wpQuiet_nil ?_)
    (refine Go.LaxQ.walk_det rfl rfl rfl rfl rfl ?_; go_big_quiet_want; go_big_quiet_op; go_big_quiet_on; refine wpQuiet_nil ?_)
    (refine Go.LaxQ.walk_skip_mv rfl rfl ?_; (try dsimp only); go_big_quiet_want; go_big_quiet_op; go_big_quiet_on; refine wpQuiet_nil ?_)
    (refine Go.LaxQ.walk_skip_mv rfl rfl ?_; (try dsimp only); go_big_quiet_want; go_big_quiet_op; go_big_quiet_on; refine wpQuiet_nil ?_)
    (refine Go.LaxQ.walk_skip_mv rfl rfl ?_; (try dsimp only); go_big_quiet_want; go_big_quiet_op; go_big_quiet_on; refine wpQuiet_nil ?_)
    refine Go.LaxQ.q_call rfl rfl rfl rfl (fun _ _ _ _ => trivial) ?_ (fun y K hI hG hK => by
        have HK := hide hK
        clear hK
        go_wp2_with fail
        exact unhide HK _ _ rfl trivial (Below.refl _ _))
    rintro v9 rfl
    ((try dsimp only); go_big_quiet_want; go_big_quiet_op; go_big_quiet_on; refine wpQuiet_nil ?_)
    (refine Go.LaxQ.walk_det rfl rfl rfl rfl rfl ?_; go_big_quiet_want; go_big_quiet_op; go_big_quiet_on; refine wpQuiet_nil ?_)
    refine Go.LaxQ.q_end ?_
    intro y hI hG
    clear hI hG
    go_wp2_with (first
      | ((with_reducible refine at_later 67 ?_); refine Ret.run (fmtOk_ret 11 52 hf) _ ?_; rintro _ y__ rfl)
      | ((with_reducible refine at_later 39 ?_); refine Ret.run (decOk_ret _ d e h1 h2 hd) _ ?_; rintro _ y__ ⟨b__, rfl, hb__⟩; obtain rfl : b__ = true := hb__.2 hc; clear hb__)
      | ((with_reducible refine at_later 104 ?_); (with_reducible refine DFT.run (unhide HhSB) (unhide HON) _ ?_); intro y__)
      | ((with_reducible refine at_later 105 ?_); (with_reducible refine DFT.run (unhide HhMan) (unhide HON) _ ?_); intro y__)
      | ((with_reducible refine at_later 107 ?_); (with_reducible refine DFT.run (unhide HhCl) (unhide HON) _ ?_); intro y__)
      | ((with_reducible refine at_later 106 ?_); (with_reducible refine DFT.run (unhide HhLo) (unhide HON) _ ?_); intro y__)
      | fail)
    all_goals exact unhide HK _ (hB _)

set_option maxHeartbeats 4000000 in
theorem pl_54_11_Sgs (md : Int) (hmd : md = 0 ∨ 4 < md) (n : Bool) (d : ByteArray) (e : Int) (h1 : -32768 ≤ e) (h2 : e ≤ 32767) (hd : d.size ≤ 1000000) (hc : Canon d e) (hz : ¬ d.size = 0) (fast : Bool) (sb : Int) (tb : Nat) (hSB : DFT tb 104 #[.agg #[.int .u8 11, .int .u8 52]] (.int .u64 sb)) (h19 : d.size ≤ 19) (man : Int) (hMan : DFT tb 105 #[.string d] (.int .u64 man)) (hfa : fast = true) (cv : Int) (hCl : DFT tb 107 #[.agg #[.int .u8 11, .int .u8 52], .int .u64 man, .int .i16 e] (.tuple #[.int .u64 cv, .bool false])) (lo : Int) (hLo : DFT tb 106 #[.pointer (some ⟨tb, 0, none⟩), .agg #[.int .u8 11, .int .u8 52], .int .u64 man, .int .i16 e] (.tuple #[.int .u64 lo, .bool false])) (r : Int) (hSl : DFT tb 59 #[.agg #[.int .u8 11, .int .u8 52], .int .u8 md, .agg #[.bool n, .string d, .int .i16 e]] (.int .u64 r)) : DFT tb 54 #[.pointer (some ⟨tb, 0, none⟩), fmt 11 52, .int .u8 md, .agg #[.bool n, .string d, .int .i16 e], .bool fast] (.tuple #[.int .u64 r, .int .u8 4]) := by
  intro w K ho hK
  have hf : fok 11 52 = true := rfl
  have hsz : d.size ≤ 800 := by rcases hc with h | h <;> omega
  have he1 : -2000 ≤ e ∧ e ≤ 2000 := by rcases hc with h | h <;> omega
  have hz' : ((d.size : Int) == 0) = false := beq_eq_false_iff_ne.2 (by omega)
  have HK := hide hK
  clear hK
  obtain ⟨wb, x0, hwb, r0, r1, hB, hZ⟩ := boxes2 w #[.int .u8 11, .int .u8 52] #[.bool n, .string d, .int .i16 e] 23 74
  have c00 : ∀ x : Later wb, _ = some (.int .u8 11 : Value) := Later.cell r0 0 _ rfl
  have c01 : ∀ x : Later wb, _ = some (.int .u8 52 : Value) := Later.cell r0 1 _ rfl
  have c10 : ∀ x : Later wb, _ = some (.bool n : Value) := Later.cell r1 0 _ rfl
  have c11 : ∀ x : Later wb, _ = some (.string d : Value) := Later.cell r1 1 _ rfl
  have c12 : ∀ x : Later wb, _ = some (.int .i16 e : Value) := Later.cell r1 2 _ rfl
  have hne : Nonempty (Later wb) := ⟨x0⟩
  have hon : ∀ y : Later wb, On tb y.at_ := fun y => ho.later (hB y)
  have HON := hide hon
  have HhSB := hide hSB
  have HhMan := hide hMan
  have HhCl := hide hCl
  have HhLo := hide hLo
  have HhSl := hide hSl
  clear ho hon r0 r1 hSB hMan hCl hLo hSl
  have hmz : ∃ zb : Bool, (md != 0) = zb ∧ (zb = true → decide (md ≤ 4) = false) := by
    rcases hmd with rfl | h
    · exact ⟨false, rfl, fun h => by cases h⟩
    · exact ⟨true, by simp; omega, fun _ => by simp; omega⟩
  obtain ⟨zb, hzb, hz4⟩ := hmz
  clear hmd
  cases n <;> cases zb
  all_goals
    first
    | (have hz5 := hz4 rfl; clear hz4)
    | clear hz4
  · go_enter Oaag.func54, Oaag.ntmps54
    go_wp2_with (first
      | ((with_reducible refine at_later 67 ?_); refine Ret.run (fmtOk_ret 11 52 hf) _ ?_; rintro _ y__ rfl)
      | ((with_reducible refine at_later 39 ?_); refine Ret.run (decOk_ret _ d e h1 h2 hd) _ ?_; rintro _ y__ ⟨b__, rfl, hb__⟩; obtain rfl : b__ = true := hb__.2 hc; clear hb__)
      | ((with_reducible refine at_later 104 ?_); (with_reducible refine DFT.run (unhide HhSB) (unhide HON) _ ?_); intro y__)
      | ((with_reducible refine at_later 105 ?_); (with_reducible refine DFT.run (unhide HhMan) (unhide HON) _ ?_); intro y__)
      | ((with_reducible refine at_later 107 ?_); (with_reducible refine DFT.run (unhide HhCl) (unhide HON) _ ?_); intro y__)
      | ((with_reducible refine at_later 106 ?_); (with_reducible refine DFT.run (unhide HhLo) (unhide HON) _ ?_); intro y__)
      | ((with_reducible refine at_later 59 ?_); (with_reducible refine DFT.run (unhide HhSl) (unhide HON) _ ?_); intro y__)
      | fail)
    refine Go.LaxQ.region_guarded _ 9 3 [4, 5, 6] [(1, fun v => v = .agg #[.int .u8 11, .int .u8 52]), (7, fun v => v = .bool false)] [] (fun _ => True) (by kernel_rfl) (by kernel_rfl) (by kernel_rfl) (by kernel_rfl) trivial (fun _ _ _ _ => trivial) (fun _ h => by cases h) (List.forall_mem_cons.2 ⟨⟨_, rfl⟩, List.forall_mem_cons.2 ⟨⟨_, rfl⟩, fun _ h => by cases h⟩⟩) ?_
    (refine Go.LaxQ.walk_det rfl rfl rfl rfl rfl ?_; go_big_quiet_want; go_big_quiet_op; go_big_quiet_on; refine wpQuiet_nil ?_)
    refine Go.LaxQ.q_call rfl rfl rfl rfl (fun _ _ _ _ => trivial) ?_ (fun y K hI hG hK => by
        go_wp2_with fail
        refine fmt74_ret _ _ ?_
        rintro _ w' rfl hb
        have hh := Go.Proofs.YgcoaaGreat.NatW.hide (hK _ w' rfl trivial hb)
        clear hK
        go_wp2_with fail
        exact Eq.mp (by kernel_rfl) (Go.Proofs.YgcoaaGreat.NatW.unhide hh))
    rintro v9 rfl
    ((try dsimp only); go_big_quiet_want; go_big_quiet_op; go_big_quiet_on; refine wpQuiet_nil ?_)
    (refine Go.LaxQ.walk_det rfl rfl rfl rfl rfl ?_; go_big_quiet_want; go_big_quiet_op; go_big_quiet_on; refine wpQuiet_nil ?_)
    (refine Go.LaxQ.walk_det rfl rfl rfl rfl rfl ?_; go_big_quiet_want; go_big_quiet_op; go_big_quiet_on; refine wpQuiet_nil ?_)
    (refine Go.LaxQ.walk_skip_mv rfl rfl ?_; (try dsimp only); go_big_quiet_want; go_big_quiet_op; go_big_quiet_on; refine wpQuiet_nil ?_)
    (refine Go.LaxQ.walk_skip_mv rfl rfl ?_; (try dsimp only); go_big_quiet_want; go_big_quiet_op; go_big_quiet_on; refine wpQuiet_nil ?_)
    (refine Go.LaxQ.walk_skip_mv rfl rfl ?_; (try dsimp only); go_big_quiet_want; go_big_quiet_op; go_big_quiet_on; refine wpQuiet_nil ?_)
    refine Go.LaxQ.q_call rfl rfl rfl rfl (fun _ _ _ _ => trivial) ?_ (fun y K hI hG hK => by
        have HK := hide hK
        clear hK
        go_wp2_with fail
        exact unhide HK _ _ rfl trivial (Below.refl _ _))
    rintro v9 rfl
    ((try dsimp only); go_big_quiet_want; go_big_quiet_op; go_big_quiet_on; refine wpQuiet_nil ?_)
    (refine Go.LaxQ.walk_det rfl rfl rfl rfl rfl ?_; go_big_quiet_want; go_big_quiet_op; go_big_quiet_on; refine wpQuiet_nil ?_)
    refine Go.LaxQ.q_end ?_
    intro y hI hG
    clear hI hG
    go_wp2_with (first
      | ((with_reducible refine at_later 67 ?_); refine Ret.run (fmtOk_ret 11 52 hf) _ ?_; rintro _ y__ rfl)
      | ((with_reducible refine at_later 39 ?_); refine Ret.run (decOk_ret _ d e h1 h2 hd) _ ?_; rintro _ y__ ⟨b__, rfl, hb__⟩; obtain rfl : b__ = true := hb__.2 hc; clear hb__)
      | ((with_reducible refine at_later 104 ?_); (with_reducible refine DFT.run (unhide HhSB) (unhide HON) _ ?_); intro y__)
      | ((with_reducible refine at_later 105 ?_); (with_reducible refine DFT.run (unhide HhMan) (unhide HON) _ ?_); intro y__)
      | ((with_reducible refine at_later 107 ?_); (with_reducible refine DFT.run (unhide HhCl) (unhide HON) _ ?_); intro y__)
      | ((with_reducible refine at_later 106 ?_); (with_reducible refine DFT.run (unhide HhLo) (unhide HON) _ ?_); intro y__)
      | ((with_reducible refine at_later 59 ?_); (with_reducible refine DFT.run (unhide HhSl) (unhide HON) _ ?_); intro y__)
      | fail)
    all_goals exact unhide HK _ (hB _)
  · go_enter Oaag.func54, Oaag.ntmps54
    go_wp2_with (first
      | ((with_reducible refine at_later 67 ?_); refine Ret.run (fmtOk_ret 11 52 hf) _ ?_; rintro _ y__ rfl)
      | ((with_reducible refine at_later 39 ?_); refine Ret.run (decOk_ret _ d e h1 h2 hd) _ ?_; rintro _ y__ ⟨b__, rfl, hb__⟩; obtain rfl : b__ = true := hb__.2 hc; clear hb__)
      | ((with_reducible refine at_later 104 ?_); (with_reducible refine DFT.run (unhide HhSB) (unhide HON) _ ?_); intro y__)
      | ((with_reducible refine at_later 105 ?_); (with_reducible refine DFT.run (unhide HhMan) (unhide HON) _ ?_); intro y__)
      | ((with_reducible refine at_later 107 ?_); (with_reducible refine DFT.run (unhide HhCl) (unhide HON) _ ?_); intro y__)
      | ((with_reducible refine at_later 106 ?_); (with_reducible refine DFT.run (unhide HhLo) (unhide HON) _ ?_); intro y__)
      | ((with_reducible refine at_later 59 ?_); (with_reducible refine DFT.run (unhide HhSl) (unhide HON) _ ?_); intro y__)
      | fail)
    refine Go.LaxQ.region_guarded _ 9 3 [4, 5, 6] [(1, fun v => v = .agg #[.int .u8 11, .int .u8 52]), (7, fun v => v = .bool false)] [] (fun _ => True) (by kernel_rfl) (by kernel_rfl) (by kernel_rfl) (by kernel_rfl) trivial (fun _ _ _ _ => trivial) (fun _ h => by cases h) (List.forall_mem_cons.2 ⟨⟨_, rfl⟩, List.forall_mem_cons.2 ⟨⟨_, rfl⟩, fun _ h => by cases h⟩⟩) ?_
    (refine Go.LaxQ.walk_det rfl rfl rfl rfl rfl ?_; go_big_quiet_want; go_big_quiet_op; go_big_quiet_on; refine wpQuiet_nil ?_)
    refine Go.LaxQ.q_call rfl rfl rfl rfl (fun _ _ _ _ => trivial) ?_ (fun y K hI hG hK => by
        go_wp2_with fail
        refine fmt74_ret _ _ ?_
        rintro _ w' rfl hb
        have hh := Go.Proofs.YgcoaaGreat.NatW.hide (hK _ w' rfl trivial hb)
        clear hK
        go_wp2_with fail
        exact Eq.mp (by kernel_rfl) (Go.Proofs.YgcoaaGreat.NatW.unhide hh))
    rintro v9 rfl
    ((try dsimp only); go_big_quiet_want; go_big_quiet_op; go_big_quiet_on; refine wpQuiet_nil ?_)
    (refine Go.LaxQ.walk_det rfl rfl rfl rfl rfl ?_; go_big_quiet_want; go_big_quiet_op; go_big_quiet_on; refine wpQuiet_nil ?_)
    (refine Go.LaxQ.walk_det rfl rfl rfl rfl rfl ?_; go_big_quiet_want; go_big_quiet_op; go_big_quiet_on; refine wpQuiet_nil ?_)
    (refine Go.LaxQ.walk_skip_mv rfl rfl ?_; (try dsimp only); go_big_quiet_want; go_big_quiet_op; go_big_quiet_on; refine wpQuiet_nil ?_)
    (refine Go.LaxQ.walk_skip_mv rfl rfl ?_; (try dsimp only); go_big_quiet_want; go_big_quiet_op; go_big_quiet_on; refine wpQuiet_nil ?_)
    (refine Go.LaxQ.walk_skip_mv rfl rfl ?_; (try dsimp only); go_big_quiet_want; go_big_quiet_op; go_big_quiet_on; refine wpQuiet_nil ?_)
    refine Go.LaxQ.q_call rfl rfl rfl rfl (fun _ _ _ _ => trivial) ?_ (fun y K hI hG hK => by
        have HK := hide hK
        clear hK
        go_wp2_with fail
        exact unhide HK _ _ rfl trivial (Below.refl _ _))
    rintro v9 rfl
    ((try dsimp only); go_big_quiet_want; go_big_quiet_op; go_big_quiet_on; refine wpQuiet_nil ?_)
    (refine Go.LaxQ.walk_det rfl rfl rfl rfl rfl ?_; go_big_quiet_want; go_big_quiet_op; go_big_quiet_on; refine wpQuiet_nil ?_)
    refine Go.LaxQ.q_end ?_
    intro y hI hG
    clear hI hG
    go_wp2_with (first
      | ((with_reducible refine at_later 67 ?_); refine Ret.run (fmtOk_ret 11 52 hf) _ ?_; rintro _ y__ rfl)
      | ((with_reducible refine at_later 39 ?_); refine Ret.run (decOk_ret _ d e h1 h2 hd) _ ?_; rintro _ y__ ⟨b__, rfl, hb__⟩; obtain rfl : b__ = true := hb__.2 hc; clear hb__)
      | ((with_reducible refine at_later 104 ?_); (with_reducible refine DFT.run (unhide HhSB) (unhide HON) _ ?_); intro y__)
      | ((with_reducible refine at_later 105 ?_); (with_reducible refine DFT.run (unhide HhMan) (unhide HON) _ ?_); intro y__)
      | ((with_reducible refine at_later 107 ?_); (with_reducible refine DFT.run (unhide HhCl) (unhide HON) _ ?_); intro y__)
      | ((with_reducible refine at_later 106 ?_); (with_reducible refine DFT.run (unhide HhLo) (unhide HON) _ ?_); intro y__)
      | ((with_reducible refine at_later 59 ?_); (with_reducible refine DFT.run (unhide HhSl) (unhide HON) _ ?_); intro y__)
      | fail)
    all_goals exact unhide HK _ (hB _)
  · go_enter Oaag.func54, Oaag.ntmps54
    go_wp2_with (first
      | ((with_reducible refine at_later 67 ?_); refine Ret.run (fmtOk_ret 11 52 hf) _ ?_; rintro _ y__ rfl)
      | ((with_reducible refine at_later 39 ?_); refine Ret.run (decOk_ret _ d e h1 h2 hd) _ ?_; rintro _ y__ ⟨b__, rfl, hb__⟩; obtain rfl : b__ = true := hb__.2 hc; clear hb__)
      | ((with_reducible refine at_later 104 ?_); (with_reducible refine DFT.run (unhide HhSB) (unhide HON) _ ?_); intro y__)
      | ((with_reducible refine at_later 105 ?_); (with_reducible refine DFT.run (unhide HhMan) (unhide HON) _ ?_); intro y__)
      | ((with_reducible refine at_later 107 ?_); (with_reducible refine DFT.run (unhide HhCl) (unhide HON) _ ?_); intro y__)
      | ((with_reducible refine at_later 106 ?_); (with_reducible refine DFT.run (unhide HhLo) (unhide HON) _ ?_); intro y__)
      | ((with_reducible refine at_later 59 ?_); (with_reducible refine DFT.run (unhide HhSl) (unhide HON) _ ?_); intro y__)
      | fail)
    refine Go.LaxQ.region_guarded _ 9 3 [4, 5, 6] [(1, fun v => v = .agg #[.int .u8 11, .int .u8 52]), (7, fun v => v = .bool false)] [] (fun _ => True) (by kernel_rfl) (by kernel_rfl) (by kernel_rfl) (by kernel_rfl) trivial (fun _ _ _ _ => trivial) (fun _ h => by cases h) (List.forall_mem_cons.2 ⟨⟨_, rfl⟩, List.forall_mem_cons.2 ⟨⟨_, rfl⟩, fun _ h => by cases h⟩⟩) ?_
    (refine Go.LaxQ.walk_det rfl rfl rfl rfl rfl ?_; go_big_quiet_want; go_big_quiet_op; go_big_quiet_on; refine wpQuiet_nil ?_)
    refine Go.LaxQ.q_call rfl rfl rfl rfl (fun _ _ _ _ => trivial) ?_ (fun y K hI hG hK => by
        go_wp2_with fail
        refine fmt74_ret _ _ ?_
        rintro _ w' rfl hb
        have hh := Go.Proofs.YgcoaaGreat.NatW.hide (hK _ w' rfl trivial hb)
        clear hK
        go_wp2_with fail
        exact Eq.mp (by kernel_rfl) (Go.Proofs.YgcoaaGreat.NatW.unhide hh))
    rintro v9 rfl
    ((try dsimp only); go_big_quiet_want; go_big_quiet_op; go_big_quiet_on; refine wpQuiet_nil ?_)
    (refine Go.LaxQ.walk_det rfl rfl rfl rfl rfl ?_; go_big_quiet_want; go_big_quiet_op; go_big_quiet_on; refine wpQuiet_nil ?_)
    (refine Go.LaxQ.walk_det rfl rfl rfl rfl rfl ?_; go_big_quiet_want; go_big_quiet_op; go_big_quiet_on; refine wpQuiet_nil ?_)
    (refine Go.LaxQ.walk_skip_mv rfl rfl ?_; (try dsimp only); go_big_quiet_want; go_big_quiet_op; go_big_quiet_on; refine wpQuiet_nil ?_)
    (refine Go.LaxQ.walk_skip_mv rfl rfl ?_; (try dsimp only); go_big_quiet_want; go_big_quiet_op; go_big_quiet_on; refine wpQuiet_nil ?_)
    (refine Go.LaxQ.walk_skip_mv rfl rfl ?_; (try dsimp only); go_big_quiet_want; go_big_quiet_op; go_big_quiet_on; refine wpQuiet_nil ?_)
    refine Go.LaxQ.q_call rfl rfl rfl rfl (fun _ _ _ _ => trivial) ?_ (fun y K hI hG hK => by
        have HK := hide hK
        clear hK
        go_wp2_with fail
        exact unhide HK _ _ rfl trivial (Below.refl _ _))
    rintro v9 rfl
    ((try dsimp only); go_big_quiet_want; go_big_quiet_op; go_big_quiet_on; refine wpQuiet_nil ?_)
    (refine Go.LaxQ.walk_det rfl rfl rfl rfl rfl ?_; go_big_quiet_want; go_big_quiet_op; go_big_quiet_on; refine wpQuiet_nil ?_)
    refine Go.LaxQ.q_end ?_
    intro y hI hG
    clear hI hG
    go_wp2_with (first
      | ((with_reducible refine at_later 67 ?_); refine Ret.run (fmtOk_ret 11 52 hf) _ ?_; rintro _ y__ rfl)
      | ((with_reducible refine at_later 39 ?_); refine Ret.run (decOk_ret _ d e h1 h2 hd) _ ?_; rintro _ y__ ⟨b__, rfl, hb__⟩; obtain rfl : b__ = true := hb__.2 hc; clear hb__)
      | ((with_reducible refine at_later 104 ?_); (with_reducible refine DFT.run (unhide HhSB) (unhide HON) _ ?_); intro y__)
      | ((with_reducible refine at_later 105 ?_); (with_reducible refine DFT.run (unhide HhMan) (unhide HON) _ ?_); intro y__)
      | ((with_reducible refine at_later 107 ?_); (with_reducible refine DFT.run (unhide HhCl) (unhide HON) _ ?_); intro y__)
      | ((with_reducible refine at_later 106 ?_); (with_reducible refine DFT.run (unhide HhLo) (unhide HON) _ ?_); intro y__)
      | ((with_reducible refine at_later 59 ?_); (with_reducible refine DFT.run (unhide HhSl) (unhide HON) _ ?_); intro y__)
      | fail)
    all_goals exact unhide HK _ (hB _)
  · go_enter Oaag.func54, Oaag.ntmps54
    go_wp2_with (first
      | ((with_reducible refine at_later 67 ?_); refine Ret.run (fmtOk_ret 11 52 hf) _ ?_; rintro _ y__ rfl)
      | ((with_reducible refine at_later 39 ?_); refine Ret.run (decOk_ret _ d e h1 h2 hd) _ ?_; rintro _ y__ ⟨b__, rfl, hb__⟩; obtain rfl : b__ = true := hb__.2 hc; clear hb__)
      | ((with_reducible refine at_later 104 ?_); (with_reducible refine DFT.run (unhide HhSB) (unhide HON) _ ?_); intro y__)
      | ((with_reducible refine at_later 105 ?_); (with_reducible refine DFT.run (unhide HhMan) (unhide HON) _ ?_); intro y__)
      | ((with_reducible refine at_later 107 ?_); (with_reducible refine DFT.run (unhide HhCl) (unhide HON) _ ?_); intro y__)
      | ((with_reducible refine at_later 106 ?_); (with_reducible refine DFT.run (unhide HhLo) (unhide HON) _ ?_); intro y__)
      | ((with_reducible refine at_later 59 ?_); (with_reducible refine DFT.run (unhide HhSl) (unhide HON) _ ?_); intro y__)
      | fail)
    refine Go.LaxQ.region_guarded _ 9 3 [4, 5, 6] [(1, fun v => v = .agg #[.int .u8 11, .int .u8 52]), (7, fun v => v = .bool false)] [] (fun _ => True) (by kernel_rfl) (by kernel_rfl) (by kernel_rfl) (by kernel_rfl) trivial (fun _ _ _ _ => trivial) (fun _ h => by cases h) (List.forall_mem_cons.2 ⟨⟨_, rfl⟩, List.forall_mem_cons.2 ⟨⟨_, rfl⟩, fun _ h => by cases h⟩⟩) ?_
    (refine Go.LaxQ.walk_det rfl rfl rfl rfl rfl ?_; go_big_quiet_want; go_big_quiet_op; go_big_quiet_on; refine wpQuiet_nil ?_)
    refine Go.LaxQ.q_call rfl rfl rfl rfl (fun _ _ _ _ => trivial) ?_ (fun y K hI hG hK => by
        go_wp2_with fail
        refine fmt74_ret _ _ ?_
        rintro _ w' rfl hb
        have hh := Go.Proofs.YgcoaaGreat.NatW.hide (hK _ w' rfl trivial hb)
        clear hK
        go_wp2_with fail
        exact Eq.mp (by kernel_rfl) (Go.Proofs.YgcoaaGreat.NatW.unhide hh))
    rintro v9 rfl
    ((try dsimp only); go_big_quiet_want; go_big_quiet_op; go_big_quiet_on; refine wpQuiet_nil ?_)
    (refine Go.LaxQ.walk_det rfl rfl rfl rfl rfl ?_; go_big_quiet_want; go_big_quiet_op; go_big_quiet_on; refine wpQuiet_nil ?_)
    (refine Go.LaxQ.walk_det rfl rfl rfl rfl rfl ?_; go_big_quiet_want; go_big_quiet_op; go_big_quiet_on; refine wpQuiet_nil ?_)
    (refine Go.LaxQ.walk_skip_mv rfl rfl ?_; (try dsimp only); go_big_quiet_want; go_big_quiet_op; go_big_quiet_on; refine wpQuiet_nil ?_)
    (refine Go.LaxQ.walk_skip_mv rfl rfl ?_; (try dsimp only); go_big_quiet_want; go_big_quiet_op; go_big_quiet_on; refine wpQuiet_nil ?_)
    (refine Go.LaxQ.walk_skip_mv rfl rfl ?_; (try dsimp only); go_big_quiet_want; go_big_quiet_op; go_big_quiet_on; refine wpQuiet_nil ?_)
    refine Go.LaxQ.q_call rfl rfl rfl rfl (fun _ _ _ _ => trivial) ?_ (fun y K hI hG hK => by
        have HK := hide hK
        clear hK
        go_wp2_with fail
        exact unhide HK _ _ rfl trivial (Below.refl _ _))
    rintro v9 rfl
    ((try dsimp only); go_big_quiet_want; go_big_quiet_op; go_big_quiet_on; refine wpQuiet_nil ?_)
    (refine Go.LaxQ.walk_det rfl rfl rfl rfl rfl ?_; go_big_quiet_want; go_big_quiet_op; go_big_quiet_on; refine wpQuiet_nil ?_)
    refine Go.LaxQ.q_end ?_
    intro y hI hG
    clear hI hG
    go_wp2_with (first
      | ((with_reducible refine at_later 67 ?_); refine Ret.run (fmtOk_ret 11 52 hf) _ ?_; rintro _ y__ rfl)
      | ((with_reducible refine at_later 39 ?_); refine Ret.run (decOk_ret _ d e h1 h2 hd) _ ?_; rintro _ y__ ⟨b__, rfl, hb__⟩; obtain rfl : b__ = true := hb__.2 hc; clear hb__)
      | ((with_reducible refine at_later 104 ?_); (with_reducible refine DFT.run (unhide HhSB) (unhide HON) _ ?_); intro y__)
      | ((with_reducible refine at_later 105 ?_); (with_reducible refine DFT.run (unhide HhMan) (unhide HON) _ ?_); intro y__)
      | ((with_reducible refine at_later 107 ?_); (with_reducible refine DFT.run (unhide HhCl) (unhide HON) _ ?_); intro y__)
      | ((with_reducible refine at_later 106 ?_); (with_reducible refine DFT.run (unhide HhLo) (unhide HON) _ ?_); intro y__)
      | ((with_reducible refine at_later 59 ?_); (with_reducible refine DFT.run (unhide HhSl) (unhide HON) _ ?_); intro y__)
      | fail)
    all_goals exact unhide HK _ (hB _)
end Go.Proofs.YgcoaaGreat.NatW
