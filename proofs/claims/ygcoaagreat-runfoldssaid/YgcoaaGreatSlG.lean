/-
  Package slow: subMul returns, whatever the numbers.
-/
import Derived.Test.YgcoaaGreatSlB
import Derived.Test.YgcoaaGreatSlF
set_option linter.unusedVariables false
set_option linter.unusedSimpArgs false
set_option maxRecDepth 20000
namespace Go.Proofs.YgcoaaGreat.NatW
open Go.RowKit
open Go.Proofs.YgcoaaGreat.Det
attribute [local go_sem] Go.Instr.field Go.asAgg

theorem AdS.new2 {w : World} {bx nx bY ny : Nat} {c cy : Nat → Nat} (h l : Int) {W : World} (hx : BigX bx nx c W) (hy : BigX bY ny cy W) (ht : W.tape = fun _ _ => 0) (hk : Keep bx w W) : AdS w bx nx bY ny W.heap.size c cy h l (W.alloc (.cells #[.int .u64 h, .int .u64 l] 47)) :=
  have hb := (Below.refl W.heap.size W).alloc (Nat.le_refl _) (.cells #[.int .u64 h, .int .u64 l] 47)
  ⟨hx.later hb, hy.later hb, ht, row_new _ _ _ rfl, hk.later hb, hk.size⟩
theorem BigX.seti {b n : Nat} {c : Nat → Nat} {W : World} (h : BigX b n c W) (k : Nat) (v : Int) (hv : U64 v) : ∃ c', BigX b n c' (W.setCell ⟨b, 1 + k, none⟩ (.int .u64 v)) := by
  obtain ⟨V, rfl⟩ := Int.eq_ofNat_of_zero_le hv.1
  exact ⟨_, h.set k V (by have := hv.2; omega)⟩
def SmR (bx nx bY ny : Nat) (cy : Nat → Nat) (w : World) (t7 t8 t9 : Value) (wr : World) : Prop :=
  ∃ (i : Nat) (a b : Int) (c : Nat → Nat), i ≤ 52 ∧ t9 = .int .i64 i ∧ t7 = .int .u64 a ∧ U64 a ∧ t8 = .int .u64 b ∧ U64 b ∧ BigX bx nx c wr ∧ BigX bY ny cy wr ∧ wr.tape = (fun _ _ => 0) ∧ Keep bx w wr
def SmP (bx nx bY ny : Nat) (cy : Nat → Nat) (w w' : World) : Prop := ∃ c, BigX bx nx c w' ∧ BigX bY ny cy w' ∧ w'.tape = (fun _ _ => 0) ∧ Keep bx w w'

set_option maxHeartbeats 8000000 in
theorem subMul_run (w : World) (bx nx bY ny : Nat) (cx cy : Nat → Nat) (q : Int) (hq : U64 q) (hX : BigX bx nx cx w) (hY : BigX bY ny cy w) (hxy : bx ≠ bY) (ht : w.tape = fun _ _ => 0) :
    Calls Oaag.prog 359 #[.pointer (some ⟨bx, 0, none⟩), .pointer (some ⟨bY, 0, none⟩), .int .u64 q] w (fun z w' => ∃ v, z = .returned v ∧ BoolR v ∧ SmP bx nx bY ny cy w w') := by
  have HX := hide hX
  have HY := hide hY
  have HT := hide ht
  have HQ := hide hq
  clear hX hY ht hq
  go_enter Oaag.func359, Oaag.ntmps359
  go_wp2_with fail
  go_loopw [7, 8, 9, 11, 12] (fun t7 t8 t9 _ _ wr => SmR bx nx bY ny cy w t7 t8 t9 wr) (fun _ _ t9 _ _ _ => 52 - (intOf t9).toNat)
  case atStart => exact ⟨0, 0, 0, cx, by omega, rfl, rfl, u64_zero, rfl, u64_zero, unhide HX, unhide HY, unhide HT, Keep.refl _ _⟩
  case round =>
    obtain ⟨i, ca, bo, c, hi, rfl, rfl, ua, rfl, ub, hX, hY, hT, hK⟩ := hrel
    clear HX HY HT
    have HP := hide (show SmP bx nx bY ny cy w wr from ⟨c, hX, hY, hT, hK⟩)
    by_cases hl : i < 52
    · have kn := hX.cn
      have km := hY.cn
      have ky := hY.cw i hl
      have uy := hY.u i
      have lx := hX.mine.1
      have ly := hY.mine.1
      have HX := hide hX
      have HY := hide hY
      have HT := hide hT
      have HK := hide hK
      have HA := hide ua
      have HB := hide ub
      clear hX hY hT hK ua ub
      go_wp2_with (first
        | (with_reducible refine at_fn 195 ?_
           refine (mul64_ret (cy i : Nat) q ⟨by omega, by omega⟩ (unhide HQ)) _ _ ?_
           rintro _ W1 ⟨h, l, rfl, uh, ul⟩ hb
           have X1 := (unhide HX).later hb
           have Y1 := (unhide HY).later hb
           have T1 := hb.tape.trans (unhide HT)
           have K1 := (unhide HK).later hb
           have hsz := hb.size
           clear hb HX HY HT HK
           obtain ⟨sb, hsb⟩ : ∃ sb, W1.heap.size = sb := ⟨_, rfl⟩
           have nex : sb ≠ bx := by omega
           have ney : sb ≠ bY := by omega
           unfold u128)
        | (with_reducible refine at_fn 196 ?_
           refine gen_calls ?_
           intro W hW
           have S : AdS w bx nx bY ny sb c cy h l W := by rw [← hW, ← hsb]; exact AdS.new2 _ _ X1 Y1 T1 K1
           clear hW X1 Y1 T1 K1
           refine (wadd_ret h l 0 ca uh ul u64_zero (unhide HA)) W _ ?_
           rintro _ W2 ⟨h2, l2, bb, rfl, uh2, ul2⟩ hb
           have S2 := S.later hb
           clear hb S
           have s0 := cellr S2.row 0 _ rfl
           have s1 := cellr S2.row 1 _ rfl
           have fz := frzr S2.row)
        | (with_reducible refine at_reg 9 ?_
           refine gen_wp ?_
           intro W3 hW
           have S3 : AdS w bx nx bY ny sb c cy h2 l2 W3 := by rw [← hW]; exact S2.set nex ney _ _
           clear hW s0 s1 fz S2
           have s0 := cellr S3.row 0 _ rfl
           have s1 := cellr S3.row 1 _ rfl
           have kq := S3.x.cw i hl
           have fq := S3.x.mine.2 (1 + i)
           refine wp_region_zero_list S3.tape (by kernel_rfl) ?_)
        | (with_reducible refine at_reg 10 ?_
           refine wp_region_zero_list S3.drew.tape (by kernel_rfl) ?_)
        | fail)
      all_goals first
        | (go_ret; exact ⟨_, rfl, ⟨_, rfl⟩, unhide HP⟩)
        | (refine ⟨?_, by simp [intOf]; omega⟩
           obtain ⟨c', X'⟩ := S3.x.drew.drew.seti i _ (wr64 _)
           exact ⟨i + 1, _, _, c', by omega, by simp, rfl, uh2, rfl, by first | exact u64_zero | exact ⟨by decide, by decide⟩, X', (S3.y.drew.drew.other _ hxy), S3.tape, (S3.keep.drew.drew.set _ (.inl rfl))⟩)
        | fail
    · have hi52 : i = 52 := by omega
      subst hi52
      go_wp2_with fail
      go_ret
      exact ⟨_, rfl, ⟨_, rfl⟩, unhide HP⟩
end Go.Proofs.YgcoaaGreat.NatW
