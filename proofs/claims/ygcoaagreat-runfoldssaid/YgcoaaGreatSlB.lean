/-
  Package slow: add: the walk.
-/
import Derived.Test.YgcoaaGreatSlA
set_option linter.unusedVariables false
set_option linter.unusedSimpArgs false
set_option maxRecDepth 20000
namespace Go.Proofs.YgcoaaGreat.NatW
open Go.RowKit
open Go.Proofs.YgcoaaGreat.Det
attribute [local go_sem] Go.Instr.field Go.asAgg

/-- In a round of add: the two numbers, the sum's box at s. -/
structure AdS (w : World) (bx nx bY ny s : Nat) (c cy : Nat → Nat) (h l : Int) (W : World) : Prop where
  x : BigX bx nx c W
  y : BigX bY ny cy W
  tape : W.tape = fun _ _ => 0
  row : W.heap[s]? = some (.cells #[.int .u64 h, .int .u64 l] 47 (0, 0))
  keep : Keep bx w W
  hi : w.heap.size ≤ s
theorem AdS.later {w : World} {bx nx bY ny s : Nat} {c cy : Nat → Nat} {h l : Int} {W W' : World} (S : AdS w bx nx bY ny s c cy h l W) (hb : Below W.heap.size W W') : AdS w bx nx bY ny s c cy h l W' :=
  ⟨S.x.later hb, S.y.later hb, hb.tape.trans S.tape, (hb.block _ (Array.getElem?_eq_some_iff.1 S.row).1).trans S.row, S.keep.later hb, S.hi⟩
theorem AdS.drew {w : World} {bx nx bY ny s : Nat} {c cy : Nat → Nat} {h l : Int} {W : World} (S : AdS w bx nx bY ny s c cy h l W) : AdS w bx nx bY ny s c cy h l W.drew := S.later ⟨rfl, rfl, rfl, Nat.le_refl _, fun _ _ => rfl⟩
theorem AdS.set {w : World} {bx nx bY ny s : Nat} {c cy : Nat → Nat} {h l : Int} {W : World} (S : AdS w bx nx bY ny s c cy h l W) (h1 : s ≠ bx) (h2 : s ≠ bY) (h' l' : Int) : AdS w bx nx bY ny s c cy h' l' ((W.setCell ⟨s, 0, none⟩ (.int .u64 h')).setCell ⟨s, 1, none⟩ (.int .u64 l')) :=
  ⟨(S.x.other _ h1).other _ h1, (S.y.other _ h2).other _ h2, S.tape, by rw [heap_set, if_pos rfl, heap_set, if_pos rfl, S.row]; rfl, (S.keep.set _ (.inr S.hi)).set _ (.inr S.hi), S.hi⟩
theorem AdS.new {w : World} {bx nx bY ny : Nat} {c cy : Nat → Nat} (l : Int) {W : World} (hx : BigX bx nx c W) (hy : BigX bY ny cy W) (ht : W.tape = fun _ _ => 0) (hk : Keep bx w W) : AdS w bx nx bY ny W.heap.size c cy 0 l (W.alloc (.cells #[.int .u64 0, .int .u64 l] 47)) :=
  have hb := (Below.refl W.heap.size W).alloc (Nat.le_refl _) (.cells #[.int .u64 0, .int .u64 l] 47)
  ⟨hx.later hb, hy.later hb, ht, row_new _ _ _ rfl, hk.later hb, hk.size⟩

set_option maxHeartbeats 4000000 in
theorem add_run (w : World) (bx nx bY ny : Nat) (cx cy : Nat → Nat) (hx : BigX bx nx cx w) (hy : BigX bY ny cy w) (hxy : bx ≠ bY) (ht : w.tape = fun _ _ => 0) :
    Calls Oaag.prog 360 #[.pointer (some ⟨bx, 0, none⟩), .pointer (some ⟨bY, 0, none⟩)] w (fun z w' => ∃ (cr : Bool) (c : Nat → Nat), z = .returned (.bool cr) ∧ BigX bx nx c w' ∧ BigX bY ny cy w' ∧ w'.tape = (fun _ _ => 0) ∧ Keep bx w w' ∧ nval c 52 + b2n cr * 18446744073709551616 ^ 52 = nval cx 52 + nval cy 52) := by
  have HX := hide hx
  have HY := hide hy
  have HT := hide ht
  clear hx hy ht
  go_enter Oaag.func360, Oaag.ntmps360
  go_wp2_with fail
  go_loopw [5, 6] (AdR bx nx bY ny cx cy w) (fun _ t6 _ => 52 - (intOf t6).toNat)
  case atStart => exact ⟨0, false, cx, by omega, rfl, rfl, fun _ _ => rfl, rfl, unhide HX, unhide HY, unhide HT, Keep.refl _ _⟩
  case round =>
    obtain ⟨i, cr, c, hi, rfl, rfl, hc, he, hX, hY, hT, hz⟩ := hrel
    clear HX HY HT
    by_cases hl : i < 52
    · have kx := hX.cw i hl
      have ux := hX.u i
      have uy := hY.u i
      have hci := hc i (Nat.le_refl _)
      have lx := hX.mine.1
      have ly := hY.mine.1
      have HX := hide hX
      have HY := hide hY
      have HT := hide hT
      have HE := hide he
      have HC := hide hc
      clear hX hY hT he hc
      obtain ⟨sb, hsb⟩ : ∃ sb, wr.heap.size = sb := ⟨_, rfl⟩
      have nex : sb ≠ bx := by omega
      have ney : sb ≠ bY := by omega
      cases cr
      · go_wp2_with (first
          | (with_reducible refine at_reg 8 ?_
             refine gen_wp ?_
             intro W hW
             have S : AdS w bx nx bY ny sb c cy 0 (cx i : Nat) W := by rw [← hW, ← hsb]; exact AdS.new _ (unhide HX) (unhide HY) (unhide HT) hz
             have hzW : sb ≤ W.heap.size := Nat.le_of_lt (Array.getElem?_eq_some_iff.1 S.row).1
             clear hW
             have s0 := cellr S.row 0 _ rfl
             have s1 := cellr S.row 1 _ rfl
             have ky := S.y.cw i hl
             refine wp_region_zero_list S.tape (by kernel_rfl) ?_)
          | (with_reducible refine at_fn 196 ?_
             refine (wadd_ex 0 (cx i : Nat) 0 (cy i : Nat) u64_zero ⟨by omega, by omega⟩ u64_zero ⟨by omega, by omega⟩ (by omega)) _ _ ?_
             rintro _ W2 ⟨h, l, bb, rfl, uh, ul, hs⟩ hb
             obtain ⟨H, rfl⟩ := Int.eq_ofNat_of_zero_le uh.1
             obtain ⟨L, rfl⟩ := Int.eq_ofNat_of_zero_le ul.1
             have hz2 : sb ≤ W2.heap.size := Nat.le_trans hzW hb.size
             have S2 := S.drew.later hb
             clear hb s0 s1 ky S hzW
             have s0 := cellr S2.row 0 _ rfl
             have s1 := cellr S2.row 1 _ rfl
             have fz := frzr S2.row)
          | (with_reducible refine at_reg 9 ?_
             refine gen_wp ?_
             intro W3 hW
             have S3 : AdS w bx nx bY ny sb c cy (H : Nat) (L : Nat) W3 := by rw [← hW]; exact S2.set nex ney _ _
             have hz3 : sb ≤ W3.heap.size := by rw [← hW, World.size_setCell, World.size_setCell]; exact hz2
             clear hW s0 s1 fz S2 hz2
             have s0 := cellr S3.row 0 _ rfl
             have s1 := cellr S3.row 1 _ rfl
             have kq := S3.x.cw i hl
             have fq := S3.x.mine.2 (1 + i)
             have t0 : (W3.setCell ⟨bx, 1 + i, none⟩ (.int .u64 (L : Nat))).cell? ⟨sb, 0, none⟩ = some (.int .u64 (H : Nat)) := by
               rw [cell_set _ _ _ _ _ _ _ s0, if_neg (by omega)]; rfl
             refine wp_region_zero_list S3.tape (by kernel_rfl) ?_)
          | fail)
        refine ⟨⟨i + 1, decide (H ≠ 0), ins c i L, by omega, by simp, ?_, ?_, ?_, (S3.x.set i L (by have := ul.2; omega)).drew, (S3.y.other _ hxy).drew, S3.tape, ?_⟩, by simp [intOf]; omega⟩
        · congr 1
          by_cases h0 : H = 0 <;> simp [h0]
        · intro j hj
          unfold ins
          rw [if_neg (by omega)]
          exact (unhide HC) j (by omega)
        · refine ad_step c cx cy i false H L (unhide HC) (unhide HE) ?_ (by have := ul.2; omega) ?_
          · show H * 18446744073709551616 + L = cx i + cy i + 0
            omega
          · omega
        · exact (S3.keep.set _ (.inl rfl)).drew
      · go_wp2_with (first
          | (with_reducible refine at_fn 196 ?_
             refine gen_calls ?_
             intro W hW
             have S0 : AdS w bx nx bY ny sb c cy 0 (cx i : Nat) W := by rw [← hW, ← hsb]; exact AdS.new _ (unhide HX) (unhide HY) (unhide HT) hz
             have hzW : sb ≤ W.heap.size := Nat.le_of_lt (Array.getElem?_eq_some_iff.1 S0.row).1
             clear hW HX HY HT
             refine (wadd_ex 0 (cx i : Nat) 0 1 u64_zero ⟨by omega, by omega⟩ u64_zero ⟨by omega, by omega⟩ (by omega)) W _ ?_
             rintro _ W1 ⟨h, l, b0, rfl, uh0, ul0, hs0⟩ hb
             obtain ⟨H0, rfl⟩ := Int.eq_ofNat_of_zero_le uh0.1
             obtain ⟨L0, rfl⟩ := Int.eq_ofNat_of_zero_le ul0.1
             have hz1 : sb ≤ W1.heap.size := Nat.le_trans hzW hb.size
             have S1 := S0.later hb
             clear hb S0 hzW
             have s0 := cellr S1.row 0 _ rfl
             have s1 := cellr S1.row 1 _ rfl
             have fz := frzr S1.row)
          | (with_reducible refine at_reg 8 ?_
             refine gen_wp ?_
             intro W hW
             have S : AdS w bx nx bY ny sb c cy (H0 : Nat) (L0 : Nat) W := by rw [← hW]; exact S1.set nex ney _ _
             have hzW : sb ≤ W.heap.size := by rw [← hW, World.size_setCell, World.size_setCell]; exact hz1
             clear hW s0 s1 fz S1 hz1
             have s0 := cellr S.row 0 _ rfl
             have s1 := cellr S.row 1 _ rfl
             have ky := S.y.cw i hl
             refine wp_region_zero_list S.tape (by kernel_rfl) ?_)
          | (with_reducible refine at_fn 196 ?_
             refine (wadd_ex (H0 : Nat) (L0 : Nat) 0 (cy i : Nat) uh0 ul0 u64_zero ⟨by omega, by omega⟩ (by omega)) _ _ ?_
             rintro _ W2 ⟨h, l, bb, rfl, uh, ul, hs⟩ hb
             obtain ⟨H, rfl⟩ := Int.eq_ofNat_of_zero_le uh.1
             obtain ⟨L, rfl⟩ := Int.eq_ofNat_of_zero_le ul.1
             have hz2 : sb ≤ W2.heap.size := Nat.le_trans hzW hb.size
             have S2 := S.drew.later hb
             clear hb s0 s1 ky S hzW
             have s0 := cellr S2.row 0 _ rfl
             have s1 := cellr S2.row 1 _ rfl
             have fz := frzr S2.row)
          | (with_reducible refine at_reg 9 ?_
             refine gen_wp ?_
             intro W3 hW
             have S3 : AdS w bx nx bY ny sb c cy (H : Nat) (L : Nat) W3 := by rw [← hW]; exact S2.set nex ney _ _
             have hz3 : sb ≤ W3.heap.size := by rw [← hW, World.size_setCell, World.size_setCell]; exact hz2
             clear hW s0 s1 fz S2 hz2
             have s0 := cellr S3.row 0 _ rfl
             have s1 := cellr S3.row 1 _ rfl
             have kq := S3.x.cw i hl
             have fq := S3.x.mine.2 (1 + i)
             have t0 : (W3.setCell ⟨bx, 1 + i, none⟩ (.int .u64 (L : Nat))).cell? ⟨sb, 0, none⟩ = some (.int .u64 (H : Nat)) := by
               rw [cell_set _ _ _ _ _ _ _ s0, if_neg (by omega)]; rfl
             refine wp_region_zero_list S3.tape (by kernel_rfl) ?_)
          | fail)
        refine ⟨⟨i + 1, decide (H ≠ 0), ins c i L, by omega, by simp, ?_, ?_, ?_, (S3.x.set i L (by have := ul.2; omega)).drew, (S3.y.other _ hxy).drew, S3.tape, ?_⟩, by simp [intOf]; omega⟩
        · congr 1
          by_cases h0 : H = 0 <;> simp [h0]
        · intro j hj
          unfold ins
          rw [if_neg (by omega)]
          exact (unhide HC) j (by omega)
        · refine ad_step c cx cy i true H L (unhide HC) (unhide HE) ?_ (by have := ul.2; omega) ?_
          · show H * 18446744073709551616 + L = cx i + cy i + 1
            omega
          · omega
        · exact (S3.keep.set _ (.inl rfl)).drew
    · have h52 : i = 52 := by omega
      subst h52
      go_wp2_with fail
      go_ret
      exact ⟨cr, c, rfl, hX, hY, hT, hz, he⟩
end Go.Proofs.YgcoaaGreat.NatW
