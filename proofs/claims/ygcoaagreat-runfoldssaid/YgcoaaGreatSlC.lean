/-
  Package slow: mulAdd: the top limb does not vanish.
-/
import Derived.Test.YgcoaaGreatSlA
set_option linter.unusedVariables false
set_option linter.unusedSimpArgs false
set_option maxRecDepth 20000
namespace Go.Proofs.YgcoaaGreat.NatW
open Go.RowKit
open Go.Proofs.YgcoaaGreat.Det
attribute [local go_sem] Go.Instr.field Go.asAgg

structure MaS (w : World) (b n s : Nat) (c : Nat → Nat) (h l : Int) (W : World) : Prop where
  x : BigX b n c W
  tape : W.tape = fun _ _ => 0
  row : W.heap[s]? = some (.cells #[.int .u64 h, .int .u64 l] 47 (0, 0))
  keep : Keep b w W
  hi : w.heap.size ≤ s
theorem MaS.later {w : World} {b n s : Nat} {c : Nat → Nat} {h l : Int} {W W' : World} (S : MaS w b n s c h l W) (hb : Below W.heap.size W W') : MaS w b n s c h l W' :=
  ⟨S.x.later hb, hb.tape.trans S.tape, (hb.block _ (Array.getElem?_eq_some_iff.1 S.row).1).trans S.row, S.keep.later hb, S.hi⟩
theorem MaS.set {w : World} {b n s : Nat} {c : Nat → Nat} {h l : Int} {W : World} (S : MaS w b n s c h l W) (h1 : s ≠ b) (h' l' : Int) : MaS w b n s c h' l' ((W.setCell ⟨s, 0, none⟩ (.int .u64 h')).setCell ⟨s, 1, none⟩ (.int .u64 l')) :=
  ⟨(S.x.other _ h1).other _ h1, S.tape, by rw [heap_set, if_pos rfl, heap_set, if_pos rfl, S.row]; rfl, (S.keep.set _ (.inr S.hi)).set _ (.inr S.hi), S.hi⟩
theorem MaS.new {w : World} {b n : Nat} {c : Nat → Nat} (h l : Int) {W : World} (hx : BigX b n c W) (ht : W.tape = fun _ _ => 0) (hk : Keep b w W) : MaS w b n W.heap.size c h l (W.alloc (.cells #[.int .u64 h, .int .u64 l] 47)) :=
  have hb := (Below.refl W.heap.size W).alloc (Nat.le_refl _) (.cells #[.int .u64 h, .int .u64 l] 47)
  ⟨hx.later hb, ht, row_new _ _ _ rfl, hk.later hb, hk.size⟩

/-- The top limb is not zero, all above it are. -/
def Nz (n : Nat) (c : Nat → Nat) : Prop := 1 ≤ n ∧ c (n - 1) ≠ 0
def MaR (b n C0 m : Nat) (c0 : Nat → Nat) (w : World) (t2 t6 : Value) (wr : World) : Prop :=
  ∃ (k C : Nat) (c : Nat → Nat), k ≤ n ∧ t6 = .int .i64 k ∧ t2 = .int .u64 C ∧ C < 18446744073709551616 ∧ (∀ j, k ≤ j → c j = c0 j) ∧ (m ≠ 0 → 1 ≤ k → c0 (k - 1) ≠ 0 → C ≠ 0 ∨ c (k - 1) ≠ 0) ∧ (k = 0 → C = C0) ∧
    BigX b n c wr ∧ wr.tape = (fun _ _ => 0) ∧ Keep b w wr

set_option maxHeartbeats 4000000 in
theorem mulAdd_run (w : World) (b n : Nat) (c0 : Nat → Nat) (m C0 : Nat) (hm : m < 18446744073709551616) (hC0 : C0 < 18446744073709551616) (hX : BigX b n c0 w) (hn : n ≤ 51) (hz : ∀ j, n ≤ j → c0 j = 0) (ht : w.tape = fun _ _ => 0) :
    Calls Oaag.prog 208 #[.pointer (some ⟨b, 0, none⟩), .int .u64 (m : Nat), .int .u64 (C0 : Nat)] w (fun z w' => z = .returned (.tuple #[]) ∧ ∃ (n' : Nat) (c : Nat → Nat), BigX b n' c w' ∧ n ≤ n' ∧ n' ≤ n + 1 ∧ (∀ j, n' ≤ j → c j = 0) ∧ ((m ≠ 0 ∨ n = 0) → Nz n c0 ∨ (n = 0 ∧ C0 ≠ 0) → Nz n' c) ∧ w'.tape = (fun _ _ => 0) ∧ Keep b w w') := by
  have HX := hide hX
  have HT := hide ht
  have kn := hX.cn
  clear hX ht
  go_enter Oaag.func208, Oaag.ntmps208
  go_wp2_with fail
  clear kn
  go_loopw [2, 6] (MaR b n C0 m c0 w) (fun _ t6 _ => n - (intOf t6).toNat)
  case atStart => exact ⟨0, C0, c0, by omega, rfl, rfl, hC0, fun _ _ => rfl, fun _ h => by omega, fun _ => rfl, unhide HX, unhide HT, Keep.refl _ _⟩
  case round =>
    obtain ⟨k, C, c, hk, rfl, rfl, hC, hc, hnz, hk0, hX, hT, hK⟩ := hrel
    clear HX HT
    have kn := hX.cn
    by_cases hl : k < n
    · have kx := hX.cw k (by omega)
      have ux := hX.u k
      have hck := hc k (Nat.le_refl _)
      have lx := hX.mine.1
      have HX := hide hX
      have HT := hide hT
      have HK := hide hK
      have HC := hide hc
      have HZ := hide hz
      have HN := hide hnz
      clear hX hT hK hc hz hnz hk0
      have hab : c0 k * m ≤ 18446744073709551615 * 18446744073709551615 := Nat.mul_le_mul (by omega) (by omega)
      go_wp2_with (first
        | (with_reducible refine at_fn 195 ?_
           refine (mul64_ex (c0 k) m (by omega) hm) _ _ ?_
           rintro _ W1 ⟨h, l, rfl, uh, ul, hs⟩ hb
           obtain ⟨H, rfl⟩ := Int.eq_ofNat_of_zero_le uh.1
           obtain ⟨L, rfl⟩ := Int.eq_ofNat_of_zero_le ul.1
           have X1 := (unhide HX).later hb
           have T1 := hb.tape.trans (unhide HT)
           have K1 := (unhide HK).later hb
           have hsz := hb.size
           clear hb HX HT HK
           obtain ⟨sb, hsb⟩ : ∃ sb, W1.heap.size = sb := ⟨_, rfl⟩
           have nex : sb ≠ b := by omega
           unfold u128)
        | (with_reducible refine at_fn 196 ?_
           refine gen_calls ?_
           intro W hW
           have S : MaS w b n sb c (H : Nat) (L : Nat) W := by rw [← hW, ← hsb]; exact MaS.new _ _ X1 T1 K1
           clear hW X1 T1 K1
           refine (wadd_ex (H : Nat) (L : Nat) 0 (C : Nat) uh ul u64_zero ⟨by omega, by omega⟩ (by omega)) W _ ?_
           rintro _ W2 ⟨h, l, bb, rfl, uh2, ul2, hs2⟩ hb
           obtain ⟨H2, rfl⟩ := Int.eq_ofNat_of_zero_le uh2.1
           obtain ⟨L2, rfl⟩ := Int.eq_ofNat_of_zero_le ul2.1
           have S2 := S.later hb
           clear hb S
           have s0 := cellr S2.row 0 _ rfl
           have s1 := cellr S2.row 1 _ rfl
           have fz := frzr S2.row)
        | (with_reducible refine at_reg 5 ?_
           refine gen_wp ?_
           intro W3 hW
           have S3 : MaS w b n sb c (H2 : Nat) (L2 : Nat) W3 := by rw [← hW]; exact S2.set nex _ _
           clear hW s0 s1 fz S2
           have s0 := cellr S3.row 0 _ rfl
           have s1 := cellr S3.row 1 _ rfl
           have kq := S3.x.cw k (by omega)
           have fq := S3.x.mine.2 (1 + k)
           have t0 : (W3.setCell ⟨b, 1 + k, none⟩ (.int .u64 (L2 : Nat))).cell? ⟨sb, 0, none⟩ = some (.int .u64 (H2 : Nat)) := by
             rw [cell_set _ _ _ _ _ _ _ s0, if_neg (by omega)]; rfl
           refine wp_region_zero_list S3.tape (by kernel_rfl) ?_)
        | fail)
      refine ⟨⟨k + 1, H2, ins c k L2, by omega, by simp, rfl, by have := uh2.2; omega, ?_, ?_, fun h => by omega, (S3.x.set k L2 (by have := ul2.2; omega)).drew, S3.tape, (S3.keep.set _ (.inl rfl)).drew⟩, by simp [intOf]; omega⟩
      · intro j hj
        unfold ins
        rw [if_neg (by omega)]
        exact (unhide HC) j (by omega)
      · intro hm0 _ h1
        have h1' : c0 k ≠ 0 := by simpa using h1
        have hpos : 0 < c0 k * m := Nat.mul_pos (by omega) (by omega)
        have e1 : ins c k L2 (k + 1 - 1) = L2 := by unfold ins; rw [if_pos (by omega)]
        rw [e1]
        have cab : (c0 k : Int) * (m : Int) = ((c0 k * m : Nat) : Int) := by simp
        rw [cab] at hs
        omega
    · have hkn : k = n := by omega
      subst hkn
      by_cases hC1 : C = 0
      · subst hC1
        go_wp2_with fail
        all_goals
          refine bodyPost_nor (v := .tuple #[]) (by simp [results, Oaag.results208, go_sem]) rfl ⟨rfl, k, c, hX, by omega, by omega, fun j hj => (hc j hj).trans (hz j hj), ?_, hT, hK⟩
          rintro hm0 (⟨h1, h2⟩ | ⟨h1, h2⟩)
          · rcases hnz (by rcases hm0 with h | h; exact h; omega) h1 h2 with h3 | h3
            · exact absurd rfl h3
            · exact ⟨h1, h3⟩
          · exact absurd (hk0 h1).symm h2
      · have kx := hX.cw k (by omega)
        have fq := hX.mine.2 (1 + k)
        have f0 := hX.mine.2 0
        have t0 : (wr.setCell ⟨b, 1 + k, none⟩ (.int .u64 (C : Nat))).cell? ⟨b, 0, none⟩ = some (.int .i64 (k : Nat)) := by
          rw [cell_set _ _ _ _ _ _ _ kn, if_neg (by omega)]
        have hC2 : ((C : Int) != 0) = true := by simp; omega
        have hk52 : (k : Int) < 52 := by omega
        have HX := hide hX
        have HT := hide hT
        have HK := hide hK
        clear hX hT hK
        go_wp2_with (first
          | (with_reducible refine at_reg 8 ?_
             refine wp_region_zero_list (unhide HT) (by kernel_rfl) ?_)
          | fail)
        all_goals
          refine bodyPost_nor (v := .tuple #[]) (by simp [results, Oaag.results208, go_sem]) rfl ⟨rfl, k + 1, ins c k C, ((unhide HX).set k C hC).drew.setn (k + 1) (by omega), by omega, by omega, ?_, ?_, unhide HT, (((unhide HK).set _ (.inl rfl)).drew).set _ (.inl rfl)⟩
          · intro j hj
            unfold ins
            rw [if_neg (by omega)]
            exact (hc j (by omega)).trans (hz j (by omega))
          · intro _ _
            refine ⟨by omega, ?_⟩
            unfold ins
            rw [if_pos (by omega)]
            exact hC1
end Go.Proofs.YgcoaaGreat.NatW
