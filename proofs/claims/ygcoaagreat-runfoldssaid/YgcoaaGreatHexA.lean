/-
  Package hexa: Text.
-/
import Derived.Test.YgcoaaGreatExpG
set_option linter.unusedVariables false
set_option linter.unusedSimpArgs false
namespace Go.Proofs.YgcoaaGreat.NatW
attribute [local go_sem] Go.Instr.field Go.asAgg
open Go.RowKit

theorem u307 : Oaag.prog.underlying 307 = some (.array 16 5) := by kernel_rfl
theorem z307 : ((Oaag.prog.info? 307).bind fun i => i.zero.map fun z => z.cells) = some (Array.replicate 16 (.int .u8 0)) := by kernel_rfl

theorem index_strk (s : ByteArray) (k : IntKind) (i : Nat) (j : Int) (hj : j = (i : Int)) (h : i < s.size) (w : World) : (Instr.index 9 (.string s) (.int k j)).run Oaag.prog w = .ok (.int .u8 (byt s i)) w := by
  subst hj
  rw [run_index_string w 9 s k i u9, dif_pos ⟨by omega, by omega⟩]
  congr 2
  exact byt_at s i h

/-- What stands of Text's memory. -/
structure HX (w : World) (nb : Nat) (c e m : Int) (wr : World) : Prop where
  bl : Below w.heap.size w wr
  nlt : w.heap.size ≤ nb
  c1 : wr.cell? ⟨nb, 1, none⟩ = some (.int .i8 c)
  c2 : wr.cell? ⟨nb, 2, none⟩ = some (.int .i16 e)
  c3 : wr.cell? ⟨nb, 3, none⟩ = some (.int .u64 m)
theorem HX.later {w wr wr' : World} {nb : Nat} {c e m : Int} (h : HX w nb c e m wr) (hb : Below wr.heap.size wr wr') : HX w nb c e m wr' :=
  ⟨h.bl.trans (hb.mono h.bl.size), h.nlt, (hb.cell (p := ⟨nb, 1, none⟩) (World.block_lt_of_cell? _ _ h.c1)).trans h.c1, (hb.cell (p := ⟨nb, 2, none⟩) (World.block_lt_of_cell? _ _ h.c2)).trans h.c2, (hb.cell (p := ⟨nb, 3, none⟩) (World.block_lt_of_cell? _ _ h.c3)).trans h.c3⟩
theorem HX.set {w wr : World} {nb : Nat} {c e m : Int} (h : HX w nb c e m wr) (b i : Nat) (hb : b ≠ nb) (hw : w.heap.size ≤ b) (v : Value) : HX w nb c e m (wr.setCell ⟨b, i, none⟩ v) :=
  ⟨below_store h.bl hw _, h.nlt, by rw [cell_set _ _ _ _ _ _ _ h.c1, if_neg (by omega)], by rw [cell_set _ _ _ _ _ _ _ h.c2, if_neg (by omega)], by rw [cell_set _ _ _ _ _ _ _ h.c3, if_neg (by omega)]⟩

def HexR (w : World) (nb bb : Nat) (c e m : Int) (t7 t9 : Value) (wr : World) : Prop := ∃ (f n : Nat), t7 = .int .u64 f ∧ f < 18446744073709551616 ∧ t9 = .int .i64 n ∧ n ≤ 16 ∧ f % 16 ^ n = 0 ∧ HX w nb c e m wr ∧ Mine wr bb ∧ Bank wr bb 0 16 .u8 (fun _ => True)

theorem hex_lt (f n : Nat) (hf : f < 18446744073709551616) (hn : n ≤ 16) (h : f % 16 ^ n = 0) (h0 : f ≠ 0) : n < 16 := by
  rcases Nat.lt_or_ge n 16 with h' | h'
  · exact h'
  · have : n = 16 := by omega
    subst this
    have e : (16 : Nat) ^ 16 = 18446744073709551616 := by decide
    rw [e] at h
    omega
theorem hex_next (f n : Nat) (hn : n < 16) (h : f % 16 ^ n = 0) : (f * 16 % 18446744073709551616) % 16 ^ (n + 1) = 0 := by
  have e : 18446744073709551616 = 16 ^ (n + 1) * 16 ^ (15 - n) := by
    rw [← Nat.pow_add, show n + 1 + (15 - n) = 16 by omega]
  rw [e, Nat.mod_mul_right_mod, Nat.pow_succ, Nat.mul_mod_mul_right, h, Nat.zero_mul]
theorem hex_wrap (f : Nat) : IntKind.u64.wrap ((f : Int) * 16) = ((f * 16 % 18446744073709551616 : Nat) : Int) := by
  simp [IntKind.wrap, IntKind.bits, IntKind.signed]

theorem hex_step (f n : Nat) (hn : n < 16) (h : f % 16 ^ n = 0) : ∃ f' : Nat, IntKind.u64.wrap ((f : Int) * 16) = (f' : Int) ∧ f' < 18446744073709551616 ∧ f' % 16 ^ (n + 1) = 0 := ⟨_, hex_wrap f, Nat.mod_lt _ (by decide), hex_next f n hn h⟩
theorem clz_s (x : Int) (hx : U64 x) : Ret 194 #[.int .u64 x] (fun v => ∃ k : Int, v = .int .u8 k ∧ 0 ≤ k ∧ k ≤ 64) := (clz_ret x hx).mono fun v ⟨k, h1, h2, h3, _⟩ => ⟨k, h1, h2, h3⟩

set_option maxRecDepth 20000 in
set_option maxHeartbeats 16000000 in
theorem hexText_ret (E M : Nat) (hf : fok E M = true) (x : Int) (hx : U64 x) : Ret 181 #[fmt E M, .int .u64 x] (fun v => ∃ s, v = .string s ∧ s.size ≤ 200) := by
  obtain ⟨g1, g2, g3, g4⟩ := fok_bd hf
  intro w K hK
  have HK := hide hK
  clear hK
  go_enter Oaag.func181, Oaag.ntmps181
  go_wp2_with fail
  refine (unpack_i E M hf x hx) _ _ ?_
  rintro _ w3 ⟨xn, xc, xe, xm, rfl, xp, xq⟩ hb3
  obtain ⟨xe0, xe1, uxm, xc0, xc1⟩ := Pb.bd g4 xp
  clear xp xq
  have hb3' : Below w.heap.size w w3 := ((Below.refl _ _).alloc (Nat.le_refl _) _).trans (hb3.mono (by simp))
  have hz3 : w.heap.size < w3.heap.size := by have := hb3.size; simp at this; omega
  have q0 : w3.cell? ⟨w.heap.size, 0, none⟩ = some (.int .u8 E) := by rw [hb3.cell (p := ⟨w.heap.size, 0, none⟩) (by simp), World.cell?_alloc_new]; rfl
  have q1 : w3.cell? ⟨w.heap.size, 1, none⟩ = some (.int .u8 M) := by rw [hb3.cell (p := ⟨w.heap.size, 1, none⟩) (by simp), World.cell?_alloc_new]; rfl
  clear hb3
  obtain ⟨nb, hnb⟩ : ∃ nb, w3.heap.size = nb := ⟨_, rfl⟩
  have q0' : ∀ o, (w3.alloc o).cell? ⟨w.heap.size, 0, none⟩ = some (.int .u8 E) := fun o => by rw [World.cell?_alloc_lt (h := hz3)]; exact q0
  have q1' : ∀ o, (w3.alloc o).cell? ⟨w.heap.size, 1, none⟩ = some (.int .u8 M) := fun o => by rw [World.cell?_alloc_lt (h := hz3)]; exact q1
  go_wp2_with fail
  refine (fmtOk_ret E M hf) _ _ ?_
  rintro _ w5 rfl hb5
  obtain ⟨m, hm⟩ : ∃ m : Nat, xm = (m : Int) := ⟨xm.toNat, by have := uxm.1; omega⟩
  subst hm
  have hx5 : HX w nb xc xe m w5 := by
    have hb4 : Below w3.heap.size w3 (w3.alloc (.cells #[.bool xn, .int .i8 xc, .int .i16 xe, .int .u64 m] 113)) := (Below.refl _ _).alloc (Nat.le_refl _) _
    have h4 : HX w nb xc xe m (w3.alloc (.cells #[.bool xn, .int .i8 xc, .int .i16 xe, .int .u64 m] 113)) :=
      ⟨hb3'.trans (hb4.mono (by omega)), by omega, by rw [← hnb, World.cell?_alloc_new]; rfl, by rw [← hnb, World.cell?_alloc_new]; rfl, by rw [← hnb, World.cell?_alloc_new]; rfl⟩
    exact h4.later hb5
  have p0 : w5.cell? ⟨nb, 0, none⟩ = some (.bool xn) := by rw [hb5.cell (p := ⟨nb, 0, none⟩) (by simp; omega), ← hnb, World.cell?_alloc_new]; rfl
  have p1 := hx5.c1
  have p2 := hx5.c2
  have p3 := hx5.c3
  have q15 : w5.cell? ⟨w.heap.size, 1, none⟩ = some (.int .u8 M) := by rw [hb5.cell (p := ⟨w.heap.size, 1, none⟩) (by simp; omega)]; exact q1' _
  have hz5 : nb < w5.heap.size := World.block_lt_of_cell? _ _ p0
  have UM := hide uxm
  have HX5 := hide hx5
  clear hx5 hb5 hb3' q0 q1 q0' q1' uxm
  obtain ⟨Fn, hF, hFn⟩ : ∃ Fn : Nat, IntKind.u64.wrap (IntKind.u64.wrap ((m : Int) * 2 ^ (63 - M)) * 2) = (Fn : Int) ∧ Fn < 18446744073709551616 := by
    obtain ⟨h1, h2⟩ := wr64' (IntKind.u64.wrap ((m : Int) * 2 ^ (63 - M)) * 2)
    exact ⟨(IntKind.u64.wrap (IntKind.u64.wrap ((m : Int) * 2 ^ (63 - M)) * 2)).toNat, by omega, by omega⟩
  have HFN := hide hFn
  clear hFn
  obtain ⟨t4, e4⟩ : ∃ b, (xc == 4) = b := ⟨_, rfl⟩
  obtain ⟨t3, e3⟩ : ∃ b, (xc == 3) = b := ⟨_, rfl⟩
  cases t4
  · cases t3
    · obtain ⟨t0, e0⟩ : ∃ b, (xc == 0) = b := ⟨_, rfl⟩
      obtain ⟨tF, eF⟩ : ∃ b, ((Fn : Int) != 0) = b := ⟨_, rfl⟩
      cases tF
      · cases t0
        all_goals cases xn
        all_goals go_wp2_with fail
        all_goals
          first
          | (refine (itoa_ret 0 (by omega) (by omega)) _ _ ?_
             rintro _ w9 ⟨sI, rfl, hsI⟩ hb9
             have HB9 := hide ((unhide HX5).later hb9).bl
             clear hb9
             go_wp2_with fail
             refine unhide HK _ _ ⟨_, rfl, ?_⟩ (unhide HB9)
             simp only [ByteArray.size_append, ByteArray.size_extract, size_lit, List.size_toArray, List.length_cons, List.length_nil]; omega)
          | (with_reducible refine Go.Proofs.YgcoaaGreat.NatW.at_reg 20 ?_
             ((first | with_reducible refine Go.Proofs.YgcoaaGreat.NatW.gen_calls ?_ | with_reducible refine Go.Proofs.YgcoaaGreat.NatW.gen_wp ?_ | with_reducible refine Go.Proofs.YgcoaaGreat.NatW.gen_list ?_ | with_reducible refine Go.Proofs.YgcoaaGreat.NatW.gen_body ?_); intro W hW)
             have hxW : HX w nb xc xe m W := by rw [← hW]; exact unhide HX5
             clear hW HX5 p0 p1 p2 p3 q15
             obtain ⟨wb, x0, hwb, hB⟩ := boxes0 W
             have hx' : ∀ y : Later wb, HX w nb xc xe m y.at_ := fun y => by subst hwb; exact hxW.later (hB y)
             subst hwb
             clear hxW
             have hne : Nonempty (Later wb) := ⟨x0⟩
             have k2 := fun y => (hx' y).c2
             have k3 := fun y => (hx' y).c3
             have HXX := hide hx'
             clear hx'
             (repeat (first | (rewrite [Go.Proofs.YgcoaaGreat.NatW.frz_ite]; generalize Go.Proofs.YgcoaaGreat.NatW.frzI _ = x__) | (rewrite [Go.Proofs.YgcoaaGreat.NatW.frz_dec]; generalize Go.Proofs.YgcoaaGreat.NatW.frzB _ = x__) | (rewrite [Go.Proofs.YgcoaaGreat.NatW.frz_beq]; generalize Go.Proofs.YgcoaaGreat.NatW.frzB _ = x__) | (rewrite [Go.Proofs.YgcoaaGreat.NatW.frz_not]; generalize Go.Proofs.YgcoaaGreat.NatW.frzB _ = x__) | (rewrite [Go.Proofs.YgcoaaGreat.NatW.frz_and]; generalize Go.Proofs.YgcoaaGreat.NatW.frzB _ = x__) | (rewrite [Go.Proofs.YgcoaaGreat.NatW.frz_or]; generalize Go.Proofs.YgcoaaGreat.NatW.frzB _ = x__) | (rewrite [show ∀ (a b : Int), Value.bool (a != b) = Value.bool (Go.Proofs.YgcoaaGreat.NatW.frzB (a != b)) from fun _ _ => rfl]; generalize Go.Proofs.YgcoaaGreat.NatW.frzB _ = x__)))
             refine Go.Lax.region_calls _ 9 3 [(6, fun v => ∃ k : Int, v = .int .u8 k ∧ 0 ≤ k ∧ k ≤ 64)] (by kernel_rfl) (by kernel_rfl) (by kernel_rfl) (List.forall_mem_cons.2 ⟨⟨_, 0, rfl, by decide, by decide⟩, fun _ h => by cases h⟩) ?_
             iterate 6 (refine Go.Lax.walk_det rfl rfl rfl ?_; go_big_quiet_want; go_big_quiet_op; go_big_quiet_on; refine wpQuiet_nil ?_)
             refine Go.Lax.call_at rfl ?_ (fun y__ K__ hK__ => by (go_wp2_with fail; refine (clz_s m (unhide UM)) _ _ ?_; intro v__ w__ hv__ hb__; have hh__ := Go.Proofs.YgcoaaGreat.NatW.hide (hK__ v__ w__ hv__ hb__); clear hK__ hv__; go_wp2_with fail; exact Eq.mp (by kernel_rfl) (Go.Proofs.YgcoaaGreat.NatW.unhide hh__)))
             rintro v ⟨kz, rfl, hz0, hz1⟩
             ((try dsimp only); go_big_quiet_want; go_big_quiet_op; go_big_quiet_on; refine wpQuiet_nil ?_)
             iterate 2 (refine Go.Lax.walk_det rfl rfl rfl ?_; go_big_quiet_want; go_big_quiet_op; go_big_quiet_on; refine wpQuiet_nil ?_)
             refine Go.Lax.end_at ?_
             intro y
             go_wp2_with (first
               | (with_reducible refine Go.Proofs.YgcoaaGreat.NatW.at_later 36 ?_; refine Go.Proofs.YgcoaaGreat.NatW.Ret.run (itoa_ret _ (by first | omega | with_reducible exact (wri64 _).1 | with_reducible exact (wr64i _).1) (by first | omega | with_reducible exact (wri64 _).2 | with_reducible exact (wr64i _).2)) _ ?_; rintro _ y__ ⟨sI, rfl, hsI⟩))
             all_goals
               refine unhide HK _ _ ⟨_, rfl, ?_⟩ (unhide HXX _).bl
               simp only [ByteArray.size_append, ByteArray.size_extract, size_lit, List.size_toArray, List.length_cons, List.length_nil]; omega)
          | skip
      · cases t0
        all_goals cases xn
        all_goals go_wp2_with (refine wpList_newc 307 _ z307 rfl rfl ?_)
        all_goals have hFn := unhide HFN
        all_goals
          (obtain ⟨bb, hbb⟩ : ∃ bb, w5.heap.size = bb := ⟨_, rfl⟩
           have hst : HexR w nb bb xc xe m (.int .u64 Fn) (.int .i64 0) (w5.alloc (.cells (Array.replicate 16 (.int .u8 0)) 307)) := by
             refine ⟨Fn, 0, rfl, hFn, rfl, by omega, by simp [Nat.mod_one], (unhide HX5).later ((Below.refl _ _).alloc (Nat.le_refl _) _), ?_, ?_⟩
             · rw [← hbb]; exact Mine.new w5 _ _
             · rw [← hbb]; exact Bank.new w5 _ _ _ _ _ _ fun i hi => ⟨0, by rw [Nat.zero_add, Array.getElem?_replicate, if_pos hi], trivial⟩
           have HST := hide hst
           have hbn : bb ≠ nb := by omega
           have hbw : w.heap.size ≤ bb := by omega
           rw [hbb]
           clear hst HX5 p0 p1 p2 p3 q15 hbb
           go_loopw [7, 9] (HexR w nb bb xc xe m) (fun _ t9 _ => 16 - (intOf t9).toNat)
           case atStart => exact unhide HST
           case round =>
             clear HST hF hFn eF
             obtain ⟨f, n, rfl, hf1, rfl, hn, hfn, hxr, hmr, hbk⟩ := hrel
             obtain ⟨bz, ez⟩ : ∃ bz, ((f : Int) != 0) = bz := ⟨_, rfl⟩
             cases bz
             · have hsl := slice_arr_h 307 5 16 NatW.u307 NatW.s5 bb n n rfl hn
               obtain ⟨s1, hs1, hcv⟩ := bytes_string wr 119 9 5 NatW.u119 NatW.u5 NatW.u9 bb 0 n 16 (fun _ => True) (fun j hj => hbk j (by omega))
               have r1 := hxr.c1
               have HXR := hide hxr
               have HF1 := hide hf1
               clear hxr hmr hbk hf1 hfn
               go_wp2_with fail
               all_goals clear ez
               all_goals
                 first
                 | (refine (itoa_ret 0 (by omega) (by omega)) _ _ ?_
                    rintro _ w9 ⟨sI, rfl, hsI⟩ hb9
                    have HB9 := hide ((unhide HXR).later hb9).bl
                    clear hb9
                    go_wp2_with fail
                    refine unhide HK _ _ ⟨_, rfl, ?_⟩ (unhide HB9)
                    simp only [ByteArray.size_append, ByteArray.size_extract, size_lit, List.size_toArray, List.length_cons, List.length_nil]; omega)
                 | (with_reducible refine Go.Proofs.YgcoaaGreat.NatW.at_reg 20 ?_
                    ((first | with_reducible refine Go.Proofs.YgcoaaGreat.NatW.gen_calls ?_ | with_reducible refine Go.Proofs.YgcoaaGreat.NatW.gen_wp ?_ | with_reducible refine Go.Proofs.YgcoaaGreat.NatW.gen_list ?_ | with_reducible refine Go.Proofs.YgcoaaGreat.NatW.gen_body ?_); intro W hW)
                    have hxW : HX w nb xc xe m W := by rw [← hW]; exact unhide HXR
                    clear hW HXR hsl hcv r1
                    obtain ⟨wb, x0, hwb, hB⟩ := boxes0 W
                    have hx' : ∀ y : Later wb, HX w nb xc xe m y.at_ := fun y => by subst hwb; exact hxW.later (hB y)
                    subst hwb
                    clear hxW
                    have hne : Nonempty (Later wb) := ⟨x0⟩
                    have k2 := fun y => (hx' y).c2
                    have k3 := fun y => (hx' y).c3
                    have HXX := hide hx'
                    clear hx'
                    (repeat (first | (rewrite [Go.Proofs.YgcoaaGreat.NatW.frz_ite]; generalize Go.Proofs.YgcoaaGreat.NatW.frzI _ = x__) | (rewrite [Go.Proofs.YgcoaaGreat.NatW.frz_dec]; generalize Go.Proofs.YgcoaaGreat.NatW.frzB _ = x__) | (rewrite [Go.Proofs.YgcoaaGreat.NatW.frz_beq]; generalize Go.Proofs.YgcoaaGreat.NatW.frzB _ = x__) | (rewrite [Go.Proofs.YgcoaaGreat.NatW.frz_not]; generalize Go.Proofs.YgcoaaGreat.NatW.frzB _ = x__) | (rewrite [Go.Proofs.YgcoaaGreat.NatW.frz_and]; generalize Go.Proofs.YgcoaaGreat.NatW.frzB _ = x__) | (rewrite [Go.Proofs.YgcoaaGreat.NatW.frz_or]; generalize Go.Proofs.YgcoaaGreat.NatW.frzB _ = x__) | (rewrite [show ∀ (a b : Int), Value.bool (a != b) = Value.bool (Go.Proofs.YgcoaaGreat.NatW.frzB (a != b)) from fun _ _ => rfl]; generalize Go.Proofs.YgcoaaGreat.NatW.frzB _ = x__)))
                    refine Go.Lax.region_calls _ 9 3 [(6, fun v => ∃ k : Int, v = .int .u8 k ∧ 0 ≤ k ∧ k ≤ 64)] (by kernel_rfl) (by kernel_rfl) (by kernel_rfl) (List.forall_mem_cons.2 ⟨⟨_, 0, rfl, by decide, by decide⟩, fun _ h => by cases h⟩) ?_
                    iterate 6 (refine Go.Lax.walk_det rfl rfl rfl ?_; go_big_quiet_want; go_big_quiet_op; go_big_quiet_on; refine wpQuiet_nil ?_)
                    refine Go.Lax.call_at rfl ?_ (fun y__ K__ hK__ => by (go_wp2_with fail; refine (clz_s m (unhide UM)) _ _ ?_; intro v__ w__ hv__ hb__; have hh__ := Go.Proofs.YgcoaaGreat.NatW.hide (hK__ v__ w__ hv__ hb__); clear hK__ hv__; go_wp2_with fail; exact Eq.mp (by kernel_rfl) (Go.Proofs.YgcoaaGreat.NatW.unhide hh__)))
                    rintro v ⟨kz, rfl, hz0, hz1⟩
                    ((try dsimp only); go_big_quiet_want; go_big_quiet_op; go_big_quiet_on; refine wpQuiet_nil ?_)
                    iterate 2 (refine Go.Lax.walk_det rfl rfl rfl ?_; go_big_quiet_want; go_big_quiet_op; go_big_quiet_on; refine wpQuiet_nil ?_)
                    refine Go.Lax.end_at ?_
                    intro y
                    go_wp2_with (first
                      | (with_reducible refine Go.Proofs.YgcoaaGreat.NatW.at_later 36 ?_; refine Go.Proofs.YgcoaaGreat.NatW.Ret.run (itoa_ret _ (by first | omega | with_reducible exact (wri64 _).1 | with_reducible exact (wr64i _).1) (by first | omega | with_reducible exact (wri64 _).2 | with_reducible exact (wr64i _).2)) _ ?_; rintro _ y__ ⟨sI, rfl, hsI⟩))
                    all_goals
                      refine unhide HK _ _ ⟨_, rfl, ?_⟩ (unhide HXX _).bl
                      simp only [ByteArray.size_append, ByteArray.size_extract, size_lit, List.size_toArray, List.length_cons, List.length_nil]; omega)
                 | skip
             · have hf0 : f ≠ 0 := by intro h; subst h; simp at ez
               have hn16 := hex_lt f n hf1 hn hfn hf0
               obtain ⟨vn, kn, -⟩ := hbk.cell n hn16
               have fnn := hmr.2 n
               have hix := index_strk ⟨#[48, 49, 50, 51, 52, 53, 54, 55, 56, 57, 97, 98, 99, 100, 101, 102]⟩ .u64 (f / 1152921504606846976) ((f : Int) / 1152921504606846976) (by omega) (by rw [size_lit]; simp; omega)
               obtain ⟨f', hwp, hf', hnx⟩ := hex_step f n hn16 hfn
               have HXR := hide hxr
               have HMR := hide hmr
               have HBK := hide hbk
               have HF1 := hide hf1
               have HNX := hide hnx
               have HF' := hide hf'
               clear hxr hmr hbk hf1 hfn hf0 hnx hf'
               go_wp2_with fail
               exact ⟨⟨f', n + 1, rfl, unhide HF', by simp, by omega, unhide HNX, (unhide HXR).set bb n hbn hbw _, (unhide HMR).set _ _, (unhide HBK).set _ trivial⟩, by simp [intOf]; omega⟩)
    · go_wp2_with fail
      exact unhide HK _ _ ⟨_, rfl, by decide⟩ (unhide HX5).bl
  · cases t3
    all_goals go_wp2_with fail
    all_goals exact unhide HK _ _ ⟨_, rfl, by decide⟩ (unhide HX5).bl

end Go.Proofs.YgcoaaGreat.NatW
