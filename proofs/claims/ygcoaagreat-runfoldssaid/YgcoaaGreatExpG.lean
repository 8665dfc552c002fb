/-
  Package expand: DigitsE, DigitsF.
-/
import Derived.Test.YgcoaaGreatExpF
import Derived.Test.YgcoaaGreatBld
import Derived.Test.YgcoaaGreatRyu
set_option linter.unusedVariables false
set_option linter.unusedSimpArgs false
namespace Go.Proofs.YgcoaaGreat.NatW
attribute [local go_sem] Go.Instr.field Go.asAgg
open Go.RowKit

theorem wr16' (x : Int) : -32768 ≤ IntKind.i16.wrap x ∧ IntKind.i16.wrap x ≤ 32767 := by
  simp [IntKind.wrap, IntKind.bits, IntKind.signed]
  omega
set_option maxRecDepth 20000 in
set_option maxHeartbeats 8000000 in
theorem digitsE_ret (E M : Nat) (hf : fok E M = true) (x p : Int) (hx : U64 x) (hp0 : 0 ≤ p) (hp1 : p ≤ 2000) : Ret 177 #[fmt E M, .int .u64 x, .int .u16 p] (fun v => ∃ s e, v = .tuple #[.string s, .int .i16 e] ∧ s.size ≤ 6000 ∧ -32768 ≤ e ∧ e ≤ 32767) := by
  intro w K hK
  have HK := hide hK
  clear hK
  go_enter Oaag.func177, Oaag.ntmps177
  go_wp2_with fail
  refine (classOf_ret E M hf x p hx hp0 (by omega)) _ _ ?_
  rintro _ w3 ⟨c, rfl, -⟩ hb3
  have hb3' : Below w.heap.size w w3 := ((Below.refl _ _).alloc (Nat.le_refl _) _).trans (hb3.mono (by simp))
  have hz3 : w.heap.size < w3.heap.size := by have := hb3.size; simp at this; omega
  have q0 : w3.cell? ⟨w.heap.size, 0, none⟩ = some (.int .u8 E) := by rw [hb3.cell (p := ⟨w.heap.size, 0, none⟩) (by simp), World.cell?_alloc_new]; rfl
  have q1 : w3.cell? ⟨w.heap.size, 1, none⟩ = some (.int .u8 M) := by rw [hb3.cell (p := ⟨w.heap.size, 1, none⟩) (by simp), World.cell?_alloc_new]; rfl
  clear hb3
  obtain ⟨w5, hsto, hb5, he5⟩ := exps_new w3 (p + 1) 2880 ⟨by omega, by omega⟩ ⟨by omega, by omega⟩
  have q05 : w5.cell? ⟨w.heap.size, 0, none⟩ = some (.int .u8 E) := (hb5.cell (p := ⟨w.heap.size, 0, none⟩) hz3).trans q0
  have q15 : w5.cell? ⟨w.heap.size, 1, none⟩ = some (.int .u8 M) := (hb5.cell (p := ⟨w.heap.size, 1, none⟩) hz3).trans q1
  have HST := hide hsto
  have HE5 := hide he5
  have HB5 := hide hb5
  have HB3 := hide hb3'
  clear hsto he5 hb5 hb3' q0 q1
  obtain ⟨db, hdb⟩ : ∃ db, w3.heap.size = db := ⟨_, rfl⟩
  obtain ⟨t3, e3⟩ : ∃ b, (c == 3) = b := ⟨_, rfl⟩
  obtain ⟨t4, e4⟩ : ∃ b, (c == 4) = b := ⟨_, rfl⟩
  obtain ⟨t0, e0⟩ : ∃ b, (c == 0) = b := ⟨_, rfl⟩
  cases t3
  all_goals cases t4
  all_goals cases t0
  all_goals go_wp2_with (first
    | (refine wpList_bldX rfl _ _ rfl _ _ rfl rfl ?_)
    | (refine wpList_newc 300 _ z300 rfl rfl ?_)
    | ((first | with_reducible refine Go.Proofs.YgcoaaGreat.NatW.at_load 300 ?_ | with_reducible refine Go.Proofs.YgcoaaGreat.NatW.at_store 300 ?_); refine wpList_stA rfl rfl 300 _ _ rfl w3.heap.size rfl _ rfl (unhide HST) ?_))
  all_goals first
    | (refine expand_any E M hf db 0 0 (p + 1) 2880 (by omega) (by omega) x hx w5 (by rw [← hdb]; exact unhide HE5) _ ?_
       intro n7 top7 w7 e7 hg7
       have hb7 : Below w.heap.size w w7 := by
         have h3 := unhide HB3
         have h5 := unhide HB5
         exact ⟨hg7.os.trans (h5.os.trans h3.os), hg7.tape.trans (h5.tape.trans h3.tape), hg7.output.trans (h5.output.trans h3.output), Nat.le_trans h3.size (Nat.le_trans h5.size hg7.size), fun k hk => (hg7.block k (by have := h5.size; omega) (by simp; omega)).trans ((h5.block k (by omega)).trans (h3.block k hk))⟩
       have kt7 := e7.top_
       have tt := e7.top64
       unfold I64 at tt
       have HE7 := hide e7
       have HB7 := hide hb7
       clear e7 hg7 hb7 HE5 HB5 HB3 HST q05 q15
       go_wp2_with fail
       refine round_any db n7 top7 (p + 1) 2880 _ ⟨by omega, by omega⟩ w7 (unhide HE7) _ ?_
       intro s w8 hs hb8
       obtain ⟨wb, x0, hwb, hB⟩ := boxes0 w8
       have kt : ∀ y : Later wb, y.at_.cell? ⟨db, 1442, none⟩ = some (.int .i64 top7) := fun y => by subst hwb; exact (((unhide HE7).kept hb8).kept (hB y)).top_
       have hby : ∀ y : Later wb, Below w.heap.size w y.at_ := fun y => by subst hwb; exact ((unhide HB7).trans (hb8.mono (unhide HB7).size)).trans ((hB y).mono (Nat.le_trans (unhide HB7).size hb8.size))
       subst hwb
       have hne : Nonempty (Later wb) := ⟨x0⟩
       have HBY := hide hby
       clear hb8 hby HE7 HB7 kt7
       by_cases hlen : p + 1 < s.size
       all_goals go_wp2_with (refine Go.Lax.region_reads _ (by kernel_rfl) (by kernel_rfl) ?_; (repeat (first | go_big_quiet_skip | (go_big_quiet_want; go_big_quiet_op; go_big_quiet_on))); refine wpQuiet_nil ?_; intro y__)
       all_goals first
         | exact unhide HK _ _ ⟨_, _, rfl, by omega, (wr16' _).1, (wr16' _).2⟩ (unhide HBY _)
         | exact unhide HK _ _ ⟨_, _, rfl, by rw [ByteArray.size_extract]; omega, (wr16' _).1, (wr16' _).2⟩ (unhide HBY _)
         | skip)
    | (refine (zeros_ret (p + 1) (by omega) (by omega)) w3 _ ?_
       rintro _ w4 ⟨zs, rfl, hzs⟩ hb4
       have HB4 := hide ((unhide HB3).trans (hb4.mono (by omega)))
       clear hb4
       go_wp2_with fail
       exact unhide HK _ _ ⟨_, _, rfl, by omega, by omega, by omega⟩ (unhide HB4))
    | exact unhide HK _ _ ⟨_, _, rfl, by decide, by decide, by decide⟩ (unhide HB3)
    | skip

set_option maxRecDepth 20000 in
set_option maxHeartbeats 8000000 in
theorem digitsF_ret (E M : Nat) (hf : fok E M = true) (x p : Int) (hx : U64 x) (hp0 : 0 ≤ p) (hp1 : p ≤ 2000) : Ret 179 #[fmt E M, .int .u64 x, .int .u16 p] (fun v => ∃ s, v = .string s ∧ s.size ≤ 6000) := by
  intro w K hK
  have HK := hide hK
  clear hK
  go_enter Oaag.func179, Oaag.ntmps179
  go_wp2_with fail
  refine (classOf_ret E M hf x p hx hp0 (by omega)) _ _ ?_
  rintro _ w3 ⟨c, rfl, -⟩ hb3
  have hb3' : Below w.heap.size w w3 := ((Below.refl _ _).alloc (Nat.le_refl _) _).trans (hb3.mono (by simp))
  have hz3 : w.heap.size < w3.heap.size := by have := hb3.size; simp at this; omega
  have q0 : w3.cell? ⟨w.heap.size, 0, none⟩ = some (.int .u8 E) := by rw [hb3.cell (p := ⟨w.heap.size, 0, none⟩) (by simp), World.cell?_alloc_new]; rfl
  have q1 : w3.cell? ⟨w.heap.size, 1, none⟩ = some (.int .u8 M) := by rw [hb3.cell (p := ⟨w.heap.size, 1, none⟩) (by simp), World.cell?_alloc_new]; rfl
  clear hb3
  obtain ⟨w5, hsto, hb5, he5⟩ := exps_new w3 2880 p ⟨by omega, by omega⟩ ⟨by omega, by omega⟩
  have q05 : w5.cell? ⟨w.heap.size, 0, none⟩ = some (.int .u8 E) := (hb5.cell (p := ⟨w.heap.size, 0, none⟩) hz3).trans q0
  have q15 : w5.cell? ⟨w.heap.size, 1, none⟩ = some (.int .u8 M) := (hb5.cell (p := ⟨w.heap.size, 1, none⟩) hz3).trans q1
  have HST := hide hsto
  have HE5 := hide he5
  have HB5 := hide hb5
  have HB3 := hide hb3'
  clear hsto he5 hb5 hb3' q0 q1
  obtain ⟨db, hdb⟩ : ∃ db, w3.heap.size = db := ⟨_, rfl⟩
  obtain ⟨t3, e3⟩ : ∃ b, (c == 3) = b := ⟨_, rfl⟩
  obtain ⟨t4, e4⟩ : ∃ b, (c == 4) = b := ⟨_, rfl⟩
  obtain ⟨t0, e0⟩ : ∃ b, (c == 0) = b := ⟨_, rfl⟩
  cases t3
  all_goals cases t4
  all_goals cases t0
  all_goals go_wp2_with (first
    | (refine wpList_bldX rfl _ _ rfl _ _ rfl rfl ?_)
    | (refine wpList_newc 300 _ z300 rfl rfl ?_)
    | ((first | with_reducible refine Go.Proofs.YgcoaaGreat.NatW.at_load 300 ?_ | with_reducible refine Go.Proofs.YgcoaaGreat.NatW.at_store 300 ?_); refine wpList_stA rfl rfl 300 _ _ rfl w3.heap.size rfl _ rfl (unhide HST) ?_))
  all_goals first
    | (refine expand_any E M hf db 0 0 2880 p (by omega) (by omega) x hx w5 (by rw [← hdb]; exact unhide HE5) _ ?_
       intro n7 top7 w7 e7 hg7
       have hb7 : Below w.heap.size w w7 := by
         have h3 := unhide HB3
         have h5 := unhide HB5
         exact ⟨hg7.os.trans (h5.os.trans h3.os), hg7.tape.trans (h5.tape.trans h3.tape), hg7.output.trans (h5.output.trans h3.output), Nat.le_trans h3.size (Nat.le_trans h5.size hg7.size), fun k hk => (hg7.block k (by have := h5.size; omega) (by simp; omega)).trans ((h5.block k (by omega)).trans (h3.block k hk))⟩
       have kt7 := e7.top_
       have tt := e7.top64
       unfold I64 at tt
       have HE7 := hide e7
       have HB7 := hide hb7
       clear e7 hg7 hb7 HE5 HB5 HB3 HST q05 q15
       go_wp2_with fail
       refine round_any db n7 top7 2880 p _ (by first | exact wr64i _ | exact wri64 _ | exact ⟨by omega, by omega⟩) w7 (unhide HE7) _ ?_
       intro s w8 hs hb8
       have HB8 := hide ((unhide HB7).trans (hb8.mono (unhide HB7).size))
       clear hb8 HE7 HB7 kt7
       go_wp2_with fail
       exact unhide HK _ _ ⟨_, rfl, hs⟩ (unhide HB8))
    | (refine (zeros_ret (p + 1) (by omega) (by omega)) w3 _ ?_
       rintro _ w4 ⟨zs, rfl, hzs⟩ hb4
       have HB4 := hide ((unhide HB3).trans (hb4.mono (by omega)))
       clear hb4
       go_wp2_with fail
       exact unhide HK _ _ ⟨_, _, rfl, by omega, by omega, by omega⟩ (unhide HB4))
    | exact unhide HK _ _ ⟨_, rfl, by decide⟩ (unhide HB3)
    | skip


end Go.Proofs.YgcoaaGreat.NatW
