/-
  trim, Take, FromU64, Normal, eqRaw, twin: the walks.
-/
import Derived.Test.YgcoaaGreatMem
namespace Go.Proofs.YgcoaaGreat.NatW
open Go.RowKit
open Go.Proofs.YgcoaaGreat.Limbs

set_option maxHeartbeats 400000 in
theorem trim_any (w : World) (a : Option Addr) (cap : Nat) (l : List Nat) (h : Sl w a cap l) (hb : l.length ≤ 70368744177664) :
    Calls Oaag.prog 60 #[.slice a l.length cap] w fun e w' => w = w' ∧ ∃ a' cap', e = .returned (.slice a' (lim (val l)).length cap') ∧ Trimmed a cap (val l) a' cap' := by
  have hle := h.le
  go_enter Oaag.func60, Oaag.ntmps60
  go_wp2
  go_loop [3] (fun t => ∃ k : Nat, k ≤ l.length ∧ t = .int .i64 k ∧ val (l.take k) = val l) (fun t => (intOf t).toNat)
  case atStart => exact ⟨l.length, Nat.le_refl _, rfl, by simp⟩
  case round =>
    obtain ⟨k, hk, rfl, hv⟩ := hrel
    have HV : Hid (val (l.take k) = val l) := hv
    clear hv
    by_cases hk0 : k = 0
    · subst hk0
      go_wp2
      go_ret
      have hv : val l = 0 := by have := HV.out; simpa [val] using this.symm
      exact ⟨rfl, none, 0, by rw [hv]; rfl, .inl ⟨hv, rfl, rfl⟩⟩
    · obtain ⟨j, rfl⟩ : ∃ j, k = j + 1 := ⟨k - 1, by omega⟩
      obtain ⟨b, off, rfl, hc⟩ := h.row (by omega)
      have hcj := hc j (by omega)
      clear hc
      go_wp2
      · go_round
        case rel =>
          have h0 : (((l[j]?.getD 0 : Nat) : Int) == 0) = true := by assumption
          refine ⟨j, by omega, rfl, ?_⟩
          rw [← HV.out, trim_zero l j (by omega) (by simpa using h0)]
        case measure => simp [intOf]
      · go_ret
        have h0 : (((l[j]?.getD 0 : Nat) : Int) == 0) = false := by assumption
        have e := trim_end l j h.lt hk (by simpa using h0)
        rw [HV.out] at e
        have e2 : (lim (val l)).length = j + 1 := by rw [← e, List.length_take]; omega
        refine ⟨rfl, _, _, by rw [e2]; rfl, .inr ⟨?_, rfl, rfl⟩⟩
        intro h1; rw [h1] at e2; simp [lim_zero] at e2


set_option maxRecDepth 20000 in
set_option maxHeartbeats 400000 in
theorem take_any (w : World) (a : Option Addr) (cap : Nat) (l : List Nat) (h : Sl w a cap l) (hb : l.length ≤ 70368744177664) :
    Calls Oaag.prog 42 #[.slice a l.length cap] w fun e w' => ∃ a' cap', e = .returned (.slice a' (lim (val l)).length cap') ∧ Res w.heap.size w' a' cap' (val l) ∧ Below w.heap.size w w' := by
  have hle := lim_length_le' l h.lt
  have q24 := eqnil24
  go_enter Oaag.func42, Oaag.ntmps42
  go_wp2_with (first
    | (go_at_call 60; refine (trim_any _ a cap l h hb).mono ?_; rintro e w' ⟨rfl, a', cap', rfl, ht⟩)
    | (at_make; refine wpList_mk _ rfl (.tmp 10) rfl (lim (val l)).length _ rfl rfl (by omega) ?_; intro w1 hr1 hb1)
    | (refine wpList_cp rfl (.tmp 12) (.tmp 13) 53 53 rfl Oaag.underlying53 _ _ _ rfl hr1 _ _ (lim (val l)) _ rfl rfl ((h.trim ht).later hb1) (Nat.le_refl _) w.heap.size w hb1 (Nat.le_refl _) ?_; intro w2 hr2 hb2))
  · go_ret
    have h0 : val l = 0 := (ht.none_iff h).1 (by assumption)
    exact ⟨none, 0, by rw [h0]; rfl, by rw [h0]; exact Res.nil, Below.refl _ _⟩
  · go_ret
    refine ⟨_, _, rfl, ?_, hb2⟩
    have h0 : val l ≠ 0 := fun e => by have := (ht.none_iff h).2 e; simp_all
    simp only [Nat.sub_self, List.replicate_zero, List.append_nil] at hr2
    exact .inr ⟨h0, _, _, rfl, Nat.le_refl _, hr2, Lt_lim _, rfl, val_lim _⟩

end Go.Proofs.YgcoaaGreat.NatW
