/-
  Sqrt: the walk. What it answers is said by the iteration itself, over plain numbers.
-/
import Derived.Test.YgcoaaGreatSub
import Derived.Deep.LoopGhost
set_option linter.unusedVariables false
set_option linter.unusedSimpArgs false
namespace Go.Proofs.YgcoaaGreat.NatW
open Go.RowKit
open Go.Proofs.YgcoaaGreat.Limbs

/-- One step of Newton's. -/
def nxt (x s : Nat) : Nat := (s + dq x s) / 2
/-- The steps, by fuel. -/
def nwt : Nat → Nat → Nat → Nat
  | 0, _, s => s
  | f + 1, x, s => if nxt x s < s then nwt f x (nxt x s) else s
theorem nwt_more (x : Nat) : ∀ f g s, s ≤ f → s ≤ g → nwt f x s = nwt g x s := by
  intro f
  induction f with
  | zero =>
    intro g s h1 h2
    obtain rfl : s = 0 := by omega
    cases g with
    | zero => rfl
    | succ g => simp [nwt]
  | succ f ih =>
    intro g s h1 h2
    cases g with
    | zero => obtain rfl : s = 0 := by omega
              simp [nwt]
    | succ g =>
      simp only [nwt]
      split
      · exact ih g _ (by omega) (by omega)
      · rfl
theorem nwt_go (x s : Nat) (h : nxt x s < s) : nwt s x s = nwt (nxt x s) x (nxt x s) := by
  obtain ⟨f, rfl⟩ : ∃ f, s = f + 1 := ⟨s - 1, by omega⟩
  rw [nwt, if_pos h]
  exact nwt_more x _ _ _ (by omega) (Nat.le_refl _)
theorem nwt_stop (x s : Nat) (h : ¬ nxt x s < s) : nwt s x s = s := by
  cases s with
  | zero => rfl
  | succ f => rw [nwt, if_neg h]
theorem nwt_le (x : Nat) : ∀ f s, nwt f x s ≤ s := by
  intro f
  induction f with
  | zero => intro s; exact Nat.le_refl _
  | succ f ih =>
    intro s
    simp only [nwt]
    split
    · exact Nat.le_trans (ih _) (by omega)
    · exact Nat.le_refl _

/-- Sqrt's first estimate, and its answer. -/
def s0 (x : Nat) : Nat := 2 ^ ((bl x + 1) / 2)
def isq (x : Nat) : Nat := if x = 0 then 0 else nwt (s0 x) x (s0 x)

theorem bl_len (x : Nat) : bl x ≤ 32 * (lim x).length := by
  apply bl_le
  have := lt_of_lim_length x
  rwa [base_pow] at this
theorem pow2_len' (K : Nat) : (lim (2 ^ K)).length ≤ K / 32 + 1 := by
  apply lim_length_le
  rw [base_pow]
  exact Nat.pow_lt_pow_right (by omega) (by omega)
theorem s0_len (x : Nat) : 2 * (lim (s0 x)).length ≤ (lim x).length + 4 := by
  have h1 := bl_len x
  have h2 := pow2_len' ((bl x + 1) / 2)
  unfold s0
  omega

set_option maxRecDepth 20000 in
set_option maxHeartbeats 1000000 in
theorem sqrt_any (w : World) (a : Option Addr) (cap : Nat) (l : List Nat) (x : Nat) (hx : val l = x) (h : Sl w a cap l) (hb : l.length + 8 ≤ 70368744177664) :
    Calls Oaag.prog 416 #[.slice a l.length cap] w fun e w' => ∃ a' cap', e = .returned (.tuple #[.slice a' (lim (isq x)).length cap', .bool (decide (isq x * isq x = x))]) ∧ Res w.heap.size w' a' cap' (isq x) ∧ Below w.heap.size w w' := by
  have q24 := eqnil24
  have hle := lim_length_le' l h.lt
  go_enter Oaag.func416, Oaag.ntmps416
  go_wp2_with fail
  refine (trim_any _ a cap l h (by omega)).mono ?_; rintro e w' ⟨rfl, a', cap', rfl, ht⟩
  have s1 := h.trim ht
  have hnone := ht.none_iff h
  rw [hx] at s1 hle hnone ⊢
  have hxb : (lim x).length + 8 ≤ 70368744177664 := by omega
  clear ht h hx hle hb
  by_cases hx0 : x = 0
  · have hn := hnone.2 hx0
    have HX := hide hx0
    clear hnone hx0
    go_wp2
    go_ret2
    have hx0 := unhide HX
    have e : isq x = 0 := by unfold isq; rw [if_pos hx0]
    refine ⟨none, 0, ?_, by rw [e]; exact Res.nil, Below.refl _ _⟩
    rw [e]; simp [hx0]; rfl
  · have hn : a'.isNone = false := by
      cases h : a'.isNone
      · rfl
      · exact absurd (hnone.1 h) hx0
    have hlx := bl_len x
    have hs0l := s0_len x
    have HX := hide hx0
    clear hnone hx0
    go_wp2_with fail
    obtain ⟨w0, hw0⟩ : ∃ w0, w0 = w.alloc (Obj.cells #[Value.int IntKind.u32 1] 65) := ⟨_, rfl⟩
    have hb0 : Below w.heap.size w w0 := by rw [hw0]; exact (Below.refl _ _).alloc (Nat.le_refl _) _
    have hone : Res w.heap.size w0 (some ⟨w.heap.size, 0, none⟩) 1 1 := by rw [hw0]; exact one_limb w 1 (by omega) (by omega)
    rw [← hw0]
    clear hw0
    have hsz0 := hb0.size
    refine (bitLen_any _ a' cap' _ x (val_lim x) (s1.later hb0) (by omega)).mono ?_
    rintro e w' ⟨rfl, rfl⟩
    have hli := lift_any w0 (some ⟨w.heap.size, 0, none⟩) 1 _ 1 (val_lim 1) hone.sl ((bl x + 1) / 2) (by rw [lim_one 1 (by omega) (by omega)]; simp; omega)
    rw [Nat.one_mul, lim_one 1 (by omega) (by omega)] at hli
    obtain ⟨K, hK⟩ : ∃ K, K = (bl x + 1) / 2 := ⟨_, rfl⟩
    have hK2 : ((bl x : Nat) : Int) + 1 = 2 * (K : Int) ∨ ((bl x : Nat) : Int) + 1 = 2 * (K : Int) + 1 := by omega
    have hK3 : (((bl x : Nat) : Int) + 1) / 2 = (K : Int) := by omega
    rw [← hK] at hli
    have HLI := hide hli
    have HK := hide hK
    clear hli hK hK2 hone
    go_wp2_with fail
    refine (unhide HLI).mono ?_
    rintro e w1 ⟨a1, cap1, rfl, hres1, hb1⟩
    have es0 : 2 ^ K = s0 x := by unfold s0; rw [unhide HK]
    rw [es0] at hres1 ⊢
    have hb1' : Below w.heap.size w w1 := hb0.trans (hb1.mono hsz0)
    have HR1 := hide (hres1.lower hsz0)
    have HB1 := hide hb1'
    clear hres1 hb1 hb1' hb0 HLI es0 hK3
    go_wp2
    go_loopg [2] (s0 x) (fun k p wr => k ≤ s0 x ∧ nwt k x k = nwt (s0 x) x (s0 x) ∧ Below w.heap.size w wr ∧ ∃ a1 cap1, p = .slice a1 (lim k).length cap1 ∧ Res w.heap.size wr a1 cap1 k)
    case atStart => exact ⟨Nat.le_refl _, rfl, unhide HB1, a1, cap1, rfl, unhide HR1⟩
    case round =>
      clear HR1 HB1
      obtain ⟨hks, hnw, hbw, a2, cap2, rfl, hres⟩ := hrel
      obtain ⟨s, rfl⟩ : ∃ s, s = gk := ⟨_, rfl⟩
      have hl1 := lim_length_mono s (s0 x) hks
      have HNW := hide hnw
      clear hnw
      have hszr := hbw.size
      have hdm := divMod_any wr a' cap' _ x (val_lim x) (s1.later hbw) (by omega) a2 cap2 _ s (val_lim s) hres.sl (by omega)
      have HDM := hide hdm
      have HRS := hide hres
      clear hdm hres
      go_wp2_with fail
      refine (unhide HDM).mono ?_
      rintro e w2 ⟨aq, capq, ar, capr, rfl, hresq, hresr, hb2⟩
      have hsz2 := hb2.size
      have hdq : dq x s ≤ x := by unfold dq; split; omega; exact Nat.div_le_self _ _
      have hl2 := lim_length_mono _ _ hdq
      have had := add_any w2 a2 cap2 _ s (val_lim s) ((unhide HRS).later hb2).sl aq capq _ (dq x s) (val_lim _) hresq.sl (by omega) (by omega)
      have HAD := hide had
      clear had hresq hresr HDM
      go_wp2_with fail
      refine (unhide HAD).mono ?_
      rintro e w3 ⟨aa, caps, rfl, hress, hb3⟩
      have hsz3 := hb3.size
      have hl3 : (lim (s + dq x s)).length ≤ 70368744177664 := by
        have h1 : s + dq x s < 4294967296 ^ ((lim x).length + 4) := by
          have h2 := lt_of_lim_length s
          have h3 := lt_of_lim_length (dq x s)
          have h4 : 4294967296 ^ (lim s).length ≤ 4294967296 ^ ((lim x).length + 3) := Nat.pow_le_pow_right (by omega) (by omega)
          have h5 : 4294967296 ^ (lim (dq x s)).length ≤ 4294967296 ^ ((lim x).length + 3) := Nat.pow_le_pow_right (by omega) (by omega)
          rw [Nat.pow_succ]
          omega
        have := lim_length_le _ _ h1
        omega
      have hsh := shr_any w3 aa caps _ (s + dq x s) (val_lim _) hress.sl 1 (by omega) hl3
      rw [Nat.pow_one] at hsh
      have HSH := hide hsh
      clear hsh hress HAD
      go_wp2_with fail
      refine (unhide HSH).mono ?_
      rintro e w4 ⟨an, capn, rfl, hresn, hb4⟩
      have hsz4 := hb4.size
      have hnx : (s + dq x s) / 2 = nxt x s := rfl
      rw [hnx] at hresn ⊢
      have hl4 : (lim (nxt x s)).length ≤ 70368744177664 := Nat.le_trans (lim_length_mono _ (s + dq x s) (Nat.div_le_self _ _)) hl3
      have hbr4 : Below wr.heap.size wr w4 := (hb2.trans (hb3.mono hsz2)).trans (hb4.mono (by omega))
      have hcm := cmp_any w4 an capn _ (nxt x s) (val_lim _) hresn.sl hl4 a2 cap2 _ s (val_lim s) ((unhide HRS).later hbr4).sl (by omega)
      have HCM := hide hcm
      have HRN := hide hresn
      clear hcm hresn HSH hnx hl3 hl2 hdq
      go_wp2_with fail
      refine (unhide HCM).mono ?_
      rintro e w5 ⟨hb5, rfl⟩
      have hsz5 := hb5.size
      have hbr5 : Below wr.heap.size wr w5 := hbr4.trans (hb5.mono (by omega))
      have hbw5 : Below w.heap.size w w5 := hbw.trans (hbr5.mono hszr)
      have hrn5 := (unhide HRN).later hb5
      have hrs5 := (unhide HRS).later hbr5
      have HRN5 := hide (hrn5.lower (show w.heap.size ≤ w3.heap.size by omega))
      have HRS5 := hide hrs5
      clear hrn5 HCM HRN HRS hb5 hbr4 hb4 hb3 hb2
      by_cases hlt : nxt x s < s
      · have ec : cmpI (nxt x s) s = -1 := by simp [cmpI, hlt]
        rw [ec]
        clear hrs5
        go_wp2
        go_roundg (nxt x s)
        case measure => exact hlt
        case rel => exact ⟨by omega, (nwt_go x s hlt).symm.trans (unhide HNW), hbw5, an, capn, rfl, unhide HRN5⟩
      · have ec : 0 ≤ cmpI (nxt x s) s := by
          simp only [cmpI, if_neg hlt]; split <;> omega
        have ecd : decide (0 ≤ cmpI (nxt x s) s) = true := decide_eq_true ec
        have eis : s = isq x := by
          unfold isq
          rw [if_neg (unhide HX), ← unhide HNW, nwt_stop x s hlt]
        have hmu := mul_any w5 a2 cap2 _ s (val_lim s) hrs5.sl a2 cap2 _ s (val_lim s) hrs5.sl (by omega)
        have HMU := hide hmu
        have EIS := hide eis
        clear hmu hrs5 eis
        go_wp2_with fail
        refine (unhide HMU).mono ?_
        rintro e w6 ⟨am, capm, rfl, hresm, hb6⟩
        have hsz6 := hb6.size
        have hl6 : (lim (s * s)).length ≤ 70368744177664 := by
          have h1 : s * s < 4294967296 ^ ((lim s).length + (lim s).length) := by
            have h2 := lt_of_lim_length s
            rw [Nat.pow_add]
            exact Nat.mul_lt_mul_of_lt_of_lt h2 h2
          have := lim_length_le _ _ h1
          omega
        have hcm := cmp_any w6 am capm _ (s * s) (val_lim _) hresm.sl hl6 a' cap' _ x (val_lim x) ((s1.later hbw5).later hb6) (by omega)
        have HCM := hide hcm
        clear hcm hresm HMU hl6
        go_wp2_with fail
        refine (unhide HCM).mono ?_
        rintro e w7 ⟨hb7, rfl⟩
        go_wp2
        go_ret2
        rw [← unhide EIS]
        refine ⟨a2, cap2, ret_two rfl ?_, ((unhide HRS5).later hb6).later hb7, (hbw5.trans (hb6.mono (by omega))).trans (hb7.mono (by omega))⟩
        unfold cmpI
        rw [Bool.eq_iff_iff]
        simp
        split
        · simp; omega
        · split
          · simp; omega
          · simp; omega

end Go.Proofs.YgcoaaGreat.NatW
