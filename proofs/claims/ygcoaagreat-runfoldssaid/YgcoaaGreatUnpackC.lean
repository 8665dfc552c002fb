/-
  Package ieee: Unpack: the walk.
-/
import Derived.Test.YgcoaaGreatLaxC
set_option linter.unusedVariables false
set_option linter.unusedSimpArgs false
namespace Go.Proofs.YgcoaaGreat.NatW
attribute [local go_sem] Go.Instr.field Go.asAgg
open Go.RowKit
open Go.Proofs.YgcoaaGreat.Limbs Go.Proofs.YgcoaaGreat.Bits

abbrev fmt (E M : Nat) : Value := .agg #[.int .u8 (E : Int), .int .u8 (M : Int)]

theorem fmtOk_ret (E M : Nat) (hf : fok E M = true) : Ret 67 #[fmt E M] (fun u => u = .bool true) := Ret.of fun w => fmtOk_yes E M hf w
theorem signBit_ret (E M : Nat) (hf : fok E M = true) : Ret 104 #[fmt E M] (fun u => u = .int .u64 ((2 ^ (E + M) : Nat) : Int)) := Ret.of fun w => signBit_is E M hf w
theorem bias_ret (E M : Nat) (hf : fok E M = true) : Ret 117 #[fmt E M] (fun u => u = .int .i16 (((2 ^ (E - 1) : Nat) : Int) - 1)) := Ret.of fun w => bias_is E M hf w

/-- Two boxes at the head of a function. -/
theorem boxes2x (w : World) (vs us : Array Value) (t s : TypeId) : ∃ wb, (w.alloc (.cells vs t)).alloc (.cells us s) = wb ∧ wb.heap[w.heap.size]? = some (.cells vs t (0, 0)) ∧ wb.heap[w.heap.size + 1]? = some (.cells us s (0, 0)) ∧ (∀ x : Later wb, Below w.heap.size w x.at_) ∧ ∀ x : Later wb, w.heap.size + 2 ≤ x.at_.heap.size := by
  refine ⟨_, rfl, ?_, ?_, ?_, ?_⟩
  · rw [Below.heap_alloc _ _ _ (by simp), heap_alloc_new]
  · have := heap_alloc_new (w.alloc (.cells vs t)) (.cells us s)
    simpa using this
  · intro x
    have h : Below w.heap.size w ((w.alloc (.cells vs t)).alloc (.cells us s)) := ((Below.refl _ _).alloc (Nat.le_refl _) _).alloc (by simp) _
    exact h.trans (x.ok.mono h.size)
  · intro x
    have := x.ok.size
    simpa using this

/-- One box at the head of a function. -/
theorem boxes1x (w : World) (vs : Array Value) (t : TypeId) : ∃ wb, w.alloc (.cells vs t) = wb ∧ wb.heap[w.heap.size]? = some (.cells vs t (0, 0)) ∧ (∀ x : Later wb, Below w.heap.size w x.at_) ∧ ∀ x : Later wb, w.heap.size + 1 ≤ x.at_.heap.size := by
  refine ⟨_, rfl, ?_, ?_, ?_⟩
  · rw [heap_alloc_new]
  · intro x
    have h : Below w.heap.size w (w.alloc (.cells vs t)) := (Below.refl _ _).alloc (Nat.le_refl _) _
    exact h.trans (x.ok.mono h.size)
  · intro x
    have := x.ok.size
    simpa using this

/-- What Unpack's exponent and significand are held to. -/
def Pb (M : Nat) (c e m : Int) : Prop := (c = 1 ∨ c = 2) ∧ -1126 ≤ e ∧ e ≤ 1021 ∧ ((2 ^ M : Nat) : Int) ≤ m ∧ m < ((2 ^ (M + 1) : Nat) : Int) ∨ (c = 0 ∨ c = 3 ∨ c = 4) ∧ e = 0 ∧ m = 0

theorem sub_ret (E M : Nat) (hf : fok E M = true) (neg : Bool) (x : Nat) (h0 : x ≠ 0) (h1 : x < 2 ^ M) : Ret 116 #[fmt E M, .bool neg, .int .u64 x] (fun v => ∃ e m, v = .agg #[.bool neg, .int .i8 1, .int .i16 e, .int .u64 m] ∧ Pb M 1 e m) := by
  obtain ⟨g1, g2, g3, g4⟩ := fok_bd hf
  have hk : Nat.log2 x < M := (Nat.log2_lt h0).2 h1
  have hl := Nat.log2_self_le h0
  have hu : x < 2 ^ (Nat.log2 x + 1) := Nat.lt_log2_self
  refine (Ret.of fun w => subnormal_is E M hf neg x (Nat.log2 x) hk hl hu w).mono ?_
  rintro v rfl
  refine ⟨_, _, rfl, .inl ⟨.inl rfl, ?_, ?_, ?_, ?_⟩⟩
  · have h2 := pow_le' (E - 1) 10 (by omega)
    obtain ⟨N, hN⟩ : ∃ N : Nat, N = 2 ^ (E - 1) := ⟨_, rfl⟩
    rw [← hN] at h2 ⊢
    have : N ≤ 1024 := by simpa using h2
    omega
  · have h2 := Nat.one_le_two_pow (n := E - 1)
    omega
  · have : 2 ^ M ≤ x * 2 ^ (M - Nat.log2 x) := by
      calc 2 ^ M = 2 ^ (Nat.log2 x) * 2 ^ (M - Nat.log2 x) := by rw [← Nat.pow_add]; congr 1; omega
        _ ≤ x * 2 ^ (M - Nat.log2 x) := Nat.mul_le_mul_right _ hl
    exact_mod_cast this
  · have : x * 2 ^ (M - Nat.log2 x) < 2 ^ (M + 1) := by
      calc x * 2 ^ (M - Nat.log2 x) < 2 ^ (Nat.log2 x + 1) * 2 ^ (M - Nat.log2 x) := Nat.mul_lt_mul_of_pos_right hu (Nat.two_pow_pos _)
        _ = 2 ^ (M + 1) := by rw [← Nat.pow_add]; congr 1; omega
    exact_mod_cast this

set_option maxRecDepth 20000 in
set_option maxHeartbeats 1000000 in
theorem unpack_ret (E M : Nat) (hf : fok E M = true) (x : Nat) (hx : x < 18446744073709551616) : Ret 68 #[fmt E M, .int .u64 x] (fun v => ∃ neg e m, v = .agg #[.bool neg, .int .i8 (cls E M x), .int .i16 e, .int .u64 m] ∧ Pb M (cls E M x) e m) := by
  obtain ⟨g1, g2, g3, g4⟩ := fok_bd hf
  have H0 := hide (fmtOk_ret E M hf)
  have H1 := hide (signBit_ret E M hf)
  obtain ⟨TE, hTE⟩ : ∃ TE : Nat, TE = 2 ^ E - 1 := ⟨_, rfl⟩
  obtain ⟨TM, hTM⟩ : ∃ TM : Nat, TM = 2 ^ M - 1 := ⟨_, rfl⟩
  obtain ⟨FE, hFE⟩ : ∃ FE : Nat, FE = fE E M x := ⟨_, rfl⟩
  obtain ⟨FM, hFM⟩ : ∃ FM : Nat, FM = fM M x := ⟨_, rfl⟩
  have e1 := mask_int E (by omega)
  have e2 := mask_int M (by omega)
  rw [← hTE] at e1
  rw [← hTM] at e2
  have e3 := fE_int E M x (by omega) hx
  rw [← hTE, ← hFE] at e3
  have e4 := fM_int M x (by omega) hx
  rw [← hTM, ← hFM] at e4
  have G1 := hide hTE
  have G2 := hide hTM
  have G3 := hide hFE
  have G4 := hide hFM
  have H2 := fun (neg : Bool) (h0 : FM ≠ 0) => sub_ret E M hf neg FM h0 (by rw [hFM]; exact Nat.mod_lt _ (Nat.two_pow_pos M))
  have H3 := hide (bias_ret E M hf)
  have H2 := hide H2
  have hFM2 : FM < 2 ^ M := by rw [hFM]; exact Nat.mod_lt _ (Nat.two_pow_pos M)
  have hFE2 : FE ≤ 2 ^ E - 1 := by rw [hFE]; have := Nat.mod_lt (x / 2 ^ M) (Nat.two_pow_pos E); unfold fE; omega
  have G5 := hide hFM2
  have G6 := hide hFE2
  clear hf hTE hTM hFE hFM hFM2 hFE2
  intro w K hK
  have HK := hide hK
  clear hK
  go_enter Oaag.func68, Oaag.ntmps68
  go_wp2_with fail
  obtain ⟨wb, hwb, r0, r1, hB, hZ⟩ := boxes2x w #[.int .u8 E, .int .u8 M] #[.bool false, .int .i8 0, .int .i16 0, .int .u64 0] 23 113
  rw [hwb]
  clear hwb
  have c00 : ∀ x : Later wb, _ = some (Value.int .u8 E) := Later.cell r0 0 _ rfl
  have c01 : ∀ x : Later wb, _ = some (Value.int .u8 M) := Later.cell r0 1 _ rfl
  have c10 : ∀ x : Later wb, _ = some (Value.bool false) := Later.cell r1 0 _ rfl
  have c11 : ∀ x : Later wb, _ = some (Value.int .i8 0) := Later.cell r1 1 _ rfl
  have c12 : ∀ x : Later wb, _ = some (Value.int .i16 0) := Later.cell r1 2 _ rfl
  have c13 : ∀ x : Later wb, _ = some (Value.int .u64 0) := Later.cell r1 3 _ rfl
  have f10 := Later.frz r1 0
  have f11 := Later.frz r1 1
  have f12 := Later.frz r1 2
  have f13 := Later.frz r1 3
  have R0 := hide r0
  have R1 := hide r1
  clear r0 r1
  obtain ⟨x0, hx0⟩ := Later.now wb
  rw [hx0]
  clear hx0
  refine (unhide H0).run _ ?_
  rintro _ x1 rfl
  go_wp2_with (refine (unhide H1).run _ ?_; rintro _ x2 rfl)
  · rename_i h1 h2
    refine bodyPost_box rfl ?_
    intro r hr
    simp [results, Oaag.results68, go_sem, c10, c11, c12, c13] at hr
    subst hr
    refine ⟨_, rfl, ?_⟩
    have hc : cls E M x = 4 := by
      unfold cls
      rw [← unhide G3, ← unhide G4, ← unhide G1, if_pos (by omega), if_neg (by simpa using h2)]
    refine unhide HK _ _ ?_ (below_store (below_store (below_store (below_store (hB _) (by omega) _) (by omega) _) (by omega) _) (by omega) _)
    rw [hc]
    exact ⟨_, _, _, rfl, .inr ⟨by simp, rfl, rfl⟩⟩
  · rename_i h1 h2
    refine bodyPost_box rfl ?_
    intro r hr
    simp [results, Oaag.results68, go_sem, c10, c11, c12, c13] at hr
    subst hr
    refine ⟨_, rfl, ?_⟩
    have hc : cls E M x = 3 := by
      unfold cls
      rw [← unhide G3, ← unhide G4, ← unhide G1, if_pos (by omega), if_pos (by simpa using h2)]
    refine unhide HK _ _ ?_ (below_store (below_store (below_store (below_store (hB _) (by omega) _) (by omega) _) (by omega) _) (by omega) _)
    rw [hc]
    exact ⟨_, _, _, rfl, .inr ⟨by simp, rfl, rfl⟩⟩
  · rename_i h1 h2 h3 h4
    refine bodyPost_box rfl ?_
    intro r hr
    simp [results, Oaag.results68, go_sem, c10, c11, c12, c13] at hr
    subst hr
    refine ⟨_, rfl, ?_⟩
    have hc : cls E M x = 0 := by
      unfold cls
      rw [← unhide G3, ← unhide G4, ← unhide G1, if_neg (by omega), if_pos h3, if_pos (by simpa using h4)]
    refine unhide HK _ _ ?_ (below_store (below_store (below_store (below_store (hB _) (by omega) _) (by omega) _) (by omega) _) (by omega) _)
    rw [hc]
    exact ⟨_, _, _, rfl, .inr ⟨by simp, rfl, rfl⟩⟩
  · have h3 : FE = 0 := by assumption
    have h4 : FM ≠ 0 := by
      have h : ((FM : Int) == 0) = false := by assumption
      simpa using h
    have hc : cls E M x = 1 := by
      unfold cls
      rw [← unhide G3, ← unhide G4, ← unhide G1, if_neg (by omega), if_pos h3, if_neg h4]
    refine (unhide H2 _ h4).run _ ?_
    rintro _ x3 ⟨e, m, rfl, hp⟩
    have HP := hide hp
    clear hp
    go_wp2_with fail
    refine bodyPost_box rfl ?_
    intro r hr
    simp [results, Oaag.results68, go_sem, c10, c11, c12, c13] at hr
    subst hr
    refine ⟨_, rfl, ?_⟩
    refine unhide HK _ _ ?_ (below_store (below_store (below_store (below_store (hB _) (by omega) _) (by omega) _) (by omega) _) (by omega) _)
    rw [hc]
    exact ⟨_, _, _, rfl, unhide HP⟩
  · have h3 : ¬ FE = 0 := by assumption
    have hc : cls E M x = 2 := by
      unfold cls
      rw [← unhide G3, ← unhide G4, ← unhide G1, if_neg (by omega), if_neg h3]
    simp only [*]
    refine Go.Lax.region_calls x2 16 2 [(4, fun v => v = .int .i16 (((2 ^ (E - 1) : Nat) : Int) - 1))] (by kernel_rfl) (by kernel_rfl) (by kernel_rfl) (by simp) ?_
    have hne : Nonempty (Later wb) := ⟨x0⟩
    iterate 4 (refine Go.Lax.walk_det rfl rfl rfl ?_; go_big_quiet_want; go_big_quiet_op; go_big_quiet_on; refine wpQuiet_nil ?_)
    refine Go.Lax.call_at rfl ?_ (fun y__ K__ hK__ => by (go_wp2_with fail; refine (unhide H3) _ _ ?_; intro v__ w__ hv__ hb__; have hh__ := Go.Proofs.YgcoaaGreat.NatW.hide (hK__ v__ w__ hv__ hb__); clear hK__ hv__; go_wp2_with fail; exact Eq.mp (by kernel_rfl) (Go.Proofs.YgcoaaGreat.NatW.unhide hh__)))
    rintro v rfl
    ((try dsimp only); go_big_quiet_want; go_big_quiet_op; go_big_quiet_on; refine wpQuiet_nil ?_)
    iterate 11 (refine Go.Lax.walk_det rfl rfl rfl ?_; go_big_quiet_want; go_big_quiet_op; go_big_quiet_on; refine wpQuiet_nil ?_)
    refine Go.Lax.end_at ?_
    intro x3
    go_wp2_with fail
    refine bodyPost_box rfl ?_
    intro r hr
    simp [results, Oaag.results68, go_sem, c10, c11, c12, c13] at hr
    subst hr
    refine ⟨_, rfl, ?_⟩
    refine unhide HK _ _ ?_ (below_store (below_store (below_store (below_store (hB _) (by omega) _) (by omega) _) (by omega) _) (by omega) _)
    rw [hc]
    have e5 : bits .or .u64 ((FM : Nat) : Int) (IntKind.u64.wrap ((2 : Int) ^ M)) = ((FM + 2 ^ M : Nat) : Int) := by
      have h5 := unhide G5
      have h6 := pow63 M (by omega)
      rw [wrap_pow M (by omega), u64_or_nat _ _ (by omega) (by omega), or_pow _ _ h5]
    have e6 : IntKind.i16.wrap (IntKind.i16.wrap (IntKind.i16.wrap (FE : Int) - ((2 : Int) ^ (E - 1) - 1)) - (M : Int)) = (FE : Int) - (((2 ^ (E - 1) : Nat) : Int) - 1) - M ∧ -1126 ≤ (FE : Int) - (((2 ^ (E - 1) : Nat) : Int) - 1) - M ∧ (FE : Int) - (((2 ^ (E - 1) : Nat) : Int) - 1) - M ≤ 1021 := by
      have h5 := unhide G6
      have h8 := unhide G1
      have h7 : 2 ^ E = 2 * 2 ^ (E - 1) := by
        have : E = (E - 1) + 1 := by omega
        conv => lhs; rw [this]
        rw [Nat.pow_succ, Nat.mul_comm]
      have h1 := pow_le' (E - 1) 10 (by omega)
      have h2 := Nat.one_le_two_pow (n := E - 1)
      rw [pow_cast]
      rw [h7] at h5 h8
      obtain ⟨N, hN⟩ : ∃ N : Nat, N = 2 ^ (E - 1) := ⟨_, rfl⟩
      rw [← hN] at h1 h2 h5 h8 ⊢
      have h1' : N ≤ 1024 := by simpa using h1
      have h9 : FE ≠ TE := by omega
      rw [wrap_i16 (FE : Int) (by omega) (by omega), wrap_i16 ((FE : Int) - ((N : Int) - 1)) (by omega) (by omega), wrap_i16 _ (by omega) (by omega)]
      omega
    rw [e5, e6.1]
    refine ⟨_, _, _, rfl, .inl ⟨.inr rfl, e6.2.1, e6.2.2, ?_, ?_⟩⟩
    · omega
    · have h5 := unhide G5
      rw [Nat.pow_succ]
      omega

end Go.Proofs.YgcoaaGreat.NatW
