/-
  'Rows.NatAsTakenSaid' PROVED: every function of package nat reads its arguments as Take would.
-/
import Derived.Test.YgcoaaRows
import Derived.WalkKit
import Derived.ProofKit
import Derived.OpenShut
import Derived.ShutString
import Derived.ChangeOld
import Derived.Below
import Derived.SizedLaws
import Derived.Test.YgcoaaNatLaw
namespace Go.Proofs.Ygcoaa.natAsTaken
open Go.ChangeShapes Go.WideShapes Go.ChangeAt Go.RowKit
open Go.ChangeMaps (open_string shut_string)
set_option linter.unusedVariables false

theorem own : ownKnob Oaag.prog.godebug = none := by kernel_rfl
theorem bytes30 : Oaag.prog.bytesOf 30 = 4 := by kernel_rfl
theorem laidOut : laidOutB Oaag.prog = true := by kernel_rfl

/-- WHAT THE WALK IS TOLD OF A SLICE OF INTEGERS THAT CAME IN: it is nil; or it leads to a row of 'cap' cells, the numbers 'zs' (the first 'len' are its elements, the rest its spare room), each fitting its kind, within the reach. -/
def IsRow (w : World) (a : Option Addr) (len cap : Nat) (zs : List Int) : Prop :=
  (a = none ∧ len = 0 ∧ cap = 0 ∧ zs = []) ∨
  ∃ x, a = some x ∧ len ≤ cap ∧ zs.length = cap ∧ cap * 4 ≤ 140737488351232 ∧ (∀ i, i < zs.length → w.cell? (x.add i) = some (.int .u32 (zs.getD i 0))) ∧ ∀ n ∈ zs, (Lit.int .u32 n).wf = true

theorem u32_bd {n : Int} (h : (Lit.int .u32 n).wf = true) : 0 ≤ n ∧ n < 4294967296 := by
  simp [Lit.wf, IntKind.min, IntKind.max, IntKind.signed, IntKind.bits] at h
  omega

open Go.Proofs.Ygcoaa.NatW Go.Proofs.Ygcoaa.Limbs in
/-- Such a slice reads as limbs. -/
theorem IsRow.sl {w : World} {a : Option Addr} {len cap : Nat} {zs : List Int} (h : IsRow w a len cap zs) : ∃ l : List Nat, l.length = len ∧ Sl w a cap l ∧ len ≤ 35184372088000 := by
  rcases h with ⟨rfl, rfl, rfl, rfl⟩ | ⟨x, rfl, hl, hz, hr, hc, hw⟩
  · exact ⟨[], rfl, Sl.empty w, by omega⟩
  · refine ⟨(zs.take len).map Int.toNat, by simp; omega, ⟨by simp; omega, fun e => (by cases e), ?_, ?_⟩, by omega⟩
    · intro v hv
      obtain ⟨z, hz', rfl⟩ := List.mem_map.1 hv
      have := u32_bd (hw z (List.mem_of_mem_take hz'))
      omega
    · intro i hi
      simp at hi
      obtain ⟨b, off, rfl, hc'⟩ := ints_at hc (by omega)
      refine ⟨b, off, rfl, (hc' i (by omega)).trans ?_⟩
      have hb := u32_bd (hw (zs[i]'(by omega)) (List.getElem_mem _))
      have e : ((List.map Int.toNat (zs.take len)).getD i 0 : Nat) = (zs[i]'(by omega)).toNat := by
        rw [List.getD_eq_getElem?_getD]
        simp [show i < len from by omega, show i < zs.length from by omega]
      have e2 : zs.getD i 0 = zs[i]'(by omega) := by
        rw [List.getD_eq_getElem?_getD]
        simp [show i < zs.length from by omega]
      rw [e, e2]
      rw [Int.toNat_of_nonneg hb.1]

/-! ### THE WALK, OUT OF ITS CONTRACT -/
open Go.Proofs.Ygcoaa.NatW in
theorem walk (a0 : Int) (a1 : Option Addr) (len1 cap1 : Nat) (z1 : List Int) (a2 : Option Addr) (len2 cap2 : Nat) (z2 : List Int) (a3 : Int) (a4 : Int) (w : World) (w0 : (Lit.int .u8 a0).wf = true) (w1 : IsRow w a1 len1 cap1 z1) (w2 : IsRow w a2 len2 cap2 z2) (w3 : (Lit.int .u16 a3).wf = true) (w4 : (Lit.int .i64 a4).wf = true) :
    Calls Oaag.prog 3 #[.int .u8 a0, .slice a1 len1 cap1, .slice a2 len2 cap2, .int .u16 a3, .int .i64 a4] w fun e w' => e = .returned (.bool true) ∧ Below w.heap.size w w' := by
  obtain ⟨l1, rfl, s1, h1⟩ := w1.sl
  obtain ⟨l2, rfl, s2, h2⟩ := w2.sl
  have b0 : 0 ≤ a0 ∧ a0 ≤ 255 := by simpa [Lit.wf, IntKind.min, IntKind.max, IntKind.signed, IntKind.bits] using w0
  have b3 : 0 ≤ a3 ∧ a3 ≤ 65535 := by simpa [Lit.wf, IntKind.min, IntKind.max, IntKind.signed, IntKind.bits] using w3
  have b4 : -9223372036854775808 ≤ a4 ∧ a4 ≤ 9223372036854775807 := by simpa [Lit.wf, IntKind.min, IntKind.max, IntKind.signed, IntKind.bits] using w4
  have e3 : a3 = ((a3.toNat : Nat) : Int) := by omega
  rw [e3]
  exact natAsTaken_any w a0 b0.1 b0.2 a1 cap1 l1 s1 a2 cap2 l2 s2 h1 h2 a3.toNat (by omega) a4 b4

/-! ### THE ROW's STEP: WRITTEN OUT: LEAVE IT -/
set_option maxRecDepth 100000 in
theorem lifted (os : Os) (started : os.Started) (H : Type) (enc : TypeId × Value → H) :
    ReturnsInHanded {} Oaag.checked os 3 .any (Rows.natAsTakenSpec.pre6 enc Oaag.prog Oaag.f3 Rows.natAsTakenRow.domain false) (Rows.natAsTakenSpec.post enc Oaag.prog Oaag.f3 false true false false) := by
  refine returnsInHanded_of_change_sized (C := Oaag.checked) own started (by kernel_rfl) Oaag.func3
    (ChangeSpec.witness6 (enc := enc) (C := Oaag.checked) false ⟨#[], #[.int .u8 0, .slice none 0 0, .slice none 0 0, .int .u16 0, .int .i64 0], []⟩ 8 (by kernel_rfl) (by kernel_rfl) (by kernel_rfl) (by kernel_rfl)) ?_
  intro W base args ds gs before hval0 hW hcnd hsz0 _
  have hval : ∀ (j : Nat) t v, Oaag.f3.params[j]? = some t → args[j]? = some v → Value.okWide Oaag.prog W .any base t v := hval0
  have hW' := hW
  obtain ⟨p, q, hA0, hV, rfl, hfz, hnd⟩ := hW
  have hA : DataW.TrodAll enc Oaag.prog W 0 (fun _ => true) true Oaag.f3.params.toList args.toList ds p := hA0
  have hsz : (DataW.weightsEach Oaag.prog (Oaag.f3.params.toList ++ Rows.natAsTakenSpec.plain.varTypes Oaag.prog) (ds ++ gs)).all (· ≤ reachBytes) = true := hsz0
  rw [Oaag.params3] at hA hval hsz
  obtain ⟨v0, vs0, d0, ds0, p0, q0, hargs, rfl, rfl, h0, r0⟩ := trodAll_cons hA
  obtain ⟨v1, vs1, d1, ds1, p1, q1, rfl, rfl, rfl, h1, r1⟩ := trodAll_cons r0
  obtain ⟨v2, vs2, d2, ds2, p2, q2, rfl, rfl, rfl, h2, r2⟩ := trodAll_cons r1
  obtain ⟨v3, vs3, d3, ds3, p3, q3, rfl, rfl, rfl, h3, r3⟩ := trodAll_cons r2
  obtain ⟨v4, vs4, d4, ds4, p4, q4, rfl, rfl, rfl, h4, r4⟩ := trodAll_cons r3
  obtain ⟨rfl, rfl, rfl⟩ := trodAll_nil r4
  obtain rfl : args = #[v0, v1, v2, v3, v4] := by cases args; simp_all
  obtain ⟨rfl, rfl⟩ := trodVars_none hV
  obtain ⟨a0, rfl, rfl, rfl, w0⟩ := open_int Oaag.underlying5 (hval 0 5 v0 rfl rfl) h0
  obtain ⟨a1, len1, cap1, rfl⟩ := okWide_slice Oaag.underlying22 (hval 1 22 v1 rfl rfl)
  have k1 := h1
  have lt1 : ∀ x ∈ p1, x.block < W.heap.size := by obtain ⟨m, hm⟩ := k1; exact DataW.trod_lt m _ _ _ hm
  obtain ⟨z1, w1⟩ : ∃ zs, IsRow W a1 len1 cap1 zs := by
    obtain ⟨fuel, hf⟩ := h1
    rcases open_ints Oaag.underlying22 Oaag.underlying30 (by kernel_rfl) hf with ⟨hcs, _⟩ | ⟨x, l, c, zs, hcs, _, hl, hm, hz, hx, hcell, hwz⟩
    · simp [Value.cells] at hcs
      obtain ⟨rfl, rfl, rfl⟩ := hcs
      exact ⟨[], .inl ⟨rfl, rfl, rfl, rfl⟩⟩
    · simp [Value.cells] at hcs
      obtain ⟨rfl, rfl, rfl⟩ := hcs
      have hd := (Prod.mk.inj hx).1
      have hz' : zs.length = cap1 := by simpa using hz
      have hr := sized_slice hsz (j := 1) (t := 22) (e := 30) rfl (by rw [hd]; rfl) Oaag.underlying22
      rw [bytes30] at hr
      simp only [lits, List.length_map, List.length_take, List.length_drop, reachBytes] at hr
      exact ⟨zs, .inr ⟨_, rfl, hl, hz', by omega, hcell, hwz⟩⟩
  obtain ⟨a2, len2, cap2, rfl⟩ := okWide_slice Oaag.underlying22 (hval 2 22 v2 rfl rfl)
  have k2 := h2
  have lt2 : ∀ x ∈ p2, x.block < W.heap.size := by obtain ⟨m, hm⟩ := k2; exact DataW.trod_lt m _ _ _ hm
  obtain ⟨z2, w2⟩ : ∃ zs, IsRow W a2 len2 cap2 zs := by
    obtain ⟨fuel, hf⟩ := h2
    rcases open_ints Oaag.underlying22 Oaag.underlying30 (by kernel_rfl) hf with ⟨hcs, _⟩ | ⟨x, l, c, zs, hcs, _, hl, hm, hz, hx, hcell, hwz⟩
    · simp [Value.cells] at hcs
      obtain ⟨rfl, rfl, rfl⟩ := hcs
      exact ⟨[], .inl ⟨rfl, rfl, rfl, rfl⟩⟩
    · simp [Value.cells] at hcs
      obtain ⟨rfl, rfl, rfl⟩ := hcs
      have hd := (Prod.mk.inj hx).1
      have hz' : zs.length = cap2 := by simpa using hz
      have hr := sized_slice hsz (j := 2) (t := 22) (e := 30) rfl (by rw [hd]; rfl) Oaag.underlying22
      rw [bytes30] at hr
      simp only [lits, List.length_map, List.length_take, List.length_drop, reachBytes] at hr
      exact ⟨zs, .inr ⟨_, rfl, hl, hz', by omega, hcell, hwz⟩⟩
  obtain ⟨a3, rfl, rfl, rfl, w3⟩ := open_int Oaag.underlying23 (hval 3 23 v3 rfl rfl) h3
  obtain ⟨a4, rfl, rfl, rfl, w4⟩ := open_int Oaag.underlying3 (hval 4 3 v4 rfl rfl) h4
  clear hA0 hval0
  refine (walk a0 a1 len1 cap1 z1 a2 len2 cap2 z2 a3 a4 W w0 w1 w2 w3 w4).mono fun e W' ⟨he, bel⟩ => ?_
  subst he
  exact ⟨_, rfl, _, _, _, [], _, [], hW', trodAll_mk1 (shut_bool Oaag.underlying4 _), (trodAll_cons_mk (shut_int Oaag.underlying5 w0) (trodAll_cons_mk (Below.trod laidOut (by kernel_rfl) (of_decide_eq_true (by kernel_rfl)) k1 bel lt1) (trodAll_cons_mk (Below.trod laidOut (by kernel_rfl) (of_decide_eq_true (by kernel_rfl)) k2 bel lt2) (trodAll_cons_mk (shut_int Oaag.underlying23 w3) (trodAll_cons_mk (shut_int Oaag.underlying3 w4) trodAll_mk0))))), rfl, bel.frame _, fun h => by cases h⟩

theorem over : Rows.natAsTakenRow.holds Oaag.pinned (OpenSpec.ofChange Rows.natAsTakenSpec) :=
  OpenClaim.holds_of_wide 3 Oaag.f3 rfl rfl rfl rfl rfl rfl rfl ⟨rfl, rfl, rfl, rfl, rfl⟩ rfl rfl rfl rfl rfl (by kernel_rfl) Oaag.func3 (by kernel_rfl)
    (of_decide_eq_true (by kernel_rfl)) (by unfold Func.isWrapper; first | (rw [if_pos (by decide +kernel)]; kernel_rfl) | (rw [if_neg (by decide +kernel)]; exact ⟨rfl, rfl⟩))
    (fun os started H enc _ => lifted os started H enc)

/-- ████ THE STATEMENT ████ -/
theorem proved : Rows.NatAsTakenSaid := over
#print axioms proved
end Go.Proofs.Ygcoaa.natAsTaken
