/-
  'Rows.RatAsMadeSaid' PROVED: package exact reads a fraction that was made by hand as MakeRat would have made it.
-/
import Derived.Test.YgcoaaRows
import Derived.WalkKit
import Derived.ProofKit
import Derived.OpenShut
import Derived.ShutString
import Derived.ChangeOld
import Derived.Below
import Derived.SizedLaws
import Derived.Lib.SmallJoins
import Derived.Test.YgcoaaRatL
namespace Go.Proofs.Ygcoaa.ratAsMade
open Go.ChangeShapes Go.WideShapes Go.ChangeAt Go.RowKit Go.Joins
open Go.ChangeMaps (open_string shut_string)
set_option linter.unusedVariables false

theorem own : ownKnob Oaag.prog.godebug = none := by kernel_rfl
theorem bytes30 : Oaag.prog.bytesOf 30 = 4 := by kernel_rfl
theorem cells33 : Oaag.prog.cellsOf 33 = 2 := by kernel_rfl
theorem laidOut : laidOutB Oaag.prog = true := by kernel_rfl

/-- WHAT THE WALK IS TOLD OF A SLICE OF INTEGERS THAT CAME IN: it is nil; or it leads to a row of 'cap' cells, the numbers 'zs' (the first 'len' are its elements, the rest its spare room), each fitting its kind, within the reach. -/
def IsRow (w : World) (a : Option Addr) (len cap : Nat) (zs : List Int) : Prop :=
  (a = none ∧ len = 0 ∧ cap = 0 ∧ zs = []) ∨
  ∃ x, a = some x ∧ len ≤ cap ∧ zs.length = cap ∧ cap * 4 ≤ 140737488351232 ∧ (∀ i, i < zs.length → w.cell? (x.add i) = some (.int .u32 (zs.getD i 0))) ∧ ∀ n ∈ zs, (Lit.int .u32 n).wf = true

theorem u32_bd {n : Int} (h : (Lit.int .u32 n).wf = true) : 0 ≤ n ∧ n < 4294967296 := by
  simp [Lit.wf, IntKind.min, IntKind.max, IntKind.signed, IntKind.bits] at h
  omega

open Go.Proofs.Ygcoaa.NatW Go.Proofs.Ygcoaa.Limbs in
/-- Such a slice reads as limbs. -/
theorem IsRow.sl {w : World} {a : Option Addr} {len cap : Nat} {zs : List Int} (h : IsRow w a len cap zs) : ∃ l : List Nat, l.length = len ∧ Sl w a cap l ∧ len ≤ 35184372088000 := by
  rcases h with ⟨rfl, rfl, rfl, rfl⟩ | ⟨x, rfl, hl, hz, hr, hc, hw⟩
  · exact ⟨[], rfl, Sl.empty w, by omega⟩
  · refine ⟨(zs.take len).map Int.toNat, by simp; omega, ⟨by simp; omega, fun e => (by cases e), ?_, ?_⟩, by omega⟩
    · intro v hv
      obtain ⟨z, hz', rfl⟩ := List.mem_map.1 hv
      have := u32_bd (hw z (List.mem_of_mem_take hz'))
      omega
    · intro i hi
      simp at hi
      obtain ⟨b, off, rfl, hc'⟩ := ints_at hc (by omega)
      refine ⟨b, off, rfl, (hc' i (by omega)).trans ?_⟩
      have hb := u32_bd (hw (zs[i]'(by omega)) (List.getElem_mem _))
      have e : ((List.map Int.toNat (zs.take len)).getD i 0 : Nat) = (zs[i]'(by omega)).toNat := by
        rw [List.getD_eq_getElem?_getD]
        simp [show i < len from by omega, show i < zs.length from by omega]
      have e2 : zs.getD i 0 = zs[i]'(by omega) := by
        rw [List.getD_eq_getElem?_getD]
        simp [show i < zs.length from by omega]
      rw [e, e2]
      rw [Int.toNat_of_nonneg hb.1]

/-! ### THE WALK, OUT OF ITS CONTRACT -/
open Go.Proofs.Ygcoaa.NatW in
theorem walk (f0 f1 : Int) (mode : Int) (neg : Bool) (a1 : Option Addr) (len1 cap1 : Nat) (z1 : List Int) (a2 : Option Addr) (len2 cap2 : Nat) (z2 : List Int) (w : World) (w0 : (Lit.int .u8 f0).wf = true) (w0' : (Lit.int .u8 f1).wf = true) (w1 : IsRow w a1 len1 cap1 z1) (w2 : IsRow w a2 len2 cap2 z2) :
    Calls Oaag.prog 4 #[.agg #[.int .u8 f0, .int .u8 f1], .int .u8 mode, .bool neg, .slice a1 len1 cap1, .slice a2 len2 cap2] w fun e w' => e = .returned (.bool true) ∧ Below w.heap.size w w' := by
  obtain ⟨l1, rfl, s1, h1⟩ := w1.sl
  obtain ⟨l2, rfl, s2, h2⟩ := w2.sl
  have b0 : 0 ≤ f0 ∧ f0 ≤ 255 := by simpa [Lit.wf, IntKind.min, IntKind.max, IntKind.signed, IntKind.bits] using w0
  have b1 : 0 ≤ f1 ∧ f1 ≤ 255 := by simpa [Lit.wf, IntKind.min, IntKind.max, IntKind.signed, IntKind.bits] using w0'
  have e0 : f0 = ((f0.toNat : Nat) : Int) := by omega
  have e1 : f1 = ((f1.toNat : Nat) : Int) := by omega
  rw [e0, e1]
  exact ratAsMade_any w f0.toNat f1.toNat mode neg a1 cap1 l1 s1 a2 cap2 l2 s2 h1 h2

/-! ### THE ROW's STEP: WRITTEN OUT: LEAVE IT -/
set_option maxRecDepth 100000 in
theorem lifted (os : Os) (started : os.Started) (H : Type) (enc : TypeId × Value → H) :
    ReturnsInHanded {} Oaag.checked os 4 .any (Rows.ratAsMadeSpec.pre6 enc Oaag.prog Oaag.f4 Rows.ratAsMadeRow.domain false) (Rows.ratAsMadeSpec.post enc Oaag.prog Oaag.f4 false true false false) := by
  refine returnsInHanded_of_change_sized (C := Oaag.checked) own started (by kernel_rfl) Oaag.func4
    (ChangeSpec.witness6 (enc := enc) (C := Oaag.checked) false ⟨#[], #[.agg #[.int .u8 0, .int .u8 0], .int .u8 0, .bool false, .slice none 0 0, .slice none 0 0], []⟩ 8 (by kernel_rfl) (by kernel_rfl) (by kernel_rfl) (by kernel_rfl)) ?_
  intro W base args ds gs before hval0 hW hcnd hsz0 _
  have hval : ∀ (j : Nat) t v, Oaag.f4.params[j]? = some t → args[j]? = some v → Value.okWide Oaag.prog W .any base t v := hval0
  have hW' := hW
  obtain ⟨p, q, hA0, hV, rfl, hfz, hnd⟩ := hW
  have hA : DataW.TrodAll enc Oaag.prog W 0 (fun _ => true) true Oaag.f4.params.toList args.toList ds p := hA0
  have hsz : (DataW.weightsEach Oaag.prog (Oaag.f4.params.toList ++ Rows.ratAsMadeSpec.plain.varTypes Oaag.prog) (ds ++ gs)).all (· ≤ reachBytes) = true := hsz0
  rw [Oaag.params4] at hA hval hsz
  obtain ⟨v0, vs0, d0, ds0, p0, q0, hargs, rfl, rfl, h0, r0⟩ := trodAll_cons hA
  obtain ⟨v1, vs1, d1, ds1, p1, q1, rfl, rfl, rfl, h1, r1⟩ := trodAll_cons r0
  obtain ⟨v2, vs2, d2, ds2, p2, q2, rfl, rfl, rfl, h2, r2⟩ := trodAll_cons r1
  obtain ⟨v3, vs3, d3, ds3, p3, q3, rfl, rfl, rfl, h3, r3⟩ := trodAll_cons r2
  obtain ⟨v4, vs4, d4, ds4, p4, q4, rfl, rfl, rfl, h4, r4⟩ := trodAll_cons r3
  obtain ⟨rfl, rfl, rfl⟩ := trodAll_nil r4
  obtain rfl : args = #[v0, v1, v2, v3, v4] := by cases args; simp_all
  obtain ⟨rfl, rfl⟩ := trodVars_none hV
  obtain ⟨c0, c1, y0, y1, m, rfl, rfl, rfl, hy0, hy1⟩ := open_agg2 Oaag.underlying33 (by kernel_rfl) cells33 (hval 0 33 v0 rfl rfl) h0
  obtain ⟨f0, ef0, rfl, w0⟩ := DataW.trod_int Oaag.underlying5 hy0
  obtain ⟨f1, ef1, rfl, w0'⟩ := DataW.trod_int Oaag.underlying5 hy1
  simp at ef0 ef1
  subst ef0 ef1
  obtain ⟨mode, rfl, rfl, rfl, wm⟩ := open_int Oaag.underlying34 (hval 1 34 v1 rfl rfl) h1
  obtain ⟨neg, rfl, rfl, rfl⟩ := open_bool Oaag.underlying4 (hval 2 4 v2 rfl rfl) h2
  obtain ⟨a1, len1, cap1, rfl⟩ := okWide_slice Oaag.underlying22 (hval 3 22 v3 rfl rfl)
  have k1 := h3
  have lt1 : ∀ x ∈ p3, x.block < W.heap.size := by obtain ⟨m, hm⟩ := k1; exact DataW.trod_lt m _ _ _ hm
  obtain ⟨z1, w1⟩ : ∃ zs, IsRow W a1 len1 cap1 zs := by
    obtain ⟨fuel, hf⟩ := h3
    rcases open_ints Oaag.underlying22 Oaag.underlying30 (by kernel_rfl) hf with ⟨hcs, _⟩ | ⟨x, l, c, zs, hcs, _, hl, hm, hz, hx, hcell, hwz⟩
    · simp [Value.cells] at hcs
      obtain ⟨rfl, rfl, rfl⟩ := hcs
      exact ⟨[], .inl ⟨rfl, rfl, rfl, rfl⟩⟩
    · simp [Value.cells] at hcs
      obtain ⟨rfl, rfl, rfl⟩ := hcs
      have hd := (Prod.mk.inj hx).1
      have hz' : zs.length = cap1 := by simpa using hz
      have hr := sized_slice hsz (j := 3) (t := 22) (e := 30) rfl (by rw [hd]; rfl) Oaag.underlying22
      rw [bytes30] at hr
      simp only [lits, List.length_map, List.length_take, List.length_drop, reachBytes] at hr
      exact ⟨zs, .inr ⟨_, rfl, hl, hz', by omega, hcell, hwz⟩⟩
  obtain ⟨a2, len2, cap2, rfl⟩ := okWide_slice Oaag.underlying22 (hval 4 22 v4 rfl rfl)
  have k2 := h4
  have lt2 : ∀ x ∈ p4, x.block < W.heap.size := by obtain ⟨m, hm⟩ := k2; exact DataW.trod_lt m _ _ _ hm
  obtain ⟨z2, w2⟩ : ∃ zs, IsRow W a2 len2 cap2 zs := by
    obtain ⟨fuel, hf⟩ := h4
    rcases open_ints Oaag.underlying22 Oaag.underlying30 (by kernel_rfl) hf with ⟨hcs, _⟩ | ⟨x, l, c, zs, hcs, _, hl, hm, hz, hx, hcell, hwz⟩
    · simp [Value.cells] at hcs
      obtain ⟨rfl, rfl, rfl⟩ := hcs
      exact ⟨[], .inl ⟨rfl, rfl, rfl, rfl⟩⟩
    · simp [Value.cells] at hcs
      obtain ⟨rfl, rfl, rfl⟩ := hcs
      have hd := (Prod.mk.inj hx).1
      have hz' : zs.length = cap2 := by simpa using hz
      have hr := sized_slice hsz (j := 4) (t := 22) (e := 30) rfl (by rw [hd]; rfl) Oaag.underlying22
      rw [bytes30] at hr
      simp only [lits, List.length_map, List.length_take, List.length_drop, reachBytes] at hr
      exact ⟨zs, .inr ⟨_, rfl, hl, hz', by omega, hcell, hwz⟩⟩
  clear hA0 hval0
  simp only [List.append_nil] at hW'
  have structReads : ∀ (W' : World) (sp : Nat → Bool), DataW.Trod enc Oaag.prog W' 0 sp true 33 (.agg #[.int .u8 f0, .int .u8 f1]) (.agg [.lit (.int .u8 f0), .lit (.int .u8 f1)]) [] := fun W' sp =>
    shut_agg2 (y0 := (.lit (.int .u8 f0), [])) (y1 := (.lit (.int .u8 f1), [])) Oaag.underlying33 (by kernel_rfl) cells33 ⟨1, by simp [DataW.trod, Oaag.underlying5, w0]⟩ ⟨1, by simp [DataW.trod, Oaag.underlying5, w0']⟩
  refine (walk f0 f1 mode neg a1 len1 cap1 z1 a2 len2 cap2 z2 W w0 w0' w1 w2).mono fun e W' ⟨he, bel⟩ => ?_
  subst he
  exact ⟨_, rfl, _, _, _, [], _, [], hW', trodAll_mk1 (shut_bool Oaag.underlying4 _), (trodAll_cons_mk (structReads _ _) (trodAll_cons_mk (shut_int Oaag.underlying34 wm) (trodAll_cons_mk (shut_bool Oaag.underlying4 _) (trodAll_cons_mk (Below.trod laidOut (by kernel_rfl) (of_decide_eq_true (by kernel_rfl)) k1 bel lt1) (trodAll_cons_mk (Below.trod laidOut (by kernel_rfl) (of_decide_eq_true (by kernel_rfl)) k2 bel lt2) trodAll_mk0))))), rfl, bel.frame _, fun h => by cases h⟩

theorem over : Rows.ratAsMadeRow.holds Oaag.pinned (OpenSpec.ofChange Rows.ratAsMadeSpec) :=
  OpenClaim.holds_of_wide 4 Oaag.f4 rfl rfl rfl rfl rfl rfl rfl ⟨rfl, rfl, rfl, rfl, rfl⟩ rfl rfl rfl rfl rfl (by kernel_rfl) Oaag.func4 (by kernel_rfl)
    (of_decide_eq_true (by kernel_rfl)) (by unfold Func.isWrapper; first | (rw [if_pos (by decide +kernel)]; kernel_rfl) | (rw [if_neg (by decide +kernel)]; exact ⟨rfl, rfl⟩))
    (fun os started H enc _ => lifted os started H enc)

/-- ████ THE STATEMENT ████ -/
theorem proved : Rows.RatAsMadeSaid := over
#print axioms proved
end Go.Proofs.Ygcoaa.ratAsMade
