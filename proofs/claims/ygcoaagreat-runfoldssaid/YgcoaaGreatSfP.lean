/-
  One run of one text: strings and slices, by their lengths.
-/
import Derived.Test.YgcoaaGreatSfH
set_option linter.unusedVariables false
set_option linter.unusedSimpArgs false
namespace Go.Sf
section
variable {P : Program} {Γ : Gam}

/-- A string's byte, the index less than the length. -/
theorem US.indexStr {t : TypeId} {k : IntKind} {s : ByteArray} {n : Int} (hu : P.underlying t = some .string) (h0 : 0 ≤ n) (h1 : n < s.size) : US P (fun Γ v => one Γ (.int .u8 0 255) v) Γ (Instr.index t (.string s) (.int k n)) := by
  refine US.under hu ?_
  have e : s[n.toNat]? = some (s[n.toNat]'(by omega)) := by
    rw [getElem?_pos]
  dsimp only
  rw [if_pos h0, e]
  refine ⟨_, rfl, by omega, ?_⟩
  have := (s[n.toNat]'(by omega)).toNat_lt
  omega

/-- A slice's element's place, the index less than the length. -/
theorem US.indexSlc {t e : TypeId} {d : TypeInfo} {k : IntKind} {sz m : Nat} {c : D} {a : Option Addr} {len cap : Nat} {n : Int} (hu : P.underlying t = some (.slice e)) (hd : P.info? e = some d) (hsz : d.size = sz)
    (hx : one Γ (.slc sz c m) (.slice a len cap)) (h0 : 0 ≤ n) (h1 : n < len) : US P (fun Γ v => one Γ (.ptr (D.rep c sz)) v) Γ (Instr.indexAt t (.slice a len cap) (.int k n)) := by
  obtain ⟨a', len', cap', e1, g1, g2, g3, g4⟩ := hx
  injection e1 with e2 e3 e4
  subst e2 e3 e4
  refine US.under hu ?_
  refine US.under hu ?_
  cases a with
  | none => have := g3 rfl; omega
  | some ad =>
    obtain ⟨hs, hc⟩ := g4 ad rfl
    dsimp only
    rw [if_pos ⟨h0, h1⟩]
    refine US.size hd ?_
    rw [hsz]
    obtain ⟨s1, s2, s3⟩ := add_spot hs (n.toNat * sz)
    refine ⟨_, rfl, s1, fun j q hq => ?_⟩
    obtain ⟨h2, rfl⟩ := D.at_rep hq
    rw [s2, s3, Nat.add_assoc]
    refine hc _ ?_
    have hm : n.toNat + 1 ≤ cap := by omega
    calc n.toNat * sz + j < n.toNat * sz + sz := by omega
      _ = (n.toNat + 1) * sz := by rw [Nat.add_mul, Nat.one_mul]
      _ ≤ cap * sz := Nat.mul_le_mul_right _ hm

theorem US.bytesLoop {m : String} : ∀ {xs : List Value} (s : ByteArray), (∀ x, x ∈ xs → ∃ n : Int, x = .int .u8 n) →
    US P (fun _ r => r.size = s.size + xs.length) Γ (forIn xs s fun c s => (match c with | .int .u8 n => pure (.yield (s.push (UInt8.ofNat n.toNat))) | _ => do stuck m; pure (.yield s) : Sem (ForInStep ByteArray)))
  | [], s, _ => rfl
  | x :: xs, s, h => by
    rw [List.forIn_cons]
    obtain ⟨n, rfl⟩ := h x (by simp)
    have := US.bytesLoop (m := m) (xs := xs) (s.push (UInt8.ofNat n.toNat)) fun y hy => h y (by simp [hy])
    refine US.mono this fun Γ' r _ hr => ?_
    rw [hr, ByteArray.size_push]
    simp
    omega

theorem US.bytesToString {x : Value} {n : Nat} {lo hi : Int} (hx : one Γ (.slc 1 (.int .u8 lo hi) n) x) : US P (fun Γ v => one Γ (.str n) v) Γ (Conv.bytesToString x) := by
  obtain ⟨a, len, cap, rfl, g1, g2, g3, g4⟩ := hx
  cases a with
  | none => exact ⟨_, rfl, by simp⟩
  | some ad =>
    obtain ⟨hs, hc⟩ := g4 ad rfl
    refine US.bind' (US.loadFrom (l := D.rep (.int .u8 lo hi) len) hs len 0 (by rw [D.len_rep]; omega) (fun j d hd => ?_) ⟨rfl, fun j d hj => by omega⟩) fun Γ' ys hle hy => ?_
    · obtain ⟨h1, rfl⟩ := D.at_rep hd
      exact hc j (by omega)
    · rw [← Array.forIn_toList]
      have hall : ∀ y, y ∈ ys.toList → ∃ n : Int, y = .int .u8 n := by
        intro y hyy
        obtain ⟨i, hi', e⟩ := List.getElem_of_mem hyy
        have hi2 : i < len := by simp at hi'; rw [hy.1] at hi'; omega
        obtain ⟨d, hd⟩ := D.at_lt (l := D.rep (.int .u8 lo hi) len) (j := i) (by rw [D.len_rep]; exact hi2)
        obtain ⟨v, q1, q2⟩ := hy.2 i d (by omega) hd
        obtain ⟨_, rfl⟩ := D.at_rep hd
        obtain ⟨m, rfl, _⟩ := q2
        have : ys.toList[i]? = some (.int .u8 m) := by simpa using q1
        rw [List.getElem?_eq_getElem hi'] at this
        simp only [Option.some.injEq] at this
        exact ⟨m, by rw [← e, this]⟩
      refine US.bind' (US.bytesLoop ByteArray.empty hall) fun Γ'' r hle' hr => ?_
      refine ⟨r, rfl, ?_⟩
      have : ys.toList.length = len := by simp [hy.1]
      rw [hr, this]
      simp
      exact g1

theorem US.convBytes {src dst e : TypeId} {x : Value} {n : Nat} {lo hi : Int} (hx : one Γ (.slc 1 (.int .u8 lo hi) n) x) (h1 : P.underlying src = some (.slice e)) (h2 : P.underlying dst = some .string) (h3 : P.underlying e = some (.int .u8)) :
    US P (fun Γ v => one Γ (.str n) v) Γ (Go.convert src dst x) := by
  refine US.under h1 (US.under h2 ?_)
  have hx' := hx
  obtain ⟨a, len, cap, rfl, _⟩ := hx
  cases a <;> exact US.under h3 (US.bytesToString hx')

theorem US.bound {k : IntKind} {i : Int} {y : Nat} {c : BoundsCode} (h0 : 0 ≤ i) (h1 : i ≤ y) : US P (fun _ r => r = i.toNat) Γ (Instr.sliceBound (.int k i) y c) := by
  show US P _ Γ (if 0 ≤ i ∧ i ≤ y then pure i.toNat else _)
  rw [if_pos ⟨h0, h1⟩]
  exact rfl

theorem extract_le {s : ByteArray} {l h n : Nat} (hs : s.size ≤ n) : (s.extract l h).size ≤ n := by
  rw [ByteArray.size_extract]
  omega

theorem US.sliceHi {t : TypeId} {s : ByteArray} {k : IntKind} {i : Int} {n : Nat} (hu : P.underlying t = some .string) (hs : s.size ≤ n) (h0 : 0 ≤ i) (h1 : i ≤ s.size) : US P (fun Γ v => one Γ (.str n) v) Γ (Instr.sliceAt t (.string s) none (some (.int k i)) none) := by
  refine US.under hu (US.under hu ?_)
  refine US.bind' (S := fun _ _ => True) ?_ fun Γ' r _ _ => ⟨_, rfl, extract_le hs⟩
  show US P _ Γ (Instr.sliceBound (.int k i) s.size _ >>= fun h => pure (0, h, s.size))
  exact US.bind' (US.bound h0 h1) fun Γ' r _ _ => trivial

theorem US.sliceLo {t : TypeId} {s : ByteArray} {k : IntKind} {i : Int} {n : Nat} (hu : P.underlying t = some .string) (hs : s.size ≤ n) (h0 : 0 ≤ i) (h1 : i ≤ s.size) : US P (fun Γ v => one Γ (.str n) v) Γ (Instr.sliceAt t (.string s) (some (.int k i)) none none) := by
  refine US.under hu (US.under hu ?_)
  refine US.bind' (S := fun _ _ => True) ?_ fun Γ' r _ _ => ⟨_, rfl, extract_le hs⟩
  show US P _ Γ (Instr.sliceBound (.int k i) s.size _ >>= fun l => pure (l, s.size, s.size))
  exact US.bind' (US.bound h0 h1) fun Γ' r _ _ => trivial

theorem US.sliceLH {t : TypeId} {s : ByteArray} {k k' : IntKind} {i j : Int} {n : Nat} (hu : P.underlying t = some .string) (hs : s.size ≤ n) (h0 : 0 ≤ i) (hij : i ≤ j) (h1 : j ≤ s.size) : US P (fun Γ v => one Γ (.str n) v) Γ (Instr.sliceAt t (.string s) (some (.int k i)) (some (.int k' j)) none) := by
  refine US.under hu (US.under hu ?_)
  refine US.bind' (S := fun _ _ => True) ?_ fun Γ' r _ _ => ⟨_, rfl, extract_le hs⟩
  show US P _ Γ (Instr.sliceBound (.int k' j) s.size _ >>= fun h => Instr.sliceBound (.int k i) h _ >>= fun l => pure (l, h, s.size))
  refine US.bind' (US.bound (by omega) h1) fun Γ' r _ hr => ?_
  subst hr
  exact US.bind' (US.bound h0 (by omega)) fun Γ' r _ _ => trivial

theorem i64_min : IntKind.i64.min = -9223372036854775808 := rfl
theorem i64_max : IntKind.i64.max = 9223372036854775807 := rfl

/-- A new slice of numbers. -/
theorem US.makeSlice {t e : TypeId} {info : TypeInfo} {k kl kc : IntKind} {x y : Int} {n : Nat} (hu : P.underlying t = some (.slice e)) (hi : P.info? e = some info) (hz : Tw.zero? P e = some (.int k 0)) (hs : info.size = 1)
    (h0 : 0 ≤ x) (h1 : x ≤ y) (h2 : y ≤ n) (hb : info.bytes * n ≤ 281474976710656) (hn : (n : Int) ≤ 9223372036854775807) : US P (fun Γ v => one Γ (.slc 1 (full k) n) v) Γ (Instr.makeSlice t (.int kl x) (.int kc y)) := by
  refine US.under hu ?_
  show US P _ Γ (typeInfo e >>= _)
  refine US.info hi ?_
  have w1 : IntKind.i64.wrap x = x := wrap_in (by rw [i64_min]; omega) (by rw [i64_max]; omega)
  have w2 : IntKind.i64.wrap y = y := wrap_in (by rw [i64_min]; omega) (by rw [i64_max]; omega)
  dsimp only
  rw [w1, w2]
  have hle : (info.bytes : Int) * y ≤ 281474976710656 := by
    have : (info.bytes : Int) * y ≤ info.bytes * n := Int.mul_le_mul_of_nonneg_left h2 (by omega)
    have h3 : ((info.bytes * n : Nat) : Int) ≤ ((281474976710656 : Nat) : Int) := Int.ofNat_le.2 hb
    rw [Int.natCast_mul] at h3
    exact Int.le_trans this h3
  have c1 : (decide (y < 0) || decide ((info.bytes : Int) * y > 2 ^ 48) || decide (x < 0) || decide (x > y)) = false := by
    simp only [Bool.or_eq_false_iff, decide_eq_false_iff_not]
    refine ⟨⟨⟨by omega, ?_⟩, by omega⟩, by omega⟩
    have : (2 : Int) ^ 48 = 281474976710656 := by decide
    omega
  rw [if_neg (by rw [c1]; simp)]
  refine US.bind' (S := fun _ _ => True) ?_ fun Γ' _ hle' _ => ?_
  · unfold askRoom
    split <;> exact trivial
  refine US.size hi ?_
  rw [hs, Nat.mul_one]
  have fin : ∀ (cs : Array Value), (∀ j, j < y.toNat → cs[j]? = some (.int k 0)) → US P (fun Γ v => one Γ (.slc 1 (full k) n) v) Γ' (do
      let a ← newRow e cs
      pure (Value.slice (some a) x.toNat y.toNat)) := by
    intro cs hcs
    refine ⟨cs, e, fun j => if j < y.toNat then some (full k) else none, rfl, fun j d hd => ?_, fun Γ'' r hle2 hr => ?_⟩
    · have hd : (if j < y.toNat then some (full k) else none) = some d := hd
      split at hd
      · rename_i hj
        cases hd
        refine ⟨_, hcs j hj, 0, rfl, ?_, ?_⟩
        · cases k <;> decide
        · cases k <;> decide
      · cases hd
    · refine ⟨some ⟨r, 0, none⟩, x.toNat, y.toNat, rfl, by omega, by omega, (fun e => by cases e), ?_⟩
      rintro a' ha
      cases ha
      refine ⟨rfl, fun j hj => ?_⟩
      have hj' : j < y.toNat := by omega
      simpa using hr j (full k) (show (if j < y.toNat then some (full k) else none) = some (full k) from if_pos hj')
  split
  · rename_i h0'
    exact fin _ fun j hj => by omega
  · refine US.zero hz ?_
    exact fin _ fun j hj => by simp [Value.cells, hj, Nat.mod_one]
end
end Go.Sf
