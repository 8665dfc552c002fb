/-
  Package na: byWide.
-/
import Derived.Test.YgcoaaGreatNaB
set_option linter.unusedVariables false
set_option maxRecDepth 20000
namespace Go.Proofs.YgcoaaGreat.NatW
open Go.RowKit
attribute [local go_sem] Go.Instr.field Go.asAgg
def opV (kd kD kA kB imm : Int) (t : ByteArray) : Value := .agg #[.int .u8 kd, .int .u8 kD, .int .u8 kA, .int .u8 kB, .int .u64 imm, .string t]

set_option maxHeartbeats 1000000 in
theorem byWide_ex (f : Bool) (kd kD kA kB imm : Int) (t : ByteArray) (a b : Int) (ha : U64 a) (hb : U64 b) (hi : U64 imm) : ∃ r : Nat, U64 r ∧ Ret 294 #[.bool f, opV kd kD kA kB imm t, .int .u64 a, .int .u64 b] (fun v => v = .int .u64 r) := by
  unfold opV
  obtain ⟨bk, hbk⟩ : ∃ x, (kd == 17) = x := ⟨_, rfl⟩
  cases f with
  | true =>
    obtain ⟨x, ux, kx⟩ := rem64_ex a b ha hb
    obtain ⟨y, uy, ky⟩ := roundInt64_ex (imm % 256) a ha
    have H1 := hide kx
    have H2 := hide ky
    clear kx ky
    cases bk with
    | true =>
      refine ⟨y, uy, ?_⟩
      clear ux uy
      intro w K hK
      have HK := hide hK; clear hK
      have S := Same.refl (w.alloc (Obj.cells #[.int .u8 kd, .int .u8 kD, .int .u8 kA, .int .u8 kB, .int .u64 imm, .string t] 91))
      have C0 := hide (fun w' (s : Same (w.alloc (Obj.cells #[.int .u8 kd, .int .u8 kD, .int .u8 kA, .int .u8 kB, .int .u64 imm, .string t] 91)) w') => show w'.cell? ⟨w.heap.size, 0, none⟩ = some (.int .u8 kd) from (World.cell?_of_block (a := ⟨w.heap.size, 0, none⟩) (show w'.heap[w.heap.size]? = (w.alloc (Obj.cells #[.int .u8 kd, .int .u8 kD, .int .u8 kA, .int .u8 kB, .int .u64 imm, .string t] 91)).heap[w.heap.size]? by rw [s.heap])).trans (by simp))
      have C4 := hide (fun w' (s : Same (w.alloc (Obj.cells #[.int .u8 kd, .int .u8 kD, .int .u8 kA, .int .u8 kB, .int .u64 imm, .string t] 91)) w') => show w'.cell? ⟨w.heap.size, 4, none⟩ = some (.int .u64 imm) from (World.cell?_of_block (a := ⟨w.heap.size, 4, none⟩) (show w'.heap[w.heap.size]? = (w.alloc (Obj.cells #[.int .u8 kd, .int .u8 kD, .int .u8 kA, .int .u8 kB, .int .u64 imm, .string t] 91)).heap[w.heap.size]? by rw [s.heap])).trans (by simp))
      go_enter Oaag.func294, Oaag.ntmps294
      go_wp2_with (first | (with_reducible refine NRet.run (unhide H1) ?_; intro w1 s1; replace S := Same.trans S s1; clear s1; have c0 := unhide C0 _ S; have c4 := unhide C4 _ S) | (with_reducible refine NRet.run (unhide H2) ?_; intro w1 s1; replace S := Same.trans S s1; clear s1; have c0 := unhide C0 _ S; have c4 := unhide C4 _ S))
      exact unhide HK _ _ rfl ((((Below.refl w.heap.size w).alloc (Nat.le_refl _) _)).trans (S.below.mono (by simp)))
    | false =>
      refine ⟨x, ux, ?_⟩
      clear ux uy
      intro w K hK
      have HK := hide hK; clear hK
      have S := Same.refl (w.alloc (Obj.cells #[.int .u8 kd, .int .u8 kD, .int .u8 kA, .int .u8 kB, .int .u64 imm, .string t] 91))
      have C0 := hide (fun w' (s : Same (w.alloc (Obj.cells #[.int .u8 kd, .int .u8 kD, .int .u8 kA, .int .u8 kB, .int .u64 imm, .string t] 91)) w') => show w'.cell? ⟨w.heap.size, 0, none⟩ = some (.int .u8 kd) from (World.cell?_of_block (a := ⟨w.heap.size, 0, none⟩) (show w'.heap[w.heap.size]? = (w.alloc (Obj.cells #[.int .u8 kd, .int .u8 kD, .int .u8 kA, .int .u8 kB, .int .u64 imm, .string t] 91)).heap[w.heap.size]? by rw [s.heap])).trans (by simp))
      have C4 := hide (fun w' (s : Same (w.alloc (Obj.cells #[.int .u8 kd, .int .u8 kD, .int .u8 kA, .int .u8 kB, .int .u64 imm, .string t] 91)) w') => show w'.cell? ⟨w.heap.size, 4, none⟩ = some (.int .u64 imm) from (World.cell?_of_block (a := ⟨w.heap.size, 4, none⟩) (show w'.heap[w.heap.size]? = (w.alloc (Obj.cells #[.int .u8 kd, .int .u8 kD, .int .u8 kA, .int .u8 kB, .int .u64 imm, .string t] 91)).heap[w.heap.size]? by rw [s.heap])).trans (by simp))
      go_enter Oaag.func294, Oaag.ntmps294
      go_wp2_with (first | (with_reducible refine NRet.run (unhide H1) ?_; intro w1 s1; replace S := Same.trans S s1; clear s1; have c0 := unhide C0 _ S; have c4 := unhide C4 _ S) | (with_reducible refine NRet.run (unhide H2) ?_; intro w1 s1; replace S := Same.trans S s1; clear s1; have c0 := unhide C0 _ S; have c4 := unhide C4 _ S))
      exact unhide HK _ _ rfl ((((Below.refl w.heap.size w).alloc (Nat.le_refl _) _)).trans (S.below.mono (by simp)))
  | false =>
    obtain ⟨a', ua, ka⟩ := widen_ex (a % 4294967296) (u32_mod a)
    obtain ⟨b', ub, kb⟩ := widen_ex (b % 4294967296) (u32_mod b)
    obtain ⟨x, ux, kx⟩ := rem64_ex a' b' ua ub
    obtain ⟨y, uy, ky⟩ := roundInt64_ex (imm % 256) a' ua
    obtain ⟨x', ux', kx'⟩ := narrow_ex x ux
    obtain ⟨y', uy', ky'⟩ := narrow_ex y uy
    have H1 := hide kx
    have H2 := hide ky
    have H3 := hide ka
    have H4 := hide kb
    have H5 := hide kx'
    have H6 := hide ky'
    have v5 := ux'.2
    have v6 := uy'.2
    clear kx ky ka kb kx' ky'
    cases bk with
    | true =>
      refine ⟨y', uy'.u64, ?_⟩
      clear ux uy ua ub ux' uy'
      intro w K hK
      have HK := hide hK; clear hK
      have S := Same.refl (w.alloc (Obj.cells #[.int .u8 kd, .int .u8 kD, .int .u8 kA, .int .u8 kB, .int .u64 imm, .string t] 91))
      have C0 := hide (fun w' (s : Same (w.alloc (Obj.cells #[.int .u8 kd, .int .u8 kD, .int .u8 kA, .int .u8 kB, .int .u64 imm, .string t] 91)) w') => show w'.cell? ⟨w.heap.size, 0, none⟩ = some (.int .u8 kd) from (World.cell?_of_block (a := ⟨w.heap.size, 0, none⟩) (show w'.heap[w.heap.size]? = (w.alloc (Obj.cells #[.int .u8 kd, .int .u8 kD, .int .u8 kA, .int .u8 kB, .int .u64 imm, .string t] 91)).heap[w.heap.size]? by rw [s.heap])).trans (by simp))
      have C4 := hide (fun w' (s : Same (w.alloc (Obj.cells #[.int .u8 kd, .int .u8 kD, .int .u8 kA, .int .u8 kB, .int .u64 imm, .string t] 91)) w') => show w'.cell? ⟨w.heap.size, 4, none⟩ = some (.int .u64 imm) from (World.cell?_of_block (a := ⟨w.heap.size, 4, none⟩) (show w'.heap[w.heap.size]? = (w.alloc (Obj.cells #[.int .u8 kd, .int .u8 kD, .int .u8 kA, .int .u8 kB, .int .u64 imm, .string t] 91)).heap[w.heap.size]? by rw [s.heap])).trans (by simp))
      go_enter Oaag.func294, Oaag.ntmps294
      go_wp2_with (first | (with_reducible refine NRet.run (unhide H1) ?_; intro w1 s1; replace S := Same.trans S s1; clear s1; have c0 := unhide C0 _ S; have c4 := unhide C4 _ S) | (with_reducible refine NRet.run (unhide H2) ?_; intro w1 s1; replace S := Same.trans S s1; clear s1; have c0 := unhide C0 _ S; have c4 := unhide C4 _ S) | (with_reducible refine NRet.run (unhide H3) ?_; intro w1 s1; replace S := Same.trans S s1; clear s1; have c0 := unhide C0 _ S; have c4 := unhide C4 _ S) | (with_reducible refine NRet.run (unhide H4) ?_; intro w1 s1; replace S := Same.trans S s1; clear s1; have c0 := unhide C0 _ S; have c4 := unhide C4 _ S) | (with_reducible refine NRet.run (unhide H5) ?_; intro w1 s1; replace S := Same.trans S s1; clear s1; have c0 := unhide C0 _ S; have c4 := unhide C4 _ S) | (with_reducible refine NRet.run (unhide H6) ?_; intro w1 s1; replace S := Same.trans S s1; clear s1; have c0 := unhide C0 _ S; have c4 := unhide C4 _ S))
      exact unhide HK _ _ rfl ((((Below.refl w.heap.size w).alloc (Nat.le_refl _) _)).trans (S.below.mono (by simp)))
    | false =>
      refine ⟨x', ux'.u64, ?_⟩
      clear ux uy ua ub ux' uy'
      intro w K hK
      have HK := hide hK; clear hK
      have S := Same.refl (w.alloc (Obj.cells #[.int .u8 kd, .int .u8 kD, .int .u8 kA, .int .u8 kB, .int .u64 imm, .string t] 91))
      have C0 := hide (fun w' (s : Same (w.alloc (Obj.cells #[.int .u8 kd, .int .u8 kD, .int .u8 kA, .int .u8 kB, .int .u64 imm, .string t] 91)) w') => show w'.cell? ⟨w.heap.size, 0, none⟩ = some (.int .u8 kd) from (World.cell?_of_block (a := ⟨w.heap.size, 0, none⟩) (show w'.heap[w.heap.size]? = (w.alloc (Obj.cells #[.int .u8 kd, .int .u8 kD, .int .u8 kA, .int .u8 kB, .int .u64 imm, .string t] 91)).heap[w.heap.size]? by rw [s.heap])).trans (by simp))
      have C4 := hide (fun w' (s : Same (w.alloc (Obj.cells #[.int .u8 kd, .int .u8 kD, .int .u8 kA, .int .u8 kB, .int .u64 imm, .string t] 91)) w') => show w'.cell? ⟨w.heap.size, 4, none⟩ = some (.int .u64 imm) from (World.cell?_of_block (a := ⟨w.heap.size, 4, none⟩) (show w'.heap[w.heap.size]? = (w.alloc (Obj.cells #[.int .u8 kd, .int .u8 kD, .int .u8 kA, .int .u8 kB, .int .u64 imm, .string t] 91)).heap[w.heap.size]? by rw [s.heap])).trans (by simp))
      go_enter Oaag.func294, Oaag.ntmps294
      go_wp2_with (first | (with_reducible refine NRet.run (unhide H1) ?_; intro w1 s1; replace S := Same.trans S s1; clear s1; have c0 := unhide C0 _ S; have c4 := unhide C4 _ S) | (with_reducible refine NRet.run (unhide H2) ?_; intro w1 s1; replace S := Same.trans S s1; clear s1; have c0 := unhide C0 _ S; have c4 := unhide C4 _ S) | (with_reducible refine NRet.run (unhide H3) ?_; intro w1 s1; replace S := Same.trans S s1; clear s1; have c0 := unhide C0 _ S; have c4 := unhide C4 _ S) | (with_reducible refine NRet.run (unhide H4) ?_; intro w1 s1; replace S := Same.trans S s1; clear s1; have c0 := unhide C0 _ S; have c4 := unhide C4 _ S) | (with_reducible refine NRet.run (unhide H5) ?_; intro w1 s1; replace S := Same.trans S s1; clear s1; have c0 := unhide C0 _ S; have c4 := unhide C4 _ S) | (with_reducible refine NRet.run (unhide H6) ?_; intro w1 s1; replace S := Same.trans S s1; clear s1; have c0 := unhide C0 _ S; have c4 := unhide C4 _ S))
      exact unhide HK _ _ rfl ((((Below.refl w.heap.size w).alloc (Nat.le_refl _) _)).trans (S.below.mono (by simp)))

end Go.Proofs.YgcoaaGreat.NatW
