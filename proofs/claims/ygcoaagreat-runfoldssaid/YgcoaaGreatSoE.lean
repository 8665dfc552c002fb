/-
  Package so: convFlags.
-/
import Derived.Test.YgcoaaGreatTacB
import Derived.Test.YgcoaaGreatSoftO
import Derived.Test.YgcoaaGreatSoftQ
import Derived.Test.YgcoaaGreatSoftQb
import Derived.Test.YgcoaaGreatSoftR
import Derived.Test.YgcoaaGreatSoftS
import Derived.Test.YgcoaaGreatSoftV
import Derived.Test.YgcoaaGreatSoftW
import Derived.Test.YgcoaaGreatSoftX
import Derived.Test.YgcoaaGreatSoftY
import Derived.Test.YgcoaaGreatSoftZ
import Derived.Test.YgcoaaGreatSoA
import Derived.Test.YgcoaaGreatSoD
set_option linter.unusedVariables false
set_option linter.unusedSimpArgs false
namespace Go.Proofs.YgcoaaGreat.NatW
attribute [local go_sem] Go.Instr.field Go.asAgg
open Go.RowKit
open Go.Proofs.YgcoaaGreat.Limbs Go.Proofs.YgcoaaGreat.Bits

theorem u8w (x : Int) : 0 ≤ IntKind.u8.wrap x := by
  have e : IntKind.u8.wrap x = x % 256 := by simp [IntKind.wrap, IntKind.bits, IntKind.signed]
  rw [e]; omega

set_option maxRecDepth 20000 in
set_option maxHeartbeats 2000000 in
theorem convFlags_ret (E M : Nat) (hf : fok E M = true) (m q a : Int) (hq : U64 q) (ha : U64 a) : Ret 272 #[fmt E M, .int .u8 m, .int .u64 q, .int .u64 a] (fun v => ∃ f b, v = .tuple #[.int .u8 f, .bool b]) := by
  obtain ⟨g1, g2, g3, g4⟩ := fok_bd hf
  intro w K hK
  have HK := hide hK
  clear hK
  obtain ⟨wb, x0, hwb, r0, hB, hZ⟩ := boxes1 w #[.int .u8 E, .int .u8 M] 23
  have c00 : ∀ x : Later wb, _ = some (.int .u8 E : Value) := Later.cell r0 0 _ rfl
  have c01 : ∀ x : Later wb, _ = some (.int .u8 M : Value) := Later.cell r0 1 _ rfl
  have R0 := hide r0
  clear r0
  have hne : Nonempty (Later wb) := ⟨x0⟩
  obtain ⟨nb, hnb⟩ : ∃ nb, x0.at_.heap.size = nb := ⟨_, rfl⟩
  have bw : w.heap.size + 1 ≤ nb := by rw [← hnb]; exact hZ x0
  have nn0 : nb ≠ w.heap.size := by omega
  have nn1 : w.heap.size ≠ nb := by omega
  have ca0 : ∀ o, (x0.at_.alloc o).cell? ⟨w.heap.size, 0, none⟩ = some (.int .u8 E) := fun o => c00 ⟨x0.at_.alloc o, x0.ok.alloc x0.ok.size o⟩
  have ca1 : ∀ o, (x0.at_.alloc o).cell? ⟨w.heap.size, 1, none⟩ = some (.int .u8 M) := fun o => c01 ⟨x0.at_.alloc o, x0.ok.alloc x0.ok.size o⟩
  go_enter Oaag.func272, Oaag.ntmps272
  go_wp2_with (first
    | (
      (first | with_reducible refine Go.Proofs.YgcoaaGreat.NatW.at_alw ?_ | with_reducible refine Go.Proofs.YgcoaaGreat.NatW.at_alc ?_)
      ((first | with_reducible refine Go.Proofs.YgcoaaGreat.NatW.gen_calls ?_ | with_reducible refine Go.Proofs.YgcoaaGreat.NatW.gen_wp ?_ | with_reducible refine Go.Proofs.YgcoaaGreat.NatW.gen_list ?_ | with_reducible refine Go.Proofs.YgcoaaGreat.NatW.gen_body ?_); intro W hW)
      have hyW : Below wb.heap.size wb W := by rw [← hW]; exact x0.ok.alloc x0.ok.size _
      have qr := congrArg (fun z : World => z.heap[x0.at_.heap.size]?) hW
      rw [heap_alloc_new, hnb] at qr
      clear hW hne
      obtain ⟨wb2, x9, hx, hup, hrow, hZ2⟩ := rebase3 wb W hyW
      replace c00 := fun x : Later wb2 => (show _ from (Exists.choose_spec (hup x)) ▸ c00 (Exists.choose (hup x)))
      replace c01 := fun x : Later wb2 => (show _ from (Exists.choose_spec (hup x)) ▸ c01 (Exists.choose (hup x)))
      replace hB := fun x : Later wb2 => (show _ from (Exists.choose_spec (hup x)) ▸ hB (Exists.choose (hup x)))
      have hne : Nonempty (Later wb2) := ⟨x9⟩
      have hz9 : ∀ x : Later wb2, nb + 1 ≤ x.at_.heap.size := fun x => Nat.le_trans (Array.getElem?_eq_some_iff.1 qr.symm).1 (hZ2 x)
      have r9 := hrow _ _ qr.symm
      have c90 := Later.cell r9 0 _ rfl
      have c91 := Later.cell r9 1 _ rfl
      clear hup hrow hyW qr r9 hZ2
      rw [hx]
      clear hx)
    | (with_reducible refine Go.Proofs.YgcoaaGreat.NatW.at_later 190 ?_; refine Go.Proofs.YgcoaaGreat.NatW.Ret.run (convertFlags_any E M hf _ _ m a (by first | omega | exact u8w _) (by first | omega | exact u8w _) ha) _ ?_; rintro _ y__ ⟨rr, ff, rfl⟩)
    | (with_reducible refine Go.Proofs.YgcoaaGreat.NatW.at_later 67 ?_; refine Go.Proofs.YgcoaaGreat.NatW.Ret.run (fmtOk_i _ _ (by first | omega | exact u8w _) (by first | omega | exact u8w _)) _ ?_; rintro _ y__ rfl)
    | (with_reducible refine Go.Proofs.YgcoaaGreat.NatW.at_later 306 ?_; refine Go.Proofs.YgcoaaGreat.NatW.Ret.run (toIntFlags_ret E M hf _ a ha) _ ?_; rintro _ y__ ⟨r1, b1, ff, rfl⟩)
    | (with_reducible refine Go.Proofs.YgcoaaGreat.NatW.at_later 251 ?_; refine Go.Proofs.YgcoaaGreat.NatW.Ret.run (fromIFlags_ret E M hf m _) _ ?_; rintro _ y__ ⟨rr, ff, rfl, hrr⟩)
    | (with_reducible refine Go.Proofs.YgcoaaGreat.NatW.at_later 252 ?_; refine Go.Proofs.YgcoaaGreat.NatW.Ret.run (fromUFlags_ret E M hf m _ (by (first | assumption | exact U64.wrap _ | exact U64.bits _ _ _ | exact U64.div (by first | assumption | exact U64.wrap _ | exact U64.bits _ _ _ | exact U64.div (by first | assumption | exact U64.wrap _ | exact U64.bits _ _ _ | exact U64.lit (by omega) (by omega)) _ | exact U64.ediv (by first | assumption | exact U64.wrap _ | exact U64.bits _ _ _ | exact U64.lit (by omega) (by omega)) _ (by omega) | exact U64.lit (by omega) (by omega) | exact U64.one _ (by first | assumption | exact U64.wrap _ | exact U64.bits _ _ _ | exact U64.lit (by omega) (by omega)) (by first | assumption | exact U64.wrap _ | exact U64.bits _ _ _ | exact U64.lit (by omega) (by omega))) _ | exact U64.ediv (by first | assumption | exact U64.wrap _ | exact U64.bits _ _ _ | exact U64.div (by first | assumption | exact U64.wrap _ | exact U64.bits _ _ _ | exact U64.lit (by omega) (by omega)) _ | exact U64.ediv (by first | assumption | exact U64.wrap _ | exact U64.bits _ _ _ | exact U64.lit (by omega) (by omega)) _ (by omega) | exact U64.lit (by omega) (by omega) | exact U64.one _ (by first | assumption | exact U64.wrap _ | exact U64.bits _ _ _ | exact U64.lit (by omega) (by omega)) (by first | assumption | exact U64.wrap _ | exact U64.bits _ _ _ | exact U64.lit (by omega) (by omega))) _ (by omega) | exact U64.lit (by omega) (by omega) | exact U64.one _ (by first | assumption | exact U64.wrap _ | exact U64.bits _ _ _ | exact U64.div (by first | assumption | exact U64.wrap _ | exact U64.bits _ _ _ | exact U64.lit (by omega) (by omega)) _ | exact U64.ediv (by first | assumption | exact U64.wrap _ | exact U64.bits _ _ _ | exact U64.lit (by omega) (by omega)) _ (by omega) | exact U64.lit (by omega) (by omega) | exact U64.one _ (by first | assumption | exact U64.wrap _ | exact U64.bits _ _ _ | exact U64.lit (by omega) (by omega)) (by first | assumption | exact U64.wrap _ | exact U64.bits _ _ _ | exact U64.lit (by omega) (by omega))) (by first | assumption | exact U64.wrap _ | exact U64.bits _ _ _ | exact U64.div (by first | assumption | exact U64.wrap _ | exact U64.bits _ _ _ | exact U64.lit (by omega) (by omega)) _ | exact U64.ediv (by first | assumption | exact U64.wrap _ | exact U64.bits _ _ _ | exact U64.lit (by omega) (by omega)) _ (by omega) | exact U64.lit (by omega) (by omega) | exact U64.one _ (by first | assumption | exact U64.wrap _ | exact U64.bits _ _ _ | exact U64.lit (by omega) (by omega)) (by first | assumption | exact U64.wrap _ | exact U64.bits _ _ _ | exact U64.lit (by omega) (by omega)))))) _ ?_; rintro _ y__ ⟨rr, ff, rfl, hrr⟩))
  all_goals first | exact unhide HK _ _ ⟨_, _, rfl⟩ (hB _) | skip


end Go.Proofs.YgcoaaGreat.NatW
