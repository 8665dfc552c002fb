/-
  A new base, its cells' facts reckoned.
-/
import Derived.Test.YgcoaaGreatLaxV
import Derived.Test.YgcoaaGreatLaxU
set_option linter.unusedVariables false
namespace Go.Proofs.YgcoaaGreat.NatW
attribute [local go_sem] Go.Instr.field Go.asAgg
open Go.RowKit

theorem rebase2 (w W : World) (n : Nat) (hW : Below w.heap.size w W) (hn : n ≤ W.heap.size) : ∃ (wb : World) (x0 : Later wb), W = x0.at_ ∧ (∀ (b i : Nat) (v : Value), W.cell? ⟨b, i, none⟩ = some v → b < W.heap.size → ∀ x : Later wb, x.at_.cell? ⟨b, i, none⟩ = some v) ∧ (∀ (b i : Nat), W.frozen? ⟨b, i, none⟩ = false → b < W.heap.size → ∀ x : Later wb, x.at_.frozen? ⟨b, i, none⟩ = false) ∧ (∀ x : Later wb, Below w.heap.size w x.at_) ∧ ∀ x : Later wb, n ≤ x.at_.heap.size := by
  refine ⟨W, ⟨W, Below.refl _ _⟩, rfl, ?_, ?_, fun x => hW.trans (x.ok.mono hW.size), fun x => Nat.le_trans hn x.ok.size⟩
  · intro b i v h hb x
    rw [x.ok.cell hb]; exact h
  · intro b i h hb x
    unfold World.frozen? at h ⊢
    rw [x.ok.block b hb]; exact h







theorem Pb.bd {M : Nat} (hM : M ≤ 52) {c e m : Int} (h : Pb M c e m) : -1126 ≤ e ∧ e ≤ 1021 ∧ U64 m ∧ 0 ≤ c ∧ c ≤ 4 := by
  have hp := pow_le' (M + 1) 53 (by omega)
  have e53 : (2 : Nat) ^ 53 = 9007199254740992 := by decide
  have h0 := Nat.one_le_two_pow (n := M)
  rcases h with ⟨hc, h1, h2, h3, h4⟩ | ⟨hc, h1, h2⟩
  · exact ⟨h1, h2, ⟨by omega, by omega⟩, by omega, by omega⟩
  · exact ⟨by omega, by omega, ⟨by omega, by omega⟩, by omega, by omega⟩
theorem Pb.nz {M : Nat} {c e m : Int} (h : Pb M c e m) (h0 : c ≠ 0) (h3 : c ≠ 3) (h4 : c ≠ 4) : ((2 ^ M : Nat) : Int) ≤ m ∧ m < ((2 ^ (M + 1) : Nat) : Int) := by
  rcases h with ⟨hc, h1, h2, h3, h4⟩ | ⟨hc, h1, h2⟩
  · exact ⟨h3, h4⟩
  · omega

/-- Memory has only grown: a new base over the old one. -/
theorem rebase3 (wb W : World) (hW : Below wb.heap.size wb W) : ∃ (wb2 : World) (x0 : Later wb2), W = x0.at_ ∧ (∀ x : Later wb2, ∃ y : Later wb, y.at_ = x.at_) ∧ (∀ (b : Nat) (o : Obj), W.heap[b]? = some o → wb2.heap[b]? = some o) ∧ ∀ x : Later wb2, W.heap.size ≤ x.at_.heap.size :=
  ⟨W, ⟨W, Below.refl _ _⟩, rfl, fun x => ⟨⟨x.at_, hW.trans (x.ok.mono hW.size)⟩, rfl⟩, fun _ _ h => h, fun x => x.ok.size⟩

end Go.Proofs.YgcoaaGreat.NatW
namespace Go.Proofs.YgcoaaGreat.NatW
attribute [local go_sem] Go.Instr.field Go.asAgg
open Go.RowKit
/-- A contract's fact holds of some value. -/
theorem Ret.ex {n : Nat} {args : Array Value} {Ψ : Value → Prop} (h : Ret n args Ψ) : ∃ v, Ψ v := by
  obtain ⟨e, w', fr, hv, _⟩ := (h default (fun _ _ => ∃ v, Ψ v) (fun v w' hv _ => ⟨v, hv⟩)) []
  exact hv
end Go.Proofs.YgcoaaGreat.NatW
