/-
  One run: the contracts laid by hand, together.
-/
import Derived.Test.YgcoaaGreatSfV
set_option linter.unusedVariables false
set_option linter.unusedSimpArgs false
set_option maxRecDepth 20000
namespace Go.Proofs.YgcoaaGreat.SfW
open Go Go.Sf Go.Proofs.YgcoaaGreat.NatW

def baseE (g : FuncId) : D → Option D :=
  bif Nat.beq g 336 then fix (.cons (.int .u64 0 18446744073709551615) .nil) (.str 16) else
  bif Nat.beq g 355 then fix (.cons bigP .nil) (.int .i64 0 3328) else
  bif Nat.beq g 208 then fix (.cons bigP (.cons u64D (.cons u64D .nil))) (.tup .nil) else
  bif Nat.beq g 207 then fix (.cons bigP (.cons (.str 1000000) .nil)) (.tup .nil) else
  baseD g
theorem baseE_ok {g : FuncId} {ps r : D} (h : baseE g ps = some r) : Con Oaag.prog g ps r := by
  unfold baseE at h
  by_cases e : g = 336
  · rw [bif_true e] at h; subst e; exact fix_ok con_hexDigit h
  rw [bif_false e] at h; clear e
  by_cases e : g = 355
  · rw [bif_true e] at h; subst e; exact fix_ok con_bits h
  rw [bif_false e] at h; clear e
  by_cases e : g = 208
  · rw [bif_true e] at h; subst e; exact fix_ok con_mulAdd h
  rw [bif_false e] at h; clear e
  by_cases e : g = 207
  · rw [bif_true e] at h; subst e; exact fix_ok con_read h
  rw [bif_false e] at h; clear e
  exact baseD_ok h
end Go.Proofs.YgcoaaGreat.SfW
