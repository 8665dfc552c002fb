/-
  Two runs of one text: a function, checked.
-/
import Derived.Test.YgcoaaGreatTwZ
import Derived.Test.YgcoaaGreatTwEq
set_option maxRecDepth 20000
namespace Go.Proofs.Oaag.Twn
open Go Go.Tw

def restB (V : Env) (g : FuncId) (fn : Func) : Bool := fn.body.isSome && fn.results.all (okRes (V.TT g)) && (List.range fn.params.size).all fun s => (List.range fn.params.size).all fun t => V.BX g s == 0 || V.BX g t == 0 || V.BX g s == V.BX g t

theorem mkOk {V : Env} {dr : FuncId → Array Oper → Bool} {g : FuncId} {fn : Func} (h : V.P.funcs[g]? = some fn) (hc : okCode V g dr (fn.body.getD .skip) = true) (hr : restB V g fn = true) : OkFn V dr g fn (fn.body.getD .skip) := by
  simp only [restB, Bool.and_eq_true, List.all_eq_true, List.mem_range, Bool.or_eq_true, beq_iff_eq] at hr
  obtain ⟨⟨h1, h2⟩, h3⟩ := hr
  refine ⟨h, ?_, hc, ?_, fun s t hs ht hs0 ht0 => ?_⟩
  · cases hb : fn.body with
    | none => rw [hb] at h1; exact absurd h1 (by simp)
    | some c => rfl
  · intro r hr'
    rw [Array.all_eq_true_iff_forall_mem] at h2
    exact h2 r (by simpa using hr')
  · rcases h3 s hs t ht with (e | e) | e
    · exact absurd e hs0
    · exact absurd e ht0
    · exact e
end Go.Proofs.Oaag.Twn
