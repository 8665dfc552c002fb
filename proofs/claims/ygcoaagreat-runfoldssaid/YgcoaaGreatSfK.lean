/-
  One run of one text: a region.
-/
import Derived.Test.YgcoaaGreatSfJ
set_option linter.unusedVariables false
set_option linter.unusedSimpArgs false
namespace Go.Sf

def gsym (ops : Array Oper) (S : St) (j : Nat) : Option Nat := (((ops[j]?).bind (·.dst)).bind fun t => (S.sl[t]?)).join

def optL (f : St → Option (List St)) : Option St → Option (List St)
  | none => some []
  | some S => f S

def rops (V : Env) (F : FuncId → Bool) (ops : Array Oper) : List Nat → St → Option (List St)
  | [], S => some [S]
  | i :: is, S => match ops[i]? with
    | none => rops V F ops is S
    | some o =>
      match o.guard with
      | none => if calls F o then (match aOp V S o with | some tr => rops V F ops is (S.put o.dst tr) | none => none) else none
      | some (j, want) => match gsym ops S j with
        | none => none
        | some s => match S.sy[s]? with
          | some ((.mk (.inl (.inr (.inr (.inr (.inr (.inr (.inr (.inr (.inl ())))))))))), _) => rops V F ops is (S.put o.dst .skip)
          | some ((.mk (.inl (.inr (.inr (.inl (some b)))))), _) =>
            if b = want then (if calls F o then (match aOp V S o with | some tr => rops V F ops is (S.put o.dst tr) | none => none) else none)
            else rops V F ops is (S.put o.dst .skip)
          | some ((.mk (.inl (.inr (.inr (.inl none))))), _) => match assm S s want, assm S s (!want) with
            | some r1, some r2 =>
              match optL (fun S => if calls F o then (match aOp V S o with | some tr => rops V F ops is (S.put o.dst tr) | none => none) else none) r1, optL (fun S => rops V F ops is (S.put o.dst .skip)) r2 with
              | some l1, some l2 => some (l1 ++ l2)
              | _, _ => none
            | _, _ => none
          | _ => none

theorem put_len {S : St} {dst : Option Tmp} {tr : Tr} : S.sy.length ≤ (S.put dst tr).sy.length := by
  cases tr using Tr.cs <;> cases dst <;> simp [St.put, St.push, St.same]

theorem rops_ok {V : Env} {F : FuncId → Bool} (hG : Given V F) {ops : Array Oper} {Q : Exit → Act → World → Prop} : ∀ (is : List Nat) {S : St} {Γ : Gam} {ρ : Nat → Value} {a : Act} {w : World} {Ls : List St},
    AOk Γ ρ S a → Wt Γ w → rops V F ops is S = some Ls →
    (∀ Γ' ρ' a' w' S', S' ∈ Ls → Ex Γ w Γ' w' → (∀ s, s < S.sy.length → ρ' s = ρ s) → S.sy.length ≤ S'.sy.length → AOk Γ' ρ' S' a' → Q .normal a' w') → wpOps V.P ops Q is a w
  | [], S, Γ, ρ, a, w, Ls, h, hw, hr, hq => by
    simp only [rops, Option.some.injEq] at hr
    subst hr
    exact hq Γ ρ a w S (by simp) (Ex.refl hw) (fun _ _ => rfl) (Nat.le_refl _) h
  | i :: is, S, Γ, ρ, a, w, Ls, h, hw, hr, hq => by
    simp only [rops] at hr
    simp only [wpOps]
    cases ho : ops[i]? with
    | none =>
      rw [ho] at hr
      exact rops_ok hG is h hw hr hq
    | some o =>
      rw [ho] at hr
      dsimp only at hr ⊢
      -- what both ways come to
      have run : ∀ {S1 : St} {Ls1 : List St}, AOk Γ ρ S1 a → S1.sy.length = S.sy.length → (∀ S', S' ∈ Ls1 → S' ∈ Ls) →
          (if calls F o then (match aOp V S1 o with | some tr => rops V F ops is (S1.put o.dst tr) | none => none) else none) = some Ls1 → o.wp V.P a w (wpOps V.P ops Q is) Q := by
        intro S1 Ls1 h1 hl hsub hr1
        split at hr1
        · rename_i hcl
          split at hr1
          · rename_i tr htr
            refine op_wp hG h1 hw hcl htr ?_
            intro Γ' ρ' w' v hx hag h2
            refine rops_ok hG is h2 hx.wt hr1 ?_
            intro Γ'' ρ'' a'' w'' S' hS hx' hag' hlen h3
            have := put_len (S := S1) (dst := o.dst) (tr := tr)
            refine hq Γ'' ρ'' a'' w'' S' (hsub S' hS) (hx.trans hx') (fun s hs => ?_) (by omega) h3
            rw [hag' s (by omega), hag s (by omega)]
          · cases hr1
        · cases hr1
      have skp : ∀ {S1 : St} {Ls1 : List St}, AOk Γ ρ S1 a → S1.sy.length = S.sy.length → (∀ S', S' ∈ Ls1 → S' ∈ Ls) → rops V F ops is (S1.put o.dst .skip) = some Ls1 → wpOps V.P ops Q is (a.put o.dst undef) w := by
        intro S1 Ls1 h1 hl hsub hr1
        obtain ⟨ρ', hag, h2⟩ := h1.push o.dst (d := .und) (f := .no) (v := undef) rfl trivial rfl
        refine rops_ok hG is h2 hw hr1 ?_
        intro Γ'' ρ'' a'' w'' S' hS hx' hag' hlen h3
        have hp := put_len (S := S1) (dst := o.dst) (tr := .skip)
        have hp' : S1.sy.length ≤ (S1.push o.dst .und .no).sy.length := hp
        refine hq Γ'' ρ'' a'' w'' S' (hsub S' hS) hx' (fun s hs => ?_) (by omega) h3
        rw [hag' s (by omega), hag s (by omega)]
      cases hg : o.guard with
      | none =>
        rw [hg] at hr
        have hwant : Region.wanted o (yielded ops a.tmps) = true := by simp [Region.wanted, hg]
        rw [if_pos hwant]
        exact .inl (run h rfl (fun _ hS => hS) hr)
      | some jw =>
        obtain ⟨j, want⟩ := jw
        rw [hg] at hr
        dsimp only at hr
        have hwd : Region.wanted o (yielded ops a.tmps) = (yielded ops a.tmps j == some want) := by simp [Region.wanted, hg]
        rw [hwd]
        split at hr
        · cases hr
        · rename_i s hs
          have hyl : ∃ t, ((ops[j]?).bind (·.dst)) = some t ∧ S.sl[t]? = some (some s) := by
            unfold gsym at hs
            cases hd : (ops[j]?).bind (·.dst) with
            | none => rw [hd] at hs; cases hs
            | some t =>
              rw [hd] at hs
              refine ⟨t, rfl, ?_⟩
              simp only [Option.bind_some] at hs
              cases h1 : S.sl[t]? with
              | none => rw [h1] at hs; cases hs
              | some o => rw [h1] at hs; simp only [Option.join_some] at hs; rw [hs]
          obtain ⟨t, ht1, ht2⟩ := hyl
          obtain ⟨hs1, hs2⟩ := h.slot t s ht2
          have hy : yielded ops a.tmps j = (match ρ s with | .bool b => some b | _ => none) := by
            unfold yielded
            rw [ht1]
            simp only [Option.bind_some, hs2]
            cases ρ s <;> rfl
          split at hr
          · rename_i f hsy
            have e : ρ s = undef := (h.sym s _ _ hsy).1
            have e' : yielded ops a.tmps j = none := by rw [hy, e]; rfl
            rw [if_neg (by rw [e']; simp)]
            exact skp h rfl (fun _ hS => hS) hr
          · rename_i b f hsy
            obtain ⟨c, e, hb⟩ := (h.sym s _ _ hsy).1
            have := hb b rfl
            subst this
            have e' : yielded ops a.tmps j = some c := by rw [hy, e]
            split at hr
            · rename_i hbw
              rw [if_pos (by rw [e', hbw]; simp)]
              exact .inl (run h rfl (fun _ hS => hS) hr)
            · rename_i hbw
              rw [if_neg (by rw [e']; simpa using hbw)]
              exact skp h rfl (fun _ hS => hS) hr
          · rename_i f hsy
            obtain ⟨c, e, hb⟩ := (h.sym s _ _ hsy).1
            have e' : yielded ops a.tmps j = some c := by rw [hy, e]
            split at hr
            · rename_i r1 r2 ha1 ha2
              split at hr
              · rename_i l1 l2 hl1 hl2
                cases hr
                by_cases hcw : c = want
                · subst hcw
                  rw [if_pos (by rw [e']; simp)]
                  obtain ⟨S1, rfl, h1, hlen, _⟩ := assm_ok h ha1 e
                  exact .inl (run h1 hlen (fun S' hS => by simp [hS]) hl1)
                · have hcw' : c = !want := by cases c <;> cases want <;> simp_all
                  rw [if_neg (by rw [e']; simpa using hcw)]
                  obtain ⟨S1, rfl, h1, hlen, _⟩ := assm_ok h ha2 (by rw [e, hcw'])
                  exact skp h1 hlen (fun S' hS => by simp [hS]) hl2
              · cases hr
            · cases hr
          · cases hr

/-- A drawn region, its order as the text has it. -/
theorem wp_region_zero {P : Program} {id : Nat} {ops : Array Oper} {Q : Exit → Act → World → Prop} {a : Act} {w : World} {d : Bool} (ht : w.tape = fun _ _ => 0)
    (hs : d = true → Region.schedule (P.follows .mixedOrders) ops 0 = List.range ops.size) (h : wpOps P ops Q (List.range ops.size) a (if d then { w with drawn := w.drawn + 1 } else w)) : (Code.region id ops d).wp P Q a w := by
  cases d with
  | false => exact wp_region h
  | true =>
    intro b k cs
    obtain ⟨e, a', w', q, r⟩ := wp_ops _ a _ h b k cs
    refine ⟨e, a', w', q, .of_steps (.one step_region_draw) ?_⟩
    rw [ht]
    rw [hs rfl]
    rw [ht] at r
    exact r
end Go.Sf
