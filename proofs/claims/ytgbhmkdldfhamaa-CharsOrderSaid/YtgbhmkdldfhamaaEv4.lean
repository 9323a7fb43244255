/- Engine, part 4: automata over an index. -/
import Derived.Test.YtgbhmkdldfhamaaEv3
namespace Go.Ev
set_option linter.unusedVariables false
noncomputable section
open Go.RowKit
/-! ### automata over an index -/
/-- What is less, by a fact. -/
theorem lss_of {ρ : Rho} {k k' : IntKind} {a b : Nat} (P : Program) (w : World) (h : FactOK ρ (.bin .lss (.sint k a) (.sint k' b) (.bool true))) : ρ.int a < ρ.int b := by
  obtain ⟨x, y, v, h1, h2, h3, _, _, h4⟩ := h
  simp only [sval, Option.some.injEq] at h1 h2 h3
  subst h1 h2 h3
  have := h4 P 0 w
  by_cases hk : k = k'
  · subst hk
    simp [binOp, Op.intCmp] at this
    exact this
  · simp [binOp, hk] at this
/-! ### loops that search, loops that gather -/
def AllIv : Ivs → (Nat → Int) → Prop
  | [], _ => True
  | (a, b) :: l, f => (a ≤ f 0 ∧ f 0 ≤ b) ∧ AllIv l fun i => f (i + 1)
theorem iv_all {f : Nat → Int} : ∀ {l : Ivs}, AllIv l f → (∀ i, -9223372036854775808 ≤ f i ∧ f i ≤ 9223372036854775807) → ∀ i, (ivAt l i).1 ≤ f i ∧ f i ≤ (ivAt l i).2
  | [], _, hr => ivs_nil hr
  | (_, _) :: l, h, hr => ivs_cons h.1 (fun i => iv_all (f := fun i => f (i + 1)) h.2 (fun i => hr (i + 1)) i)
/-! ### trees held against each other, with intervals drawn closer by relations -/
section
variable {α β : Type}
end
end
end Go.Ev
