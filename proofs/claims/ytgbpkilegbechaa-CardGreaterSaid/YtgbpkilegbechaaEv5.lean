/- Engine, part 5: what an argument holds: structs and arrays, leaf by leaf. -/
import Derived.Test.YtgbpkilegbechaaEv4
import Derived.OpenShut
import Derived.Deep.Slices
namespace Go.Ev
set_option linter.unusedVariables false
noncomputable section
open Go.RowKit
section
variable {H : Type} {enc : TypeId × Value → H} {P : Program} {w : World} {base : Nat} {sp : Nat → Bool} {held : Bool}
/-- Leaf by leaf. -/
def LeavesOK (enc : TypeId × Value → H) (P : Program) (w : World) (base : Nat) (sp : Nat → Bool) (held : Bool) (ts : List TypeId) (cs : List Value) : Prop :=
  cs.length = ts.length ∧ ∀ (j : Nat) (u : TypeId), ts[j]? = some u → ∃ (v : Value) (n : Nat) (y : DataW H × List MemPlace), cs[j]? = some v ∧ DataW.trod enc P w base sp held n u [v] = some y
theorem LeavesOK.append {ts us : List TypeId} {cs : List Value} (h1 : LeavesOK enc P w base sp held ts (cs.take ts.length)) (h2 : LeavesOK enc P w base sp held us (cs.drop ts.length)) (hl : ts.length ≤ cs.length) : LeavesOK enc P w base sp held (ts ++ us) cs := by
  refine ⟨?_, fun j u hj => ?_⟩
  · have := h2.1
    simp at this ⊢
    omega
  · rw [List.getElem?_append] at hj
    split at hj
    · rename_i hlt
      obtain ⟨v, n, y, g1, g2⟩ := h1.2 j u hj
      rw [List.getElem?_take, if_pos hlt] at g1
      exact ⟨v, n, y, g1, g2⟩
    · rename_i hlt
      obtain ⟨v, n, y, g1, g2⟩ := h2.2 _ u hj
      rw [List.getElem?_drop, show ts.length + (j - ts.length) = j by omega] at g1
      exact ⟨v, n, y, g1, g2⟩
end
end
end Go.Ev
