/- Engine, part 3: trees held against each other; helps for cuts. -/
import Derived.Test.YtgbhmkdldfhamaaEv2
namespace Go.Ev
set_option linter.unusedVariables false
noncomputable section
open Go.RowKit
section
variable {α β : Type}
end
section
variable {β : Type}
end
/-- What holds at a cut, by its intervals. -/
theorem CutP.ok_of [Ext] {c : CutP} {w0 : World} {ρ : Rho} (h : Ext.ok ρ w0) (hiv : IvOK c.iv ρ) (hE : ∀ iv fs, IvOK iv ρ → FsOK fs ρ → ∀ φ : Phi, φ.ρ = ρ → EnvP (c.E iv fs) φ w0) : c.OK w0 ρ :=
  ⟨h, fun φ hφ => by
    obtain ⟨g1, g2⟩ := leafX_ok (t := c.tr.tr) hiv (fs := []) fun f hf => by cases hf
    exact (hE _ _ g1 g2 φ hφ).toM⟩
theorem fs_app {f1 f2 : List Fact} {ρ : Rho} (h1 : FsOK f1 ρ) (h2 : FsOK f2 ρ) : FsOK (f1 ++ f2) ρ := fun f hf => by
  rcases List.mem_append.1 hf with h | h
  · exact h1 f h
  · exact h2 f h
theorem fs_nil {ρ : Rho} : FsOK [] ρ := fun f hf => by cases hf
theorem fs_cons {f : Fact} {l : List Fact} {ρ : Rho} (h1 : FactOK ρ f) (h2 : FsOK l ρ) : FsOK (f :: l) ρ := fun g hg => by
  rcases List.mem_cons.1 hg with rfl | h
  · exact h1
  · exact h2 g h
def AllC (f : CutP → Prop) : List CutP → Prop
  | [] => True
  | c :: l => f c ∧ AllC f l
theorem AllC.get {f : CutP → Prop} : ∀ {C : List CutP} {p : Nat} {c : CutP}, AllC f C → lget C p = some c → f c
  | [], _, _, _, h => by simp [lget] at h
  | x :: l, 0, c, k, h => by
    simp only [lget, Option.some.injEq] at h
    exact h ▸ k.1
  | x :: l, p + 1, c, k, h => AllC.get k.2 (by simpa only [lget] using h)
end
end Go.Ev
