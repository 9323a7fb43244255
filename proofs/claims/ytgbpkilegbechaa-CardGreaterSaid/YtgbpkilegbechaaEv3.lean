/- Engine, part 3: trees held against each other; helps for cuts. -/
import Derived.Test.YtgbpkilegbechaaEv2
namespace Go.Ev
set_option linter.unusedVariables false
noncomputable section
open Go.RowKit
section
variable {α β : Type}
end
section
variable {β : Type}
end
/-- What holds at a cut, by its intervals. -/
theorem CutP.ok_of [Ext] {c : CutP} {w0 : World} {ρ : Rho} (h : Ext.ok ρ w0) (hiv : IvOK c.iv ρ) (hE : ∀ iv fs, IvOK iv ρ → FsOK fs ρ → ∀ φ : Phi, φ.ρ = ρ → EnvP (c.E iv fs) φ w0) : c.OK w0 ρ :=
  ⟨h, fun φ hφ => by
    obtain ⟨g1, g2⟩ := leafX_ok (t := c.tr.tr) hiv (fs := []) fun f hf => by cases hf
    exact (hE _ _ g1 g2 φ hφ).toM⟩
theorem fs_app {f1 f2 : List Fact} {ρ : Rho} (h1 : FsOK f1 ρ) (h2 : FsOK f2 ρ) : FsOK (f1 ++ f2) ρ := fun f hf => by
  rcases List.mem_append.1 hf with h | h
  · exact h1 f h
  · exact h2 f h
theorem fs_nil {ρ : Rho} : FsOK [] ρ := fun f hf => by cases hf
theorem fs_cons {f : Fact} {l : List Fact} {ρ : Rho} (h1 : FactOK ρ f) (h2 : FsOK l ρ) : FsOK (f :: l) ρ := fun g hg => by
  rcases List.mem_cons.1 hg with rfl | h
  · exact h1
  · exact h2 g h
theorem run_ret [Ext] {C : List CutP} {w0 : World} {res : Value} {p : Nat} {ρ : Rho} {c : CutP} {r : VV} (h1 : lget C p = some c) (h2 : c.OK w0 ρ) (h3 : valX c.tr ρ.int = .ret r) (h4 : sval ρ r = some res) : ∃ k, Runs C w0 res k p ρ := ⟨0, .ret h1 h2 h3 h4⟩
theorem run_step [Ext] {C : List CutP} {w0 : World} {res : Value} {p q : Nat} {ρ ρ' : Rho} {c d : CutP} {xs : List VV} (h1 : lget C p = some c) (h2 : c.OK w0 ρ) (h3 : valX c.tr ρ.int = .goto q xs) (h4 : lget C q = some d) (h5 : agree d.N ρ ρ') (h6 : carry ρ ρ' xs d.ys) (h7 : ∃ k, Runs C w0 res k q ρ') : ∃ k, Runs C w0 res k p ρ :=
  let ⟨k, h⟩ := h7
  ⟨k + 1, .step h1 h2 h3 h4 h5 h6 h⟩
def AllC (f : CutP → Prop) : List CutP → Prop
  | [] => True
  | c :: l => f c ∧ AllC f l
theorem AllC.get {f : CutP → Prop} : ∀ {C : List CutP} {p : Nat} {c : CutP}, AllC f C → lget C p = some c → f c
  | [], _, _, _, h => by simp [lget] at h
  | x :: l, 0, c, k, h => by
    simp only [lget, Option.some.injEq] at h
    exact h ▸ k.1
  | x :: l, p + 1, c, k, h => AllC.get k.2 (by simpa only [lget] using h)
theorem auto_of {P : Program} (hng : noNGb P = true) (hm : P.follows .mixedOrders = true) {KT : List KE} {n : Nat} {fn : Func} {body : Code} {S : List Nat} {fuel : Nat} {C : List CutP} {B : Nat → Option BO} (hnt : Nat.ble fn.ntmps top = true)
    (h1 : AllC (fun c => chkP P (rcKT P KT n) fn.ntmps S fuel fn.results.toList body C c = true) C) (h2 : AllC (fun c => ∀ iv fs, (c.E iv fs).blk = B) C) : @Auto (extKT P KT) P (rcKT P KT n) fn body S fuel C B := by
  letI : Ext := extKT P KT
  exact ⟨evN_rc (noNG_of hng) hm (knL_ok (fun _ _ h => h)) n, fun p c h => h1.get h, fun p c h => h2.get h, Nat.le_of_ble_eq_true hnt⟩
end
end Go.Ev
