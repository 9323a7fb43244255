/- Engine, part Pk: closed runs with ranges over maps. -/
import Derived.Test.YticgadnmlbfmfaaEvPj
namespace Go.Ev
noncomputable section
open Go.RowKit
def knM (P : Program) (n : Nat) (xl mf : List FuncId) : KN := knX xl (xN P (drawRun P (evN P (drawRun P) kn0 n).2) (evN P (drawRun P) kn0 n).2 mf n).2
theorem knM_ok [Ext] {P : Program} (hng : NoNG P) (hm : P.follows .mixedOrders = true) {n : Nat} {xl mf : List FuncId} : KnOK P (knM P n xl mf) := by
  have hdr := fun fe (hfe : FEok P fe) => drawRun_sound hng hm hfe
  have hev := evN_sound hng hdr (kn0_ok (P := P)) n
  exact knX_ok (xN_sound hng (hdr _ hev.2.2) hev.2.2 n).2
/-- A closed run: does it tell true? -/
def runX (P : Program) (K xl mf : List FuncId) (n : Nat) (f : FuncId) : Bool := match (evN P (drawRun P) (stepK (knT K) (knM P n xl mf)) n).2.call f [] ⟨Env.none, .lf, 0⟩ with
  | some (.bool b, _) => b
  | _ => false
theorem runX_calls {P : Program} (hng : NoNG P) (hm : P.follows .mixedOrders = true) {K : List FuncId} (hK : ∀ f ∈ K, ∀ w : World, Calls P f #[] w fun e w' => e = .returned (.bool true) ∧ Below w.heap.size w w') {xl mf : List FuncId} {n : Nat} {f : FuncId} (h : runX P K xl mf n f = true) (w : World) :
    Calls P f #[] w fun e w' => e = .returned (.bool true) ∧ Below w.heap.size w w' := by
  unfold runX at h
  cases hr : (evN P (drawRun P) (stepK (knT K) (knM P n xl mf)) n).2.call f [] ⟨Env.none, .lf, 0⟩ with
  | none => rw [hr] at h; cases h
  | some vh =>
    obtain ⟨v, H'⟩ := vh
    rw [hr] at h
    have hc := (evF_ok hng hm (stepK_sound (knT_ok hK) (knM_ok hng hm)) n).call w f [] ⟨Env.none, .lf, 0⟩ v H' hr phi0 w [] (by simp [VRs]) (HSim.start w)
    refine hc.mono ?_
    rintro e w' ⟨u, v', φ', H'', rfl, k1, k2, k3, _, rfl, rfl⟩
    cases u with
    | bool b =>
      have hb : b = true := h
      subst hb
      simp only [VR] at k2
      subst k2
      exact ⟨rfl, below_of k1 k3⟩
    | _ => cases h
end
end Go.Ev
