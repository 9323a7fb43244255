/- Engine, part 9: automata over both tables of known calls. -/
import Derived.Test.YtgbhmkdldfhamaaEv8
namespace Go.Ev
set_option linter.unusedVariables false
noncomputable section
open Go.RowKit
abbrev extKA (P : Program) (K1 : List KE) (K2 : List KE2) : Ext := ⟨fun ρ w => (∀ e ∈ K1, KEok P ρ w e) ∧ ∀ e ∈ K2, KE2ok P ρ w e, fun _ => False⟩
def rcKA (P : Program) (K1 : List KE) (K2 : List KE2) (n : Nat) : CE := (evN P (drawRun P) (knA K1 K2) n).1.1
theorem knKA_ok {P : Program} {K1 : List KE} {K2 : List KE2} : @KnOK (extKA P K1 K2) P (knA K1 K2) := by
  letI : Ext := extKA P K1 K2
  exact knA_ok (knL_ok fun _ _ h => h.1) (knL2_ok fun _ _ h => h.2)
theorem auto_ofA {P : Program} (hng : noNGb P = true) (hm : P.follows .mixedOrders = true) {K1 : List KE} {K2 : List KE2} {n : Nat} {fn : Func} {body : Code} {S : List Nat} {fuel : Nat} {C : List CutP} {B : Nat → Option BO} (hnt : Nat.ble fn.ntmps top = true)
    (h1 : AllC (fun c => chkP P (rcKA P K1 K2 n) fn.ntmps S fuel fn.results.toList body C c = true) C) (h2 : AllC (fun c => ∀ iv fs, (c.E iv fs).blk = B) C) : @Auto (extKA P K1 K2) P (rcKA P K1 K2 n) fn body S fuel C B := by
  letI : Ext := extKA P K1 K2
  exact ⟨evN_rc (noNG_of hng) hm knKA_ok n, fun p c h => h1.get h, fun p c h => h2.get h, Nat.le_of_ble_eq_true hnt⟩
theorem auto_ofH {P : Program} (hng : noNGb P = true) (hm : P.follows .mixedOrders = true) {K1 : List KE} {K2 : List KE2} {n : Nat} {fn : Func} {body : Code} {S : List Nat} {fuel : Nat} {C : List CutP} {B : Nat → Option BO} {n0 : Nat} (hnt : Nat.ble fn.ntmps top = true)
    (h1 : AllC (fun c => c.tr = .leaf (.ret .any) ∨ chkPH P (rcKA P K1 K2 n) fn.ntmps S fuel fn.results.toList body C n0 c = true) C) (h2 : AllC (fun c => ∀ iv fs, (c.E iv fs).blk = B) C) : @AutoH (extKA P K1 K2) P (rcKA P K1 K2 n) fn body S fuel C B n0 := by
  letI : Ext := extKA P K1 K2
  exact ⟨evN_rc (noNG_of hng) hm knKA_ok n, fun p c h => h1.get h, fun p c h => h2.get h, Nat.le_of_ble_eq_true hnt⟩
section
variable {P : Program}
/-- A function by its cuts. -/
theorem auto_callsP [Ext] {rc : CE} {fn : Func} {body : Code} {S : List Nat} {fuel : Nat} {C : List CutP} {B : Nat → Option BO} (A : Auto P rc fn body S fuel C B) {f : FuncId} (hf : P.funcs[f]? = some fn) (hbody : fn.body = some body) {w0 : World} {res : Value} {args : List VV} {args' : List Value} {ρ : Rho} {c : CutP} {k p0 : Nat}
    (h1 : Nat.ble args.length fn.ntmps = true) (hc : lget C p0 = some c) (e1 : c.lab = none) (e2 : c.a0 = listT args 0 .lf) (e4 : c.l = .lf) (e5 : c.nH = 0) (hb : ∀ r b, B r = some b → ∃ o, w0.heap[r]? = some o ∧ BOR b o) (ha : VRs ⟨fun _ => none, ρ⟩ args args') (hr : Runs C w0 res k p0 ρ) (hno : ∀ k, ¬ Ext.own k := by intro k h; exact h) :
    Calls P f ⟨args'⟩ w0 fun e w' => e = .returned res ∧ Below w0.heap.size w0 w' := by
  obtain ⟨c', hc', hok⟩ := hr.ok
  rw [hc] at hc'
  cases hc'
  have h0 : At1 body body 0 [] := fun t _ _ => rfl
  refine rs_calls hf hbody h1 (Nat.ble_eq_true_of_le A.nt) (E := c.env ρ) ((hok.env _ rfl).ok hok.ext) (fun r b h => hb r b (by rw [← A.blk p0 c hc]; exact h)) ha (hno := hno) fun act k0 => ?_
  have k1 : RS w0 (· = ρ) fn.ntmps c.a0 ⟨c.env ρ, c.l, c.nH⟩ act w0 := by
    rw [e2, e4, e5]
    exact k0
  have := part_ok (HD := HeadAt C w0 res fn.ntmps k) A hc (b := body) (n := 0) (K := []) (by unfold CutP.run; rw [e1]) h0 trivial hr (fun t act w hs => ?_) k1
  · simpa only [postK] using this
  · obtain ⟨j, hj, hh⟩ := hs
    exact ⟨hh.mono (by omega), fun c' K' hc' => head_ok A h0 j t c' K' hc' k (by omega) act w hh⟩
end
end
end Go.Ev
