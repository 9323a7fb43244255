/- Engine, part T: what the evaluator says holds of the program. -/
import Derived.Test.YtgbhmkdldfhamaaEvS
import Derived.Below
import Derived.ProofKit
import Derived.OpenShut
namespace Go.Ev
open Go.RowKit
noncomputable section
theorem evF_ok {P : Program} (hng : NoNG P) (hm : P.follows .mixedOrders = true) (n : Nat) : FEok P (evN P (drawRun P) n).2 :=
  (evN_sound hng (fun _ h => drawRun_sound hng hm h) n).2.2
theorem HSim.start (w : World) : HSim w (fun _ => none) ⟨fun _ => none, .lf, 0⟩ w :=
  ⟨(fun r b h => by cases h), (fun _ _ => rfl), (fun i inf h => by cases h), Nat.zero_le _, (fun i o h => by cases h), (fun i j oi oj inf jnf h => by cases h), (fun _ _ => rfl), (fun i inf h => by cases h)⟩
theorem below_of {w w' : World} {φ φ' : Phi} {H : VH} (hs : St φ w φ' w') (h : HSim w φ' H w') : Below w.heap.size w w' :=
  ⟨hs.wk.os, hs.wk.tape, hs.wk.output, hs.wk.size, h.old⟩
theorem runV_calls {P : Program} (hng : NoNG P) (hm : P.follows .mixedOrders = true) {n : Nat} {f : FuncId} (h : runV P n f = true) (w : World) :
    Calls P f #[] w fun e w' => e = .returned (.bool true) ∧ Below w.heap.size w w' := by
  unfold runV at h
  cases hr : (evN P (drawRun P) n).2 f [] ⟨fun _ => none, .lf, 0⟩ with
  | none => rw [hr] at h; cases h
  | some vh =>
    obtain ⟨v, H'⟩ := vh
    rw [hr] at h
    have hc := evF_ok hng hm n w f [] ⟨fun _ => none, .lf, 0⟩ v H' hr (fun _ => none) w [] (by simp [VRs]) (HSim.start w)
    refine hc.mono ?_
    rintro e w' ⟨u, v', φ', H'', rfl, k1, k2, k3, _, rfl, rfl⟩
    cases u with
    | bool b =>
      have hb : b = true := h
      subst hb
      simp only [VR] at k2
      subst k2
      exact ⟨rfl, below_of k1 k3⟩
    | _ => cases h
/-- No function asks how many goroutines there are: as the kernel can reckon it. -/
def noNGb (P : Program) : Bool := P.funcs.toList.all fun fn => !(fn.name == "runtime.NumGoroutine")
theorem noNG_of {P : Program} (h : noNGb P = true) : NoNG P := by
  intro g fn hg
  have := List.all_eq_true.1 h fn (by
    have := Array.mem_of_getElem? hg
    simpa using this)
  simpa using this
/-- What a row asks behind a call that was given no memory. -/
theorem post_of_below {H : Type} {enc : TypeId × Value → H} {P : Program} {f : Func} {s : ChangeSpec} {apart fresh handsOn again : Bool} {W W' : World} {args : Array Value} {v : Value} {ds gs : List (DataW H)}
    (hW : DataW.Whole enc P f.params.toList s.vars apart W args.toList ds gs [])
    (hres : ∀ (b : Nat) (sp : Nat → Bool) (hd : Bool), DataW.TrodAll enc P W' b sp hd f.resultTypes.toList (v.resultList f.resultTypes.size) (s.fn H (ds ++ gs)).results [])
    (hargs : ∀ sp : Nat → Bool, DataW.TrodAll enc P W' 0 sp true f.params.toList args.toList (s.fn H (ds ++ gs)).args [])
    (hvars : ∀ sp : Nat → Bool, DataW.TrodVars enc P W' sp s.vars (s.fn H (ds ++ gs)).vars [])
    (hb : Below W.heap.size W W')
    (hok : ∀ (j : Nat) (t : TypeId) (r : Value), f.resultTypes[j]? = some t → (v.resultList f.resultTypes.size)[j]? = some r → Value.okWide P W' .any 0 t r) :
    s.post enc P f apart fresh handsOn again W args v W' :=
  ⟨ds, gs, [], [], [], [], hW, hres _ _ _, hargs _, hvars _, hb.frame _, fun _ => ⟨hok, _, _, [], ⟨[], [], ChangeShapes.trodAll_append (hargs _) (hres _ _ _), hvars _, rfl, (fun b off hp => by cases hp), fun _ => List.nodup_nil⟩, fun p hp _ => by cases hp⟩⟩
end
end Go.Ev
