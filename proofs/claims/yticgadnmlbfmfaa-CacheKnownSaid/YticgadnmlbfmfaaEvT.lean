/- Engine, part T: what the evaluator says holds of the program. -/
import Derived.Test.YticgadnmlbfmfaaEvS
import Derived.Below
import Derived.ProofKit
import Derived.OpenShut
namespace Go.Ev
open Go.RowKit
noncomputable section
section
theorem evF_ok [Ext] {P : Program} (hng : NoNG P) (hm : P.follows .mixedOrders = true) {kn : KN} (hk : KnOK P kn) (n : Nat) : FEok P (evN P (drawRun P) kn n).2 :=
  (evN_sound hng (fun _ h => drawRun_sound hng hm h) hk n).2.2
theorem kn0_ok [Ext] (P : Program) : KnOK P kn0 := fun _ _ _ _ _ _ h => by cases h
/-- What leaves the world below as it was. -/
theorem HSim.below [Ext] {w0 : World} {φ : Phi} {H : VH} {w w' : World} (h : HSim w0 φ H w) (hb : Below w.heap.size w w') : HSim w0 φ H w' := by
  have same := hb.block
  have hsz := h.oldSize
  refine ⟨h.env, fun r b hr => ?_, fun k hk => ?_, h.own, h.small, fun i o hi => ?_, h.inj, h.fresh, fun i inf hi => ?_⟩
  · obtain ⟨o, h1, h2⟩ := h.base r b hr
    exact ⟨o, by rw [same r (Array.getElem?_eq_some_iff.1 h1).1]; exact h1, h2⟩
  · rw [same k (by omega)]; exact h.old k hk
  · obtain ⟨inf, o', h1, h2, h3, h4⟩ := h.live i o hi
    exact ⟨inf, o', h1, by rw [same _ (h.bound i inf h1)]; exact h2, h3, h4⟩
  · have := h.bound i inf hi; have := hb.size; omega
theorem St.below {φ : Phi} {w w' : World} (hb : Below w.heap.size w w') : St φ w φ w' :=
  ⟨φ.le_refl, ⟨hb.os, hb.tape, hb.output, hb.size⟩, fun k hk _ => hb.block k hk, fun i inf hi => .inl ⟨i, inf, hi, rfl⟩⟩
theorem knT_ok [Ext] {P : Program} {K : List FuncId} (hK : ∀ f ∈ K, ∀ w : World, Calls P f #[] w fun e w' => e = .returned (.bool true) ∧ Below w.heap.size w w') : KnOK P (knT K) := by
  intro w0 f args H v H' h
  unfold knT at h
  split at h
  · rename_i hm
    cases h
    intro φ w args' ha hs
    simp only [VRs] at ha
    subst ha
    refine (hK f (memN_iff.1 hm) w).mono ?_
    rintro e w' ⟨rfl, hb⟩
    exact ⟨.bool true, .bool true, φ, H, rfl, St.below hb, by simp [VR], hs.below hb, rfl, rfl, rfl⟩
  · cases h
end
def rho0 : Rho := ⟨fun _ => 0, fun _ => .nilIface, fun _ => 0, fun _ => 0, fun _ => rfl, fun _ => [], fun _ _ h => by cases h⟩
def phi0 : Phi := ⟨fun _ => none, rho0⟩
/-- Where nothing is said besides. -/
instance extNone : Ext := ⟨fun _ _ => True⟩
section
theorem HSim.startE [Ext] {w : World} {ρ : Rho} {E : Env} (h : EnvOK E ⟨fun _ => none, ρ⟩ w) (hb : ∀ r b, E.blk r = some b → ∃ o, w.heap[r]? = some o ∧ BOR b o) : HSim w ⟨fun _ => none, ρ⟩ ⟨E, .lf, 0⟩ w :=
  ⟨h, hb, (fun _ _ => rfl), (fun i inf h => by cases h), Nat.zero_le _, (fun i o h => by cases h), (fun i j oi oj inf jnf h => by cases h), (fun _ _ => rfl), (fun i inf h => by cases h)⟩
theorem below_of [Ext] {w w' : World} {φ φ' : Phi} {H : VH} (hs : St φ w φ' w') (h : HSim w φ' H w') : Below w.heap.size w w' :=
  ⟨hs.wk.os, hs.wk.tape, hs.wk.output, hs.wk.size, h.old⟩
end
theorem HSim.start (w : World) : HSim w phi0 ⟨Env.none, .lf, 0⟩ w :=
  HSim.startE ⟨trivial, fun _ => ⟨Int.le_refl _, Int.le_refl _⟩, (fun f h => by cases h), (fun i c h => by cases h)⟩ (fun r b h => by cases h)
theorem runV_calls {P : Program} (hng : NoNG P) (hm : P.follows .mixedOrders = true) {n : Nat} {f : FuncId} (h : runV P n f = true) (w : World) :
    Calls P f #[] w fun e w' => e = .returned (.bool true) ∧ Below w.heap.size w w' := by
  unfold runV at h
  cases hr : (evN P (drawRun P) kn0 n).2.call f [] ⟨Env.none, .lf, 0⟩ with
  | none => rw [hr] at h; cases h
  | some vh =>
    obtain ⟨v, H'⟩ := vh
    rw [hr] at h
    have hc := (evF_ok hng hm (kn0_ok P) n).call w f [] ⟨Env.none, .lf, 0⟩ v H' hr phi0 w [] (by simp [VRs]) (HSim.start w)
    refine hc.mono ?_
    rintro e w' ⟨u, v', φ', H'', rfl, k1, k2, k3, _, rfl, rfl⟩
    cases u with
    | bool b =>
      have hb : b = true := h
      subst hb
      simp only [VR] at k2
      subst k2
      exact ⟨rfl, below_of k1 k3⟩
    | _ => cases h
theorem runK_calls {P : Program} (hng : NoNG P) (hm : P.follows .mixedOrders = true) {K : List FuncId} (hK : ∀ f ∈ K, ∀ w : World, Calls P f #[] w fun e w' => e = .returned (.bool true) ∧ Below w.heap.size w w') {n : Nat} {f : FuncId} (h : runK P K n f = true) (w : World) :
    Calls P f #[] w fun e w' => e = .returned (.bool true) ∧ Below w.heap.size w w' := by
  unfold runK at h
  cases hr : (evN P (drawRun P) (knT K) n).2.call f [] ⟨Env.none, .lf, 0⟩ with
  | none => rw [hr] at h; cases h
  | some vh =>
    obtain ⟨v, H'⟩ := vh
    rw [hr] at h
    have hc := (evF_ok hng hm (knT_ok hK) n).call w f [] ⟨Env.none, .lf, 0⟩ v H' hr phi0 w [] (by simp [VRs]) (HSim.start w)
    refine hc.mono ?_
    rintro e w' ⟨u, v', φ', H'', rfl, k1, k2, k3, _, rfl, rfl⟩
    cases u with
    | bool b =>
      have hb : b = true := h
      subst hb
      simp only [VR] at k2
      subst k2
      exact ⟨rfl, below_of k1 k3⟩
    | _ => cases h
/-- No function asks how many goroutines there are: as the kernel can reckon it. -/
def noNGb (P : Program) : Bool := P.funcs.toList.all fun fn => !(fn.name == "runtime.NumGoroutine")
theorem noNG_of {P : Program} (h : noNGb P = true) : NoNG P := by
  intro g fn hg
  have := List.all_eq_true.1 h fn (by
    have := Array.mem_of_getElem? hg
    simpa using this)
  simpa using this
/-- What a row asks behind a call that was given no memory. -/
theorem post_of_below {H : Type} {enc : TypeId × Value → H} {P : Program} {f : Func} {s : ChangeSpec} {apart fresh handsOn again : Bool} {W W' : World} {args : Array Value} {v : Value} {ds gs : List (DataW H)}
    (hW : DataW.Whole enc P f.params.toList s.vars apart W args.toList ds gs [])
    (hres : ∀ (b : Nat) (sp : Nat → Bool) (hd : Bool), DataW.TrodAll enc P W' b sp hd f.resultTypes.toList (v.resultList f.resultTypes.size) (s.fn H (ds ++ gs)).results [])
    (hargs : ∀ sp : Nat → Bool, DataW.TrodAll enc P W' 0 sp true f.params.toList args.toList (s.fn H (ds ++ gs)).args [])
    (hvars : ∀ sp : Nat → Bool, DataW.TrodVars enc P W' sp s.vars (s.fn H (ds ++ gs)).vars [])
    (hb : Below W.heap.size W W')
    (hok : ∀ (j : Nat) (t : TypeId) (r : Value), f.resultTypes[j]? = some t → (v.resultList f.resultTypes.size)[j]? = some r → Value.okWide P W' .any 0 t r) :
    s.post enc P f apart fresh handsOn again W args v W' :=
  ⟨ds, gs, [], [], [], [], hW, hres _ _ _, hargs _, hvars _, hb.frame _, fun _ => ⟨hok, _, _, [], ⟨[], [], ChangeShapes.trodAll_append (hargs _) (hres _ _ _), hvars _, rfl, (fun b off hp => by cases hp), fun _ => List.nodup_nil⟩, fun p hp _ => by cases hp⟩⟩
end
end Go.Ev
