/- Engine, part Pa: panics: an evaluator of code that may panic, and that it is sound. -/
import Derived.Test.YticgadnmlbfmfaaEvT
import Derived.Defers
import Derived.Recover
namespace Go.Ev
noncomputable section
/-- How code ends: as code does, or by a panic. -/
inductive PX where
  | x (x : VX)
  | pan (v : VV)
abbrev PCE := Nat → Code → VT → VH → Option (PX × VT × VH)
/-- A call: true: what it tells; false: what it panics with. -/
abbrev PFE := FuncId → List VV → VH → Option (Bool × VV × VH)
def isIf : VV → Bool | .iface _ _ => true | _ => false
def panOf (op : Op) (a : VT) : Option VV := match op with
  | .panic x => match evOperand a x with
    | some v => match isIf v with
      | true => some v
      | false => none
    | none => none
  | _ => none
def pEnter (P : Program) (op : Op) (a : VT) (H : VH) : Option (FuncId × List VV) := match op with
  | .call ⟨.value f, xs, ts⟩ => match (evE P (.call ⟨.value f, xs, ts⟩) a H).get with
    | .enter f args => some (f, args)
    | _ => none
  | _ => none
def pCall (P : Program) (pf : PFE) (op : Op) (a : VT) (H : VH) : Option (Bool × VV × VH) := match pEnter P op a H with
  | some (f, args) => pf f args H
  | none => none
def pStep (P : Program) (fe : FE) (pf : PFE) (op : Op) (a : VT) (H : VH) : Option (Bool × VV × VH) := match panOf op a with
  | some v => some (false, v, H)
  | none => match pCall P pf op a H with
    | some r => some r
    | none => match opRun P fe op a H with
      | some (v, H₁) => some (true, v, H₁)
      | none => none
def pOps (P : Program) (fe : FE) (pf : PFE) (nt : Nat) (all : List Oper) : List Oper → VT → VH → Option (PX × VT × VH)
  | [], a, H => some (.x .normal, a, H)
  | o :: l, a, H => match gOk all a o.guard with
    | false => none
    | true => match wantedV all a o.guard with
      | true => match pStep P fe pf o.op a H with
        | some (t, v, H₁) => match t with
          | true => match putD nt a o.dst v with
            | some a₁ => pOps P fe pf nt all l a₁ H₁
            | none => none
          | false => some (.pan v, a, H₁)
        | none => none
      | false => match putD nt a o.dst vundef with
        | some a₁ => pOps P fe pf nt all l a₁ H
        | none => none
def stepP (P : Program) (draw : DE) (fe : FE) (rc : PCE) (pf : PFE) : PCE := fun nt c a H =>
  match c with
  | .skip => some (.x .normal, a, H)
  | .region _ ⟨ops⟩ false => pOps P fe pf nt ops ops a H
  | .region _ ⟨ops⟩ true => match draw nt ops a H with
    | some (a, H) => some (.x .normal, a, H)
    | none => none
  | .seq x y => match rc nt x a H with
    | some (.x .normal, a, H) => rc nt y a H
    | r => r
  | .cond c x y => match evOperand a c with
    | some (.bool b) => match b with
      | true => rc nt x a H
      | false => rc nt y a H
    | _ => none
  | .block id c => match rc nt c a H with
    | some (.x (.exit j), a, H) => match Nat.beq j id with
      | true => some (.x .normal, a, H)
      | false => some (.x (.exit j), a, H)
    | r => r
  | .loop c => match rc nt c a H with
    | some (.x .normal, a, H) => rc nt (.loop c) a H
    | r => r
  | .exit id => some (.x (.exit id), a, H)
  | .ret => some (.x .ret, a, H)
  | .scope c => rc nt c a H
  | .label _ => some (.x .normal, a, H)
  | _ => none
def stepPF (mp : List FuncId) (P : Program) (rc : PCE) : PFE := fun f args H => match memN f mp with
  | false => none
  | true => match P.funcs[f]? with
    | some fn => match fn.body with
      | some c => match Nat.ble args.length fn.ntmps, Nat.ble fn.ntmps top with
        | true, true => match rc fn.ntmps c (listT args 0 .lf) H with
          | some (.x (.exit _), _, _) => none
          | some (.x _, a, H) => match resL P a H fn.results.toList with
            | some l => some (true, oneV l, H)
            | none => none
          | some (.pan v, _, H) => some (false, v, H)
          | none => none
        | _, _ => none
      | none => none
    | none => none
def pN (P : Program) (dr : DE) (fe : FE) (mp : List FuncId) (n : Nat) : PCE × PFE :=
  Nat.rec (fun _ _ _ _ => none, fun _ _ _ => none) (fun _ ih => (stepP P dr fe ih.1 ih.2, stepPF mp P ih.1)) n

/-! ### soundness -/
def chain1 (v : Value) : List PanicEntry := [{ v := v, recovered := false }]
def XR (φ : Phi) : PX → Exit → Prop
  | .x x, e => e = x.real
  | .pan v, e => ∃ v', e = .panic (chain1 v') ∧ VR φ v v'
def endR (t : Bool) (v : Value) : Ending := match t with | true => .returned v | false => .panicked (chain1 v)
def PostD [Ext] (w0 : World) (φ : Phi) (w : World) (sz : Nat) (H : VH) (D : List Deferred) (x : PX) (a₁ : VT) (H₁ : VH) (e : Exit) (act' : Act) (w' : World) : Prop :=
  ∃ φ', XR φ' x e ∧ St φ w φ' w' ∧ TR φ' a₁ act'.tmps ∧ HSim w0 φ' H₁ w' ∧ H₁.base = H.base ∧ act'.tmps.size = sz ∧ act'.defers = D
theorem PostD.trans [Ext] {w0 : World} {φ φ' : Phi} {w w' : World} {sz : Nat} {H H₁ H₂ : VH} {D : List Deferred} {x : PX} {a₂ : VT} {e : Exit} {act' : Act} {w'' : World} (hs : St φ w φ' w') (hb : H₁.base = H.base) (h : PostD w0 φ' w' sz H₁ D x a₂ H₂ e act' w'') : PostD w0 φ w sz H D x a₂ H₂ e act' w'' := by
  obtain ⟨ψ, h1, h2, h3, h4, h5, h6, h7⟩ := h
  exact ⟨ψ, h1, hs.trans h2, h3, h4, h5.trans hb, h6, h7⟩
def PCok [Ext] (P : Program) (DD : List Deferred → Prop) (ce : PCE) : Prop := ∀ w0 nt c a H x a₁ H₁, ce nt c a H = some (x, a₁, H₁) → nt ≤ top → ∀ (φ : Phi) (act : Act) (w : World), TR φ a act.tmps → HSim w0 φ H w → nt ≤ act.tmps.size → DD act.defers →
  c.wpIn (Fr none) 0 P (PostD w0 φ w act.tmps.size H act.defers x a₁ H₁) act w
def PDok [Ext] (P : Program) (DD : List Deferred → Prop) (de : DE) : Prop := ∀ w0 nt id ops a H a₁ H₁, de nt ops a H = some (a₁, H₁) → nt ≤ top → ∀ (φ : Phi) (act : Act) (w : World), TR φ a act.tmps → HSim w0 φ H w → nt ≤ act.tmps.size → DD act.defers →
  (Code.region id ⟨ops⟩ true).wpIn (Fr none) 0 P (PostD w0 φ w act.tmps.size H act.defers (.x .normal) a₁ H₁) act w
def CallPOK [Ext] (P : Program) (w0 : World) (f : FuncId) (args : List VV) (H : VH) (t : Bool) (v : VV) (H' : VH) : Prop :=
  ∀ (φ : Phi) (w : World) (args' : List Value), VRs φ args args' → HSim w0 φ H w →
    Calls P f ⟨args'⟩ w fun e w' => ∃ v' φ', e = endR t v' ∧ St φ w φ' w' ∧ VR φ' v v' ∧ HSim w0 φ' H' w' ∧ H'.base = H.base
def PFok [Ext] (P : Program) (pf : PFE) : Prop := ∀ w0 f args H t v H', pf f args H = some (t, v, H') → CallPOK P w0 f args H t v H'
theorem PDok_nil [Ext] {P : Program} {de : DE} (h : DEok P de) : PDok P (· = []) de := by
  intro w0 nt id ops a H a₁ H₁ hd hn φ act w ht hs hz hD
  refine wpIn_mono (h w0 nt id ops a H a₁ H₁ hd hn none φ act w ht hs hz (fun _ => False) (by rw [hD]; exact .nil)) ?_
  rintro e act' w' ⟨φ', k1, k2, k3, k4, k5, k6, ⟨rs, m1, m2, m3⟩⟩
  refine ⟨φ', k1, k2, k3, k4, k5, k6, ?_⟩
  cases rs with
  | nil => rw [hD]; exact m1
  | cons r rs => exact (m3 r (by simp)).1.elim
theorem PDok_none [Ext] {P : Program} : PDok P (fun _ => True) (fun _ _ _ _ => none) := fun _ _ _ _ _ _ _ _ h => by cases h
section
variable {P : Program}
theorem pStep_sound [Ext] (hng : NoNG P) {fe : FE} (hfe : FEok P fe) {pf : PFE} (hpf : PFok P pf) {w0 : World} {φ : Phi} {w : World} {a : VT} {act : Act} {H : VH} (ht : TR φ a act.tmps) (hs : HSim w0 φ H w) {o : Oper} {t : Bool} {v : VV} {H₁ : VH} (h : pStep P fe pf o.op a H = some (t, v, H₁))
    (K : Act → World → Prop) (Q : Exit → Act → World → Prop)
    (hK : ∀ v' w₁ φ₁, St φ w φ₁ w₁ → VR φ₁ v v' → HSim w0 φ₁ H₁ w₁ → H₁.base = H.base → match t with | true => K (act.put o.dst v') w₁ | false => Q (.panic (chain1 v')) act w₁) : o.wpIn (Fr none) 0 P act w K Q := by
  unfold pStep at h
  split at h
  · rename_i u hu
    simp only [Option.some.injEq, Prod.mk.injEq] at h
    obtain ⟨rfl, rfl, rfl⟩ := h
    obtain ⟨dst, op, type, pos, after, guard⟩ := o
    unfold panOf at hu
    split at hu
    · rename_i op x hop
      simp only at hop
      subst hop
      cases hx : evOperand a x with
      | none => rw [hx] at hu; cases hu
      | some y =>
        rw [hx] at hu
        simp only at hu
        cases y with
        | iface T z =>
          simp only [isIf, Option.some.injEq] at hu
          subst hu
          have hv := evOperand_sound ht hx
          simp only [VR] at hv
          obtain ⟨z', hz2, hz⟩ := hv
          refine ⟨fun _ _ => trivial, ?_⟩
          rw [show (Fr none).round = none from rfl, Oper.semAt_eq _ _ _ (by intro c e; cases e)]
          have hr : (execOp act.eval ⟨dst, .panic x, type, pos, after, guard⟩).run P w = .halt (.panic (.iface T z')) w := by
            simp only [execOp, hz, Instr.panic]
            rfl
          rw [hr]
          exact hK (.iface T z') w φ (.refl φ w) (by simp only [VR]; exact ⟨z', hz2, rfl⟩) hs rfl
        | _ => simp [isIf] at hu
    · cases hu
  · split at h
    · rename_i r hr
      simp only [Option.some.injEq] at h
      subst h
      unfold pCall at hr
      split at hr
      · rename_i f args he
        unfold pEnter at he
        split at he
        · rename_i op g xs ts hop
          split at he
          · rename_i f' args' hg
            simp only [Option.some.injEq, Prod.mk.injEq] at he
            obtain ⟨rfl, rfl⟩ := he
            have hgo := Out_get (evE_sound hng ht hs o)
            rw [hop, hg] at hgo
            simp only at hgo
            obtain ⟨args'', h1, h2⟩ := hgo
            refine ⟨fun _ _ => trivial, ?_⟩
            rw [show (Fr none).round = none from rfl, Oper.semAt_eq _ _ _ (by intro c e; rw [hop] at e; cases e), h1]
            refine ⟨(fun hx => by cases hx), ?_⟩
            refine callsIn_fr.2 ((hpf w0 _ _ H t v H₁ hr φ w args'' h2 hs).mono ?_)
            rintro e w' ⟨v', φ', rfl, k1, k2, k3, k4⟩
            have := hK v' w' φ' k1 k2 k3 k4
            cases t with
            | true => exact this
            | false => exact this
          · cases he
        · cases he
      · cases hr
    · split at h
      · rename_i v1 H1 hr
        simp only [Option.some.injEq, Prod.mk.injEq] at h
        obtain ⟨rfl, rfl, rfl⟩ := h
        exact opRun_sound hng hfe ht hs (opRun_noDefer hr) hr none K Q hK
      · cases h
theorem pOps_sound [Ext] (hng : NoNG P) {fe : FE} (hfe : FEok P fe) {pf : PFE} (hpf : PFok P pf) {w0 : World} {nt : Nat} (hb : nt ≤ top) {all : List Oper} : ∀ (l pre : List Oper) (a : VT) (H : VH) (x : PX) (a₁ : VT) (H₁ : VH), all = pre ++ l → pOps P fe pf nt all l a H = some (x, a₁, H₁) →
    ∀ (φ : Phi) (act : Act) (w : World), TR φ a act.tmps → HSim w0 φ H w → nt ≤ act.tmps.size → ∀ (Q : Exit → Act → World → Prop), (∀ e act' w', PostD w0 φ w act.tmps.size H act.defers x a₁ H₁ e act' w' → Q e act' w') →
    wpOpsIn (Fr none) 0 P ⟨all⟩ Q (List.range' pre.length l.length) act w := by
  intro l
  induction l with
  | nil =>
    intro pre a H x a₁ H₁ _ h φ act w ht hs hn Q hQ
    simp only [pOps, Option.some.injEq, Prod.mk.injEq] at h
    obtain ⟨rfl, rfl, rfl⟩ := h
    exact hQ _ act w ⟨φ, rfl, .refl φ w, ht, hs, rfl, rfl, rfl⟩
  | cons o l ih =>
    intro pre a H x a₁ H₁ hall h φ act w ht hs hn Q hQ
    have hget : (⟨all⟩ : Array Oper)[pre.length]? = some o := by simp [hall]
    simp only [List.length_cons, List.range'_succ, wpOpsIn, hget]
    have hall' : all = (pre ++ [o]) ++ l := by simp [hall]
    have hlen : (pre ++ [o]).length = pre.length + 1 := by simp
    simp only [pOps] at h
    cases hgo : gOk all a o.guard with
    | false => rw [hgo] at h; cases h
    | true =>
    rw [hgo] at h
    simp only at h
    have hwant := wantedV_sound (ops := all) ht o hgo
    cases hw : wantedV all a o.guard with
    | true =>
      rw [hw] at h hwant
      rw [if_pos hwant]
      simp only at h
      cases hr : pStep P fe pf o.op a H with
      | none => rw [hr] at h; cases h
      | some vh =>
        obtain ⟨t, v, H'⟩ := vh
        rw [hr] at h
        simp only at h
        refine pStep_sound hng hfe hpf ht hs hr _ _ ?_
        intro v' w₁ φ₁ k1 k2 k3 k4
        cases t with
        | true =>
          simp only at h ⊢
          cases hp : putD nt a o.dst v with
          | none => rw [hp] at h; cases h
          | some a' =>
            rw [hp] at h
            simp only at h
            obtain ⟨p1, p2, p3⟩ := putD_sound (ht.mono k1.le) hn hb k2 hp
            have := ih (pre ++ [o]) a' H' x a₁ H₁ hall' h φ₁ (act.put o.dst v') w₁ p1 k3 (by omega) Q (fun e act' w' hp' => hQ e act' w' (by rw [p2, p3] at hp'; exact PostD.trans k1 k4 hp'))
            rwa [hlen] at this
        | false =>
          simp only [Option.some.injEq, Prod.mk.injEq] at h ⊢
          obtain ⟨rfl, rfl, rfl⟩ := h
          exact hQ _ act w₁ ⟨φ₁, ⟨v', rfl, k2⟩, k1, ht.mono k1.le, k3, k4, rfl, rfl⟩
    | false =>
      rw [hw] at h hwant
      rw [if_neg (by simp [hwant])]
      simp only at h
      refine ⟨fun _ _ => trivial, ?_⟩
      cases hp : putD nt a o.dst vundef with
      | none => rw [hp] at h; cases h
      | some a' =>
        rw [hp] at h
        simp only at h
        obtain ⟨p1, p2, p3⟩ := putD_sound ht hn hb (VR_undef φ) hp
        have := ih (pre ++ [o]) a' H x a₁ H₁ hall' h φ (act.put o.dst undef) w p1 hs (by omega) Q (fun e act' w' hp' => hQ e act' w' (by rw [p2, p3] at hp'; exact hp'))
        rwa [hlen] at this
end
end
end Go.Ev
