/- Engine, part K: regions in the order of the text, code, calls: the evaluator and its soundness. -/
import Derived.Test.YtgbhmkdldfhamaaEvJ
import Derived.LoopNIn
import Derived.OrdersIn
namespace Go.Ev
noncomputable section
/-- The fence of a frame: whatever function, in a round or not. -/
def Fr (r : Option Nat) : Fence := { fn := fun _ => True, depth := none, alive := false, round := r }
theorem Fr_none : Fr none = Fence.wide := rfl
theorem callsIn_fr {r : Option Nat} {n : Nat} {P : Program} {f : FuncId} {args : Array Value} {w : World} {R : Ending → World → Prop} : CallsIn (Fr r) n P f args w R ↔ Calls P f args w R :=
  callsIn_wide (n := n)
def RO.get : RO → Option VV
  | .val v => some v
  | .chk b o => match b with | true => o.get | false => none
  | .ite b x y => match b with | true => x.get | false => y.get
  | .bad => none
theorem RNR_get {φ : Phi} {w : World} {r : Result Next} : ∀ {o : RO} {v : VV}, o.get = some v → RNR φ w r o → ∃ v', r = .ok (.value v') w ∧ VR φ v v'
  | .val u, v, h, k => by simp only [RO.get, Option.some.injEq] at h; subst h; exact k
  | .chk b o, v, h, k => by
    cases b with
    | true => exact RNR_get (o := o) h (k rfl)
    | false => simp [RO.get] at h
  | .ite b x y, v, h, k => by
    cases b with
    | true => exact RNR_get (by simpa [RO.get] using h) (k.1 rfl)
    | false => exact RNR_get (by simpa [RO.get] using h) (k.2 rfl)
  | .bad, v, h, _ => by simp [RO.get] at h
inductive Out1 where
  | val (v : VV) (H : VH)
  | enter (f : FuncId) (args : List VV)
  | bad
def Out.get : Out → Out1
  | .val v H => .val v H
  | .skip H => .val vundef H
  | .enter f args => .enter f args
  | .round _ _ => .bad
  | .chk b o => match b with | true => o.get | false => .bad
  | .ite b x y => match b with | true => x.get | false => y.get
  | .bad => .bad
/-- The class of an operation: 0: it hangs on its operands alone; 1: it reads memory; 2: it makes a variable; 3: any other. -/
def cls (P : Program) : Op → Nat
  | .move _ | .assign _ | .pick .. | .build .. | .nilCheck _ | .binOp .. | .unOp .. | .makeInterface .. | .makeFunc .. | .fieldAddr .. | .field .. | .indexAddr .. | .index .. | .extract .. | .typeAssert .. => 0
  | .slice .. | .load .. | .lookup .. => 1
  | .convert _ d _ => match P.underlying d with | some (.slice _) => 3 | _ => 1
  | .call c => match c.callee with
    | .builtin b => match b with
      | .len => 1
      | .min | .max => 0
      | _ => 3
    | _ => 3
  | .alloc _ => 2
  | _ => 3
def putD (nt : Nat) (a : VT) (d : Option Nat) (v : VV) : Option VT := match d with
  | some d => match Nat.blt d nt with
    | true => some (a.put d v)
    | false => none
  | none => some a
def wantedV (all : List Oper) (a : VT) : Option (Nat × Bool) → Bool
  | none => true
  | some (j, want) => match lget all j with
    | some o => match o.dst with
      | some d => match tget a d with
        | .bool b => match b with | true => want | false => !want
        | _ => false
      | none => false
    | none => false
inductive VX where
  | normal
  | ret
  | exit (id : Nat)
def VX.real : VX → Exit
  | .normal => .normal
  | .ret => .ret
  | .exit id => .exit id
abbrev FE := FuncId → List VV → VH → Option (VV × VH)
abbrev CE := Nat → Code → VT → VH → Option (VX × VT × VH)
def opRun (P : Program) (fe : FE) (op : Op) (a : VT) (H : VH) : Option (VV × VH) :=
  match cls P op with
  | 0 | 1 => match (evR P op a H).get with
    | some v => some (v, H)
    | none => none
  | _ => match (evE P op a H).get with
    | .val v H₁ => some (v, H₁)
    | .enter f args => fe f args H
    | .bad => none
def runOps (P : Program) (fe : FE) (nt : Nat) (all : List Oper) : List Oper → VT → VH → Option (VT × VH)
  | [], a, H => some (a, H)
  | o :: l, a, H => match wantedV all a o.guard with
    | true => match opRun P fe o.op a H with
      | some (v, H₁) => match putD nt a o.dst v with
        | some a₁ => runOps P fe nt all l a₁ H₁
        | none => none
      | none => none
    | false => match putD nt a o.dst vundef with
      | some a₁ => runOps P fe nt all l a₁ H
      | none => none
def stepC (P : Program) (draw : Nat → List Oper → VT → VH → Option (VT × VH)) (rc : CE) (fe : FE) : CE := fun nt c a H =>
  match c with
  | .skip => some (.normal, a, H)
  | .region _ ⟨ops⟩ false => match runOps P fe nt ops ops a H with
    | some (a, H) => some (.normal, a, H)
    | none => none
  | .region _ ⟨ops⟩ true => match draw nt ops a H with
    | some (a, H) => some (.normal, a, H)
    | none => none
  | .seq x y => match rc nt x a H with
    | some (.normal, a, H) => rc nt y a H
    | r => r
  | .cond c x y => match evOperand a c with
    | some (.bool b) => match b with
      | true => rc nt x a H
      | false => rc nt y a H
    | _ => none
  | .block id c => match rc nt c a H with
    | some (.exit j, a, H) => match Nat.beq j id with
      | true => some (.normal, a, H)
      | false => some (.exit j, a, H)
    | r => r
  | .loop c => match rc nt c a H with
    | some (.normal, a, H) => rc nt (.loop c) a H
    | r => r
  | .exit id => some (.exit id, a, H)
  | .ret => some (.ret, a, H)
  | _ => none
def listT : List VV → Nat → VT → VT
  | [], _, t => t
  | x :: l, i, t => listT l (i + 1) (t.put i x)
def resL (P : Program) (a : VT) (H : VH) : List ResultVar → Option (List VV)
  | [] => some []
  | .tmp t :: l => match resL P a H l with
    | some r => some (tget a t :: r)
    | none => none
  | .cell x t :: l => match tget a x with
    | .ptr (some ad) => match loadT P H t ad, resL P a H l with
      | some v, some r => some (v :: r)
      | _, _ => none
    | _ => none
def oneV : List VV → VV
  | [v] => v
  | l => .tuple l
def stepF (P : Program) (rc : CE) : FE := fun f args H =>
  match P.funcs[f]? with
  | some fn => match fn.body with
    | some c => match Nat.ble args.length fn.ntmps, Nat.ble fn.ntmps top with
      | true, true => match rc fn.ntmps c (listT args 0 .lf) H with
        | some (.exit _, _, _) => none
        | some (_, a, H) => match resL P a H fn.results.toList with
          | some l => some (oneV l, H)
          | none => none
        | none => none
      | _, _ => none
    | none => none
  | none => none

/-! ### soundness -/
def CallOK (P : Program) (w0 : World) (f : FuncId) (args : List VV) (H : VH) (Q : VV → VH → Prop) : Prop :=
  ∀ (φ : Phi) (w : World) (args' : List Value), VRs φ args args' → HSim w0 φ H w →
    Calls P f ⟨args'⟩ w fun e w' => ∃ v v' φ' H', e = .returned v' ∧ St φ w φ' w' ∧ VR φ' v v' ∧ HSim w0 φ' H' w' ∧ H'.base = H.base ∧ Q v H'
def FEok (P : Program) (fe : FE) : Prop := ∀ w0 f args H v H', fe f args H = some (v, H') → CallOK P w0 f args H fun u K => u = v ∧ K = H'
theorem putD_sound {φ : Phi} {nt : Nat} {a a₁ : VT} {act : Act} (ht : TR φ a act.tmps) (hn : nt ≤ act.tmps.size) (hb : nt ≤ top) {d : Option Nat} {v : VV} {v' : Value} (hv : VR φ v v') (h : putD nt a d v = some a₁) :
    TR φ a₁ (act.put d v').tmps ∧ (act.put d v').tmps.size = act.tmps.size ∧ (act.put d v').defers = act.defers := by
  cases d with
  | none => simp only [putD, Option.some.injEq] at h; subst h; exact ⟨ht, rfl, rfl⟩
  | some d =>
    simp only [putD] at h
    cases hd : Nat.blt d nt with
    | false => rw [hd] at h; cases h
    | true =>
      rw [hd] at h
      simp only [Option.some.injEq] at h
      subst h
      have hlt := lt_of_blt hd
      refine ⟨fun t => ?_, by simp [Act.put], rfl⟩
      by_cases e : t = d
      · subst e
        have : tget (a.put t v) t = v := by simp [tget, TT.get_put_same a t v (by omega)]
        rw [this]
        have e2 : (act.put (some t) v').tmps.getD t undef = v' := by
          simp only [Act.put, Array.getD_eq_getD_getElem?, Array.getElem?_setIfInBounds]
          simp [show t < act.tmps.size by omega]
        rw [e2]; exact hv
      · have : tget (a.put d v) t = tget a t := by simp [tget, TT.get_put_other a d t v e]
        rw [this]
        have e2 : (act.put (some d) v').tmps.getD t undef = act.tmps.getD t undef := by
          simp only [Act.put, Array.getD_eq_getD_getElem?, Array.getElem?_setIfInBounds]
          rw [if_neg (fun e' => e e'.symm)]
        rw [e2]; exact ht t
theorem VR_undef (φ : Phi) : VR φ vundef undef := VR_unit φ
theorem VR_bool_inv {φ : Phi} {x : VV} {b : Bool} (h : VR φ x (.bool b)) : x = .bool b := by
  cases x with
  | bool c => simp only [VR] at h; cases h; rfl
  | ptr p => cases p <;> simp [VR] at h
  | slice p l c => cases p <;> simp [VR] at h
  | map p => cases p <;> simp [VR] at h
  | _ => simp [VR] at h
theorem wantedV_sound {φ : Phi} {ops : List Oper} {a : VT} {act : Act} (ht : TR φ a act.tmps) (o : Oper) : Region.wanted o (yielded ⟨ops⟩ act.tmps) = wantedV ops a o.guard := by
  unfold Region.wanted wantedV
  cases hg : o.guard with
  | none => rfl
  | some jw =>
    obtain ⟨j, want⟩ := jw
    simp only [yielded]
    rw [lget_eq]
    have e0 : (⟨ops⟩ : Array Oper)[j]? = ops[j]? := by simp
    rw [e0]
    cases hj : ops[j]? with
    | none => rfl
    | some oj =>
      simp only [Option.bind_some]
      cases hd : oj.dst with
      | none => rfl
      | some d =>
        simp only [Option.bind_some]
        have hr := ht d
        have hget : act.tmps.getD d undef = (act.tmps[d]?).getD undef := by simp [Array.getD_eq_getD_getElem?]
        rw [hget] at hr
        cases hv : act.tmps[d]? with
        | none =>
          rw [hv] at hr
          simp only [Option.getD_none] at hr
          cases hx : tget a d with
          | bool b => rw [hx] at hr; simp [VR, undef] at hr
          | _ => rfl
        | some v =>
          rw [hv] at hr
          simp only [Option.getD_some] at hr
          cases v with
          | bool b =>
            rw [VR_bool_inv hr]
            cases b <;> cases want <;> rfl
          | _ =>
            cases hx : tget a d with
            | bool b => rw [hx] at hr; simp [VR] at hr
            | _ => rfl
/-- What holds behind code. -/
def PostC (w0 : World) (φ : Phi) (w : World) (sz : Nat) (H : VH) (x : VX) (a₁ : VT) (H₁ : VH) (e : Exit) (act' : Act) (w' : World) : Prop :=
  ∃ φ', e = x.real ∧ St φ w φ' w' ∧ TR φ' a₁ act'.tmps ∧ HSim w0 φ' H₁ w' ∧ H₁.base = H.base ∧ act'.tmps.size = sz ∧ act'.defers = []
theorem PostC.trans {w0 : World} {φ φ' : Phi} {w w' : World} {sz : Nat} {H H₁ H₂ : VH} {x : VX} {a₂ : VT} {e : Exit} {act' : Act} {w'' : World} (hs : St φ w φ' w') (hb : H₁.base = H.base) (h : PostC w0 φ' w' sz H₁ x a₂ H₂ e act' w'') : PostC w0 φ w sz H x a₂ H₂ e act' w'' := by
  obtain ⟨ψ, h1, h2, h3, h4, h5, h6, h7⟩ := h
  exact ⟨ψ, h1, hs.trans h2, h3, h4, h5.trans hb, h6, h7⟩
theorem Out_get {w0 : World} {φ : Phi} {H : VH} {w : World} {r : Result Next} : ∀ {o : Out}, OutR w0 φ H w r o → match o.get with
    | .val v H₁ => (∃ v' w₁ φ₁, r = .ok (.value v') w₁ ∧ St φ w φ₁ w₁ ∧ VR φ₁ v v' ∧ HSim w0 φ₁ H₁ w₁ ∧ H₁.base = H.base) ∨ (v = vundef ∧ ∃ w₁ φ₁, r = .ok .skip w₁ ∧ St φ w φ₁ w₁ ∧ HSim w0 φ₁ H₁ w₁ ∧ H₁.base = H.base)
    | .enter f args => ∃ args', r = .ok (.enter f ⟨args'⟩) w ∧ VRs φ args args'
    | .bad => True
  | .val v H₁, h => .inl h
  | .skip H₁, h => .inr ⟨rfl, h⟩
  | .enter f args, h => h
  | .round _ _, _ => trivial
  | .chk b o, h => by
    cases b with
    | true => exact Out_get (o := o) (h rfl)
    | false => exact trivial
  | .ite b x y, h => by
    cases b with
    | true => exact Out_get (o := x) (h.1 rfl)
    | false => exact Out_get (o := y) (h.2 rfl)
  | .bad, _ => trivial
/-- One operation. -/
theorem opRun_sound {P : Program} (hng : NoNG P) {fe : FE} (hfe : FEok P fe) {w0 : World} {φ : Phi} {w : World} {a : VT} {act : Act} {H : VH} (ht : TR φ a act.tmps) (hs : HSim w0 φ H w) {o : Oper} (hd : ∀ c, o.op ≠ .defer c) {v : VV} {H₁ : VH} (h : opRun P fe o.op a H = some (v, H₁))
    (r : Option Nat) (K : Act → World → Prop) (Q : Exit → Act → World → Prop)
    (hK : ∀ v' w₁ φ₁, St φ w φ₁ w₁ → VR φ₁ v v' → HSim w0 φ₁ H₁ w₁ → H₁.base = H.base → K (act.put o.dst v') w₁) : o.wpIn (Fr r) 0 P act w K Q := by
  refine ⟨fun _ _ => trivial, ?_⟩
  rw [show (Fr r).round = r from rfl, Oper.semAt_eq _ _ _ hd]
  have read : ∀ {u : VV}, (evR P o.op a H).get = some u → some (u, H) = some (v, H₁) → o.uponIn (Fr r) 0 P act K Q ((execOp act.eval o).run P w) := by
    intro u hu he
    simp only [Option.some.injEq, Prod.mk.injEq] at he
    obtain ⟨rfl, rfl⟩ := he
    obtain ⟨v', h1, h2⟩ := RNR_get hu (evR_sound ht hs o)
    rw [h1]
    exact hK v' w φ (.refl φ w) h2 hs rfl
  have write : (match (evE P o.op a H).get with
      | .val v H₁ => some (v, H₁)
      | .enter f args => fe f args H
      | .bad => none) = some (v, H₁) → o.uponIn (Fr r) 0 P act K Q ((execOp act.eval o).run P w) := by
    intro he
    have hg := Out_get (evE_sound hng ht hs o)
    cases hq : (evE P o.op a H).get with
    | val u K' =>
      rw [hq] at he hg
      simp only [Option.some.injEq, Prod.mk.injEq] at he
      obtain ⟨rfl, rfl⟩ := he
      simp only at hg
      rcases hg with ⟨v', w₁, φ₁, h1, h2, h3, h4, h5⟩ | ⟨rfl, w₁, φ₁, h1, h2, h3, h4⟩
      · rw [h1]; exact hK v' w₁ φ₁ h2 h3 h4 h5
      · rw [h1]; exact hK undef w₁ φ₁ h2 (VR_undef φ₁) h3 h4
    | enter f args =>
      rw [hq] at he hg
      simp only at he hg
      obtain ⟨args', h1, h2⟩ := hg
      rw [h1]
      refine ⟨(fun hx => by cases hx), ?_⟩
      refine callsIn_fr.2 ((hfe w0 f args H v H₁ he φ w args' h2 hs).mono ?_)
      rintro e w' ⟨u, v', φ', H', rfl, k1, k2, k3, k4, rfl, rfl⟩
      exact hK v' w' φ' k1 k2 k3 k4
    | bad => rw [hq] at he; cases he
  unfold opRun at h
  split at h
  · cases hg : (evR P o.op a H).get with
    | none => rw [hg] at h; cases h
    | some u => rw [hg] at h; exact read hg h
  · cases hg : (evR P o.op a H).get with
    | none => rw [hg] at h; cases h
    | some u => rw [hg] at h; exact read hg h
  · exact write h
theorem opRun_noDefer {P : Program} {fe : FE} {op : Op} {a : VT} {H : VH} {v : VV} {H₁ : VH} (h : opRun P fe op a H = some (v, H₁)) : ∀ c, op ≠ .defer c := by
  rintro c rfl
  simp [opRun, cls, evE, Out.get] at h
/-- Operations in the order of the text. -/
theorem runOps_sound {P : Program} (hng : NoNG P) {fe : FE} (hfe : FEok P fe) {w0 : World} {nt : Nat} (hb : nt ≤ top) {all : List Oper} (r : Option Nat) : ∀ (l pre : List Oper) (a : VT) (H : VH) (a₁ : VT) (H₁ : VH), all = pre ++ l → runOps P fe nt all l a H = some (a₁, H₁) →
    ∀ (φ : Phi) (act : Act) (w : World), TR φ a act.tmps → HSim w0 φ H w → nt ≤ act.tmps.size → act.defers = [] → ∀ (Q : Exit → Act → World → Prop), (∀ act' w', PostC w0 φ w act.tmps.size H .normal a₁ H₁ .normal act' w' → Q .normal act' w') →
    wpOpsIn (Fr r) 0 P ⟨all⟩ Q (List.range' pre.length l.length) act w := by
  intro l
  induction l with
  | nil =>
    intro pre a H a₁ H₁ _ h φ act w ht hs hn hdf Q hQ
    simp only [runOps, Option.some.injEq, Prod.mk.injEq] at h
    obtain ⟨rfl, rfl⟩ := h
    exact hQ act w ⟨φ, rfl, .refl φ w, ht, hs, rfl, rfl, hdf⟩
  | cons o l ih =>
    intro pre a H a₁ H₁ hall h φ act w ht hs hn hdf Q hQ
    have hget : (⟨all⟩ : Array Oper)[pre.length]? = some o := by simp [hall]
    simp only [List.length_cons, List.range'_succ, wpOpsIn, hget]
    have hwant := wantedV_sound (ops := all) ht o
    have hall' : all = (pre ++ [o]) ++ l := by simp [hall]
    have hlen : (pre ++ [o]).length = pre.length + 1 := by simp
    simp only [runOps] at h
    cases hw : wantedV all a o.guard with
    | true =>
      rw [hw] at h hwant
      rw [if_pos hwant]
      simp only at h
      cases hr : opRun P fe o.op a H with
      | none => rw [hr] at h; cases h
      | some vh =>
        obtain ⟨v, H'⟩ := vh
        rw [hr] at h
        simp only at h
        cases hp : putD nt a o.dst v with
        | none => rw [hp] at h; cases h
        | some a' =>
          rw [hp] at h
          simp only at h
          refine opRun_sound hng hfe ht hs (opRun_noDefer hr) hr r _ _ ?_
          intro v' w₁ φ₁ k1 k2 k3 k4
          obtain ⟨p1, p2, p3⟩ := putD_sound (ht.mono k1.le) hn hb k2 hp
          have := ih (pre ++ [o]) a' H' a₁ H₁ hall' h φ₁ (act.put o.dst v') w₁ p1 k3 (by omega) (by rw [p3]; exact hdf) Q (fun act' w' hp' => hQ act' w' (by rw [p2] at hp'; exact PostC.trans k1 k4 hp'))
          rwa [hlen] at this
    | false =>
      rw [hw] at h hwant
      rw [if_neg (by simp [hwant])]
      simp only at h
      refine ⟨fun _ _ => trivial, ?_⟩
      cases hp : putD nt a o.dst vundef with
      | none => rw [hp] at h; cases h
      | some a' =>
        rw [hp] at h
        simp only at h
        obtain ⟨p1, p2, p3⟩ := putD_sound ht hn hb (VR_undef φ) hp
        have := ih (pre ++ [o]) a' H a₁ H₁ hall' h φ (act.put o.dst undef) w p1 hs (by omega) (by rw [p3]; exact hdf) Q (fun act' w' hp' => hQ act' w' (by rw [p2] at hp'; exact hp'))
        rwa [hlen] at this
end
end Go.Ev
