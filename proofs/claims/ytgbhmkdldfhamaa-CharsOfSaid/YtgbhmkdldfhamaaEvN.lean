/- Engine, part K: regions in the order of the text, code, calls: the evaluator and its soundness. -/
import Derived.Test.YtgbhmkdldfhamaaEvJ
import Derived.LoopNIn
import Derived.OrdersIn
namespace Go.Ev
noncomputable section
/-- The fence of a frame: whatever function, in a round or not. -/
def Fr (r : Option Nat) : Fence := { fn := fun _ => True, depth := none, alive := false, round := r }
theorem Fr_none : Fr none = Fence.wide := rfl
theorem callsIn_fr {r : Option Nat} {n : Nat} {P : Program} {f : FuncId} {args : Array Value} {w : World} {R : Ending → World → Prop} : CallsIn (Fr r) n P f args w R ↔ Calls P f args w R :=
  callsIn_wide (n := n)
def RO.get : RO → Option VV
  | .val v => some v
  | .chk b o => match b with | true => o.get | false => none
  | .ite b x y => match b with | true => x.get | false => y.get
  | .bad => none
theorem RNR_get {φ : Phi} {w : World} {r : Result Next} : ∀ {o : RO} {v : VV}, o.get = some v → RNR φ w r o → ∃ v', r = .ok (.value v') w ∧ VR φ v v'
  | .val u, v, h, k => by simp only [RO.get, Option.some.injEq] at h; subst h; exact k
  | .chk b o, v, h, k => by
    cases b with
    | true => exact RNR_get (o := o) h (k rfl)
    | false => simp [RO.get] at h
  | .ite b x y, v, h, k => by
    cases b with
    | true => exact RNR_get (by simpa [RO.get] using h) (k.1 rfl)
    | false => exact RNR_get (by simpa [RO.get] using h) (k.2 rfl)
  | .bad, v, h, _ => by simp [RO.get] at h
inductive Out1 where
  | val (v : VV) (H : VH)
  | enter (f : FuncId) (args : List VV)
  | bad
def Out.get : Out → Out1
  | .val v H => .val v H
  | .skip H => .val vundef H
  | .enter f args => .enter f args
  | .round _ _ => .bad
  | .chk b o => match b with | true => o.get | false => .bad
  | .ite b x y => match b with | true => x.get | false => y.get
  | .bad => .bad
/-- The class of an operation: 0: it hangs on its operands alone; 1: it reads memory; 2: it makes a variable; 3: any other. -/
def cls (P : Program) : Op → Nat
  | .move _ | .assign _ | .pick .. | .build .. | .nilCheck _ | .binOp .. | .unOp .. | .makeInterface .. | .makeFunc .. | .fieldAddr .. | .field .. | .indexAddr .. | .index .. | .extract .. | .typeAssert .. => 0
  | .slice .. | .load .. | .lookup .. => 1
  | .convert _ d _ => match P.underlying d with | some (.slice _) => 3 | _ => 1
  | .call c => match c.callee with
    | .builtin b => match b with
      | .len => 1
      | .min | .max => 0
      | _ => 3
    | _ => 3
  | .alloc _ => 2
  | _ => 3
def putD (nt : Nat) (a : VT) (d : Option Nat) (v : VV) : Option VT := match d with
  | some d => match Nat.blt d nt with
    | true => some (a.put d v)
    | false => none
  | none => some a
def wantedV (all : List Oper) (a : VT) : Option (Nat × Bool) → Bool
  | none => true
  | some (j, want) => match lget all j with
    | some o => match o.dst with
      | some d => match tget a d with
        | .bool b => match b with | true => want | false => !want
        | _ => false
      | none => false
    | none => false
inductive VX where
  | normal
  | ret
  | exit (id : Nat)
def VX.real : VX → Exit
  | .normal => .normal
  | .ret => .ret
  | .exit id => .exit id
abbrev FE := FuncId → List VV → VH → Option (VV × VH)
abbrev CE := Nat → Code → VT → VH → Option (VX × VT × VH)
def opRun (P : Program) (fe : FE) (op : Op) (a : VT) (H : VH) : Option (VV × VH) :=
  match cls P op with
  | 0 | 1 => match (evR P op a H).get with
    | some v => some (v, H)
    | none => none
  | _ => match (evE P op a H).get with
    | .val v H₁ => some (v, H₁)
    | .enter f args => fe f args H
    | .bad => none
def runOps (P : Program) (fe : FE) (nt : Nat) (all : List Oper) : List Oper → VT → VH → Option (VT × VH)
  | [], a, H => some (a, H)
  | o :: l, a, H => match wantedV all a o.guard with
    | true => match opRun P fe o.op a H with
      | some (v, H₁) => match putD nt a o.dst v with
        | some a₁ => runOps P fe nt all l a₁ H₁
        | none => none
      | none => none
    | false => match putD nt a o.dst vundef with
      | some a₁ => runOps P fe nt all l a₁ H
      | none => none
def stepC (P : Program) (draw : Nat → List Oper → VT → VH → Option (VT × VH)) (rc : CE) (fe : FE) : CE := fun nt c a H =>
  match c with
  | .skip => some (.normal, a, H)
  | .region _ ⟨ops⟩ false => match runOps P fe nt ops ops a H with
    | some (a, H) => some (.normal, a, H)
    | none => none
  | .region _ ⟨ops⟩ true => match draw nt ops a H with
    | some (a, H) => some (.normal, a, H)
    | none => none
  | .seq x y => match rc nt x a H with
    | some (.normal, a, H) => rc nt y a H
    | r => r
  | .cond c x y => match evOperand a c with
    | some (.bool b) => match b with
      | true => rc nt x a H
      | false => rc nt y a H
    | _ => none
  | .block id c => match rc nt c a H with
    | some (.exit j, a, H) => match Nat.beq j id with
      | true => some (.normal, a, H)
      | false => some (.exit j, a, H)
    | r => r
  | .loop c => match rc nt c a H with
    | some (.normal, a, H) => rc nt (.loop c) a H
    | r => r
  | .exit id => some (.exit id, a, H)
  | .ret => some (.ret, a, H)
  | _ => none
def listT : List VV → Nat → VT → VT
  | [], _, t => t
  | x :: l, i, t => listT l (i + 1) (t.put i x)
def resL (P : Program) (a : VT) (H : VH) : List ResultVar → Option (List VV)
  | [] => some []
  | .tmp t :: l => match resL P a H l with
    | some r => some (tget a t :: r)
    | none => none
  | .cell x t :: l => match tget a x with
    | .ptr (some ad) => match loadT P H t ad, resL P a H l with
      | some v, some r => some (v :: r)
      | _, _ => none
    | _ => none
def oneV : List VV → VV
  | [v] => v
  | l => .tuple l
def stepF (P : Program) (rc : CE) : FE := fun f args H =>
  match P.funcs[f]? with
  | some fn => match fn.body with
    | some c => match Nat.ble args.length fn.ntmps, Nat.ble fn.ntmps top with
      | true, true => match rc fn.ntmps c (listT args 0 .lf) H with
        | some (.exit _, _, _) => none
        | some (_, a, H) => match resL P a H fn.results.toList with
          | some l => some (oneV l, H)
          | none => none
        | none => none
      | _, _ => none
    | none => none
  | none => none

/-! ### soundness -/
def CallOK (P : Program) (w0 : World) (f : FuncId) (args : List VV) (H : VH) (Q : VV → VH → Prop) : Prop :=
  ∀ (φ : Phi) (w : World) (args' : List Value), VRs φ args args' → HSim w0 φ H w →
    Calls P f ⟨args'⟩ w fun e w' => ∃ v v' φ' H', e = .returned v' ∧ St φ w φ' w' ∧ VR φ' v v' ∧ HSim w0 φ' H' w' ∧ H'.base = H.base ∧ Q v H'
def FEok (P : Program) (fe : FE) : Prop := ∀ w0 f args H v H', fe f args H = some (v, H') → CallOK P w0 f args H fun u K => u = v ∧ K = H'
theorem putD_sound {φ : Phi} {nt : Nat} {a a₁ : VT} {act : Act} (ht : TR φ a act.tmps) (hn : nt ≤ act.tmps.size) (hb : nt ≤ top) {d : Option Nat} {v : VV} {v' : Value} (hv : VR φ v v') (h : putD nt a d v = some a₁) :
    TR φ a₁ (act.put d v').tmps ∧ (act.put d v').tmps.size = act.tmps.size ∧ (act.put d v').defers = act.defers := by
  cases d with
  | none => simp only [putD, Option.some.injEq] at h; subst h; exact ⟨ht, rfl, rfl⟩
  | some d =>
    simp only [putD] at h
    cases hd : Nat.blt d nt with
    | false => rw [hd] at h; cases h
    | true =>
      rw [hd] at h
      simp only [Option.some.injEq] at h
      subst h
      have hlt := lt_of_blt hd
      refine ⟨fun t => ?_, by simp [Act.put], rfl⟩
      by_cases e : t = d
      · subst e
        have : tget (a.put t v) t = v := by simp [tget, TT.get_put_same a t v (by omega)]
        rw [this]
        have e2 : (act.put (some t) v').tmps.getD t undef = v' := by
          simp only [Act.put, Array.getD_eq_getD_getElem?, Array.getElem?_setIfInBounds]
          simp [show t < act.tmps.size by omega]
        rw [e2]; exact hv
      · have : tget (a.put d v) t = tget a t := by simp [tget, TT.get_put_other a d t v e]
        rw [this]
        have e2 : (act.put (some d) v').tmps.getD t undef = act.tmps.getD t undef := by
          simp only [Act.put, Array.getD_eq_getD_getElem?, Array.getElem?_setIfInBounds]
          rw [if_neg (fun e' => e e'.symm)]
        rw [e2]; exact ht t
theorem VR_undef (φ : Phi) : VR φ vundef undef := VR_unit φ
theorem VR_bool_inv {φ : Phi} {x : VV} {b : Bool} (h : VR φ x (.bool b)) : x = .bool b := by
  cases x with
  | bool c => simp only [VR] at h; cases h; rfl
  | ptr p => cases p <;> simp [VR] at h
  | slice p l c => cases p <;> simp [VR] at h
  | map p => cases p <;> simp [VR] at h
  | _ => simp [VR] at h
theorem wantedV_sound {φ : Phi} {ops : List Oper} {a : VT} {act : Act} (ht : TR φ a act.tmps) (o : Oper) : Region.wanted o (yielded ⟨ops⟩ act.tmps) = wantedV ops a o.guard := by
  unfold Region.wanted wantedV
  cases hg : o.guard with
  | none => rfl
  | some jw =>
    obtain ⟨j, want⟩ := jw
    simp only [yielded]
    rw [lget_eq]
    have e0 : (⟨ops⟩ : Array Oper)[j]? = ops[j]? := by simp
    rw [e0]
    cases hj : ops[j]? with
    | none => rfl
    | some oj =>
      simp only [Option.bind_some]
      cases hd : oj.dst with
      | none => rfl
      | some d =>
        simp only [Option.bind_some]
        have hr := ht d
        have hget : act.tmps.getD d undef = (act.tmps[d]?).getD undef := by simp [Array.getD_eq_getD_getElem?]
        rw [hget] at hr
        cases hv : act.tmps[d]? with
        | none =>
          rw [hv] at hr
          simp only [Option.getD_none] at hr
          cases hx : tget a d with
          | bool b => rw [hx] at hr; simp [VR, undef] at hr
          | _ => rfl
        | some v =>
          rw [hv] at hr
          simp only [Option.getD_some] at hr
          cases v with
          | bool b =>
            rw [VR_bool_inv hr]
            cases b <;> cases want <;> rfl
          | _ =>
            cases hx : tget a d with
            | bool b => rw [hx] at hr; simp [VR] at hr
            | _ => rfl
/-- What holds behind code. -/
def PostC (w0 : World) (φ : Phi) (w : World) (sz : Nat) (H : VH) (x : VX) (a₁ : VT) (H₁ : VH) (e : Exit) (act' : Act) (w' : World) : Prop :=
  ∃ φ', e = x.real ∧ St φ w φ' w' ∧ TR φ' a₁ act'.tmps ∧ HSim w0 φ' H₁ w' ∧ H₁.base = H.base ∧ act'.tmps.size = sz ∧ act'.defers = []
theorem PostC.trans {w0 : World} {φ φ' : Phi} {w w' : World} {sz : Nat} {H H₁ H₂ : VH} {x : VX} {a₂ : VT} {e : Exit} {act' : Act} {w'' : World} (hs : St φ w φ' w') (hb : H₁.base = H.base) (h : PostC w0 φ' w' sz H₁ x a₂ H₂ e act' w'') : PostC w0 φ w sz H x a₂ H₂ e act' w'' := by
  obtain ⟨ψ, h1, h2, h3, h4, h5, h6, h7⟩ := h
  exact ⟨ψ, h1, hs.trans h2, h3, h4, h5.trans hb, h6, h7⟩
theorem Out_get {w0 : World} {φ : Phi} {H : VH} {w : World} {r : Result Next} : ∀ {o : Out}, OutR w0 φ H w r o → match o.get with
    | .val v H₁ => (∃ v' w₁ φ₁, r = .ok (.value v') w₁ ∧ St φ w φ₁ w₁ ∧ VR φ₁ v v' ∧ HSim w0 φ₁ H₁ w₁ ∧ H₁.base = H.base) ∨ (v = vundef ∧ ∃ w₁ φ₁, r = .ok .skip w₁ ∧ St φ w φ₁ w₁ ∧ HSim w0 φ₁ H₁ w₁ ∧ H₁.base = H.base)
    | .enter f args => ∃ args', r = .ok (.enter f ⟨args'⟩) w ∧ VRs φ args args'
    | .bad => True
  | .val v H₁, h => .inl h
  | .skip H₁, h => .inr ⟨rfl, h⟩
  | .enter f args, h => h
  | .round _ _, _ => trivial
  | .chk b o, h => by
    cases b with
    | true => exact Out_get (o := o) (h rfl)
    | false => exact trivial
  | .ite b x y, h => by
    cases b with
    | true => exact Out_get (o := x) (h.1 rfl)
    | false => exact Out_get (o := y) (h.2 rfl)
  | .bad, _ => trivial
/-- One operation. -/
theorem opRun_sound {P : Program} (hng : NoNG P) {fe : FE} (hfe : FEok P fe) {w0 : World} {φ : Phi} {w : World} {a : VT} {act : Act} {H : VH} (ht : TR φ a act.tmps) (hs : HSim w0 φ H w) {o : Oper} (hd : ∀ c, o.op ≠ .defer c) {v : VV} {H₁ : VH} (h : opRun P fe o.op a H = some (v, H₁))
    (r : Option Nat) (K : Act → World → Prop) (Q : Exit → Act → World → Prop)
    (hK : ∀ v' w₁ φ₁, St φ w φ₁ w₁ → VR φ₁ v v' → HSim w0 φ₁ H₁ w₁ → H₁.base = H.base → K (act.put o.dst v') w₁) : o.wpIn (Fr r) 0 P act w K Q := by
  refine ⟨fun _ _ => trivial, ?_⟩
  rw [show (Fr r).round = r from rfl, Oper.semAt_eq _ _ _ hd]
  have read : ∀ {u : VV}, (evR P o.op a H).get = some u → some (u, H) = some (v, H₁) → o.uponIn (Fr r) 0 P act K Q ((execOp act.eval o).run P w) := by
    intro u hu he
    simp only [Option.some.injEq, Prod.mk.injEq] at he
    obtain ⟨rfl, rfl⟩ := he
    obtain ⟨v', h1, h2⟩ := RNR_get hu (evR_sound ht hs o)
    rw [h1]
    exact hK v' w φ (.refl φ w) h2 hs rfl
  have write : (match (evE P o.op a H).get with
      | .val v H₁ => some (v, H₁)
      | .enter f args => fe f args H
      | .bad => none) = some (v, H₁) → o.uponIn (Fr r) 0 P act K Q ((execOp act.eval o).run P w) := by
    intro he
    have hg := Out_get (evE_sound hng ht hs o)
    cases hq : (evE P o.op a H).get with
    | val u K' =>
      rw [hq] at he hg
      simp only [Option.some.injEq, Prod.mk.injEq] at he
      obtain ⟨rfl, rfl⟩ := he
      simp only at hg
      rcases hg with ⟨v', w₁, φ₁, h1, h2, h3, h4, h5⟩ | ⟨rfl, w₁, φ₁, h1, h2, h3, h4⟩
      · rw [h1]; exact hK v' w₁ φ₁ h2 h3 h4 h5
      · rw [h1]; exact hK undef w₁ φ₁ h2 (VR_undef φ₁) h3 h4
    | enter f args =>
      rw [hq] at he hg
      simp only at he hg
      obtain ⟨args', h1, h2⟩ := hg
      rw [h1]
      refine ⟨(fun hx => by cases hx), ?_⟩
      refine callsIn_fr.2 ((hfe w0 f args H v H₁ he φ w args' h2 hs).mono ?_)
      rintro e w' ⟨u, v', φ', H', rfl, k1, k2, k3, k4, rfl, rfl⟩
      exact hK v' w' φ' k1 k2 k3 k4
    | bad => rw [hq] at he; cases he
  unfold opRun at h
  split at h
  · cases hg : (evR P o.op a H).get with
    | none => rw [hg] at h; cases h
    | some u => rw [hg] at h; exact read hg h
  · cases hg : (evR P o.op a H).get with
    | none => rw [hg] at h; cases h
    | some u => rw [hg] at h; exact read hg h
  · exact write h
theorem opRun_noDefer {P : Program} {fe : FE} {op : Op} {a : VT} {H : VH} {v : VV} {H₁ : VH} (h : opRun P fe op a H = some (v, H₁)) : ∀ c, op ≠ .defer c := by
  rintro c rfl
  simp [opRun, cls, evE, Out.get] at h
/-- Operations in the order of the text. -/
theorem runOps_sound {P : Program} (hng : NoNG P) {fe : FE} (hfe : FEok P fe) {w0 : World} {nt : Nat} (hb : nt ≤ top) {all : List Oper} (r : Option Nat) : ∀ (l pre : List Oper) (a : VT) (H : VH) (a₁ : VT) (H₁ : VH), all = pre ++ l → runOps P fe nt all l a H = some (a₁, H₁) →
    ∀ (φ : Phi) (act : Act) (w : World), TR φ a act.tmps → HSim w0 φ H w → nt ≤ act.tmps.size → act.defers = [] → ∀ (Q : Exit → Act → World → Prop), (∀ act' w', PostC w0 φ w act.tmps.size H .normal a₁ H₁ .normal act' w' → Q .normal act' w') →
    wpOpsIn (Fr r) 0 P ⟨all⟩ Q (List.range' pre.length l.length) act w := by
  intro l
  induction l with
  | nil =>
    intro pre a H a₁ H₁ _ h φ act w ht hs hn hdf Q hQ
    simp only [runOps, Option.some.injEq, Prod.mk.injEq] at h
    obtain ⟨rfl, rfl⟩ := h
    exact hQ act w ⟨φ, rfl, .refl φ w, ht, hs, rfl, rfl, hdf⟩
  | cons o l ih =>
    intro pre a H a₁ H₁ hall h φ act w ht hs hn hdf Q hQ
    have hget : (⟨all⟩ : Array Oper)[pre.length]? = some o := by simp [hall]
    simp only [List.length_cons, List.range'_succ, wpOpsIn, hget]
    have hwant := wantedV_sound (ops := all) ht o
    have hall' : all = (pre ++ [o]) ++ l := by simp [hall]
    have hlen : (pre ++ [o]).length = pre.length + 1 := by simp
    simp only [runOps] at h
    cases hw : wantedV all a o.guard with
    | true =>
      rw [hw] at h hwant
      rw [if_pos hwant]
      simp only at h
      cases hr : opRun P fe o.op a H with
      | none => rw [hr] at h; cases h
      | some vh =>
        obtain ⟨v, H'⟩ := vh
        rw [hr] at h
        simp only at h
        cases hp : putD nt a o.dst v with
        | none => rw [hp] at h; cases h
        | some a' =>
          rw [hp] at h
          simp only at h
          refine opRun_sound hng hfe ht hs (opRun_noDefer hr) hr r _ _ ?_
          intro v' w₁ φ₁ k1 k2 k3 k4
          obtain ⟨p1, p2, p3⟩ := putD_sound (ht.mono k1.le) hn hb k2 hp
          have := ih (pre ++ [o]) a' H' a₁ H₁ hall' h φ₁ (act.put o.dst v') w₁ p1 k3 (by omega) (by rw [p3]; exact hdf) Q (fun act' w' hp' => hQ act' w' (by rw [p2] at hp'; exact PostC.trans k1 k4 hp'))
          rwa [hlen] at this
    | false =>
      rw [hw] at h hwant
      rw [if_neg (by simp [hwant])]
      simp only at h
      refine ⟨fun _ _ => trivial, ?_⟩
      cases hp : putD nt a o.dst vundef with
      | none => rw [hp] at h; cases h
      | some a' =>
        rw [hp] at h
        simp only at h
        obtain ⟨p1, p2, p3⟩ := putD_sound ht hn hb (VR_undef φ) hp
        have := ih (pre ++ [o]) a' H a₁ H₁ hall' h φ (act.put o.dst undef) w p1 hs (by omega) (by rw [p3]; exact hdf) Q (fun act' w' hp' => hQ act' w' (by rw [p2] at hp'; exact hp'))
        rwa [hlen] at this
end
end Go.Ev
/- Engine, part L: code and calls are sound. -/
namespace Go.Ev
noncomputable section
abbrev DE := Nat → List Oper → VT → VH → Option (VT × VH)
def CEok (P : Program) (ce : CE) : Prop := ∀ w0 nt c a H x a₁ H₁, ce nt c a H = some (x, a₁, H₁) → nt ≤ top → ∀ (r : Option Nat) (φ : Phi) (act : Act) (w : World), TR φ a act.tmps → HSim w0 φ H w → nt ≤ act.tmps.size → act.defers = [] →
  c.wpIn (Fr r) 0 P (PostC w0 φ w act.tmps.size H x a₁ H₁) act w
def DEok (P : Program) (de : DE) : Prop := ∀ w0 nt id ops a H a₁ H₁, de nt ops a H = some (a₁, H₁) → nt ≤ top → ∀ (r : Option Nat) (φ : Phi) (act : Act) (w : World), TR φ a act.tmps → HSim w0 φ H w → nt ≤ act.tmps.size → act.defers = [] →
  (Code.region id ⟨ops⟩ true).wpIn (Fr r) 0 P (PostC w0 φ w act.tmps.size H .normal a₁ H₁) act w
/-- A loop, so many rounds. -/
def LoopOK (P : Program) (w0 : World) (nt : Nat) (c : Code) (a : VT) (H : VH) (x : VX) (a₁ : VT) (H₁ : VH) : Prop :=
  ∃ m, ∀ (r : Option Nat) (φ : Phi) (act : Act) (w : World), TR φ a act.tmps → HSim w0 φ H w → nt ≤ act.tmps.size → act.defers = [] → ∀ Q : Exit → Act → World → Prop, (∀ e act' w', PostC w0 φ w act.tmps.size H x a₁ H₁ e act' w' → Q e act' w') →
    Code.roundsIn (Fr r) 0 P c Q m act w
theorem VX_real_normal {x : VX} : x.real = .normal ↔ x = .normal := by cases x <;> simp [VX.real]
section
variable {P : Program} {rc : CE} {fe : FE} {de : DE}
/-- The clauses of code but for the loop. -/
theorem stepC_sound (hng : NoNG P) (hrc : CEok P rc) (hfe : FEok P fe) (hde : DEok P de) {w0 : World} {nt : Nat} {c : Code} {a : VT} {H : VH} {x : VX} {a₁ : VT} {H₁ : VH} (h : stepC P de rc fe nt c a H = some (x, a₁, H₁)) (hnl : ∀ b, c ≠ .loop b) (hb : nt ≤ top)
    (r : Option Nat) (φ : Phi) (act : Act) (w : World) (ht : TR φ a act.tmps) (hs : HSim w0 φ H w) (hn : nt ≤ act.tmps.size) (hd : act.defers = []) : c.wpIn (Fr r) 0 P (PostC w0 φ w act.tmps.size H x a₁ H₁) act w := by
  have self : ∀ y, PostC w0 φ w act.tmps.size H y a H (VX.real y) act w := fun y => ⟨φ, rfl, .refl φ w, ht, hs, rfl, rfl, hd⟩
  cases c with
  | skip =>
    simp only [stepC, Option.some.injEq, Prod.mk.injEq] at h
    obtain ⟨rfl, rfl, rfl⟩ := h
    exact wpIn_skip (self .normal)
  | region id ops draw =>
    obtain ⟨ops⟩ := ops
    cases draw with
    | false =>
      simp only [stepC] at h
      cases hr : runOps P fe nt ops ops a H with
      | none => rw [hr] at h; cases h
      | some ah =>
        obtain ⟨a', H'⟩ := ah
        rw [hr] at h
        simp only [Option.some.injEq, Prod.mk.injEq] at h
        obtain ⟨rfl, rfl, rfl⟩ := h
        have := runOps_sound hng hfe (w0 := w0) hb r ops [] a H a' H' rfl hr φ act w ht hs hn hd (PostC w0 φ w act.tmps.size H .normal a' H') (fun _ _ k => k)
        refine wpIn_region ?_
        have e : List.range (⟨ops⟩ : Array Oper).size = List.range' ([] : List Oper).length ops.length := by simp [List.range_eq_range']
        rw [e]
        exact this
    | true =>
      simp only [stepC] at h
      cases hr : de nt ops a H with
      | none => rw [hr] at h; cases h
      | some ah =>
        obtain ⟨a', H'⟩ := ah
        rw [hr] at h
        simp only [Option.some.injEq, Prod.mk.injEq] at h
        obtain ⟨rfl, rfl, rfl⟩ := h
        exact hde w0 nt id ops a H a' H' hr hb r φ act w ht hs hn hd
  | seq y z =>
    simp only [stepC] at h
    refine wpIn_seq ?_
    cases hy : rc nt y a H with
    | none => rw [hy] at h; cases h
    | some t =>
      obtain ⟨e, a', H'⟩ := t
      rw [hy] at h
      have k := hrc w0 nt y a H e a' H' hy hb r φ act w ht hs hn hd
      refine wpIn_mono k ?_
      intro e' act' w' hp
      cases e with
      | normal =>
        simp only at h
        obtain ⟨φ', rfl, k2, k3, k4, k5, k6, k7⟩ := hp
        have k' := hrc w0 nt z a' H' x a₁ H₁ h hb r φ' act' w' k3 k4 (by omega) k7
        refine wpIn_mono k' ?_
        intro e'' act'' w'' hp'
        rw [k6] at hp'
        exact PostC.trans k2 k5 hp'
      | ret =>
        simp only [Option.some.injEq, Prod.mk.injEq] at h
        obtain ⟨rfl, rfl, rfl⟩ := h
        obtain ⟨φ', rfl, k2⟩ := hp
        exact ⟨φ', rfl, k2⟩
      | exit id =>
        simp only [Option.some.injEq, Prod.mk.injEq] at h
        obtain ⟨rfl, rfl, rfl⟩ := h
        obtain ⟨φ', rfl, k2⟩ := hp
        exact ⟨φ', rfl, k2⟩
  | cond c y z =>
    simp only [stepC] at h
    cases hc : evOperand a c with
    | none => rw [hc] at h; cases h
    | some v => cases v with
      | bool b =>
        rw [hc] at h
        have hv := evOperand_sound ht hc
        simp only [VR] at hv
        refine wpIn_cond hv ?_
        cases b with
        | true => exact hrc w0 nt y a H x a₁ H₁ h hb r φ act w ht hs hn hd
        | false => exact hrc w0 nt z a H x a₁ H₁ h hb r φ act w ht hs hn hd
      | _ => rw [hc] at h; cases h
  | block id c =>
    simp only [stepC] at h
    refine wpIn_block ?_
    cases hy : rc nt c a H with
    | none => rw [hy] at h; cases h
    | some t =>
      obtain ⟨e, a', H'⟩ := t
      rw [hy] at h
      have k := hrc w0 nt c a H e a' H' hy hb r φ act w ht hs hn hd
      refine wpIn_mono k ?_
      intro e' act' w' hp
      cases e with
      | normal =>
        simp only [Option.some.injEq, Prod.mk.injEq] at h
        obtain ⟨rfl, rfl, rfl⟩ := h
        obtain ⟨φ', rfl, k2⟩ := hp
        exact ⟨φ', rfl, k2⟩
      | ret =>
        simp only [Option.some.injEq, Prod.mk.injEq] at h
        obtain ⟨rfl, rfl, rfl⟩ := h
        obtain ⟨φ', rfl, k2⟩ := hp
        exact ⟨φ', rfl, k2⟩
      | exit j =>
        obtain ⟨φ', rfl, k2⟩ := hp
        simp only at h
        simp only [VX.real, Exit.inBlock]
        cases hj : Nat.beq j id with
        | true =>
          rw [hj] at h
          simp only [Option.some.injEq, Prod.mk.injEq] at h
          obtain ⟨rfl, rfl, rfl⟩ := h
          rw [if_pos (Nat.eq_of_beq_eq_true hj)]
          exact ⟨φ', rfl, k2⟩
        | false =>
          rw [hj] at h
          simp only [Option.some.injEq, Prod.mk.injEq] at h
          obtain ⟨rfl, rfl, rfl⟩ := h
          rw [if_neg (by intro e; rw [e] at hj; simp at hj)]
          exact ⟨φ', rfl, k2⟩
  | loop c => exact absurd rfl (hnl c)
  | exit id =>
    simp only [stepC, Option.some.injEq, Prod.mk.injEq] at h
    obtain ⟨rfl, rfl, rfl⟩ := h
    exact wpIn_exit (self (.exit id))
  | ret =>
    simp only [stepC, Option.some.injEq, Prod.mk.injEq] at h
    obtain ⟨rfl, rfl, rfl⟩ := h
    exact wpIn_ret (self .ret)
  | _ => simp [stepC] at h
end
/-! ### the results of a call -/
def resSem (tmps : Array Value) : ResultVar → Sem Value
  | .tmp t => pure (tmps.getD t undef)
  | .cell a t => do loadVar t (← asAddr (tmps.getD a undef))
theorem results_eq (fn : Func) (tmps : Array Value) : results fn tmps = (do
    let vs ← fn.results.mapM (resSem tmps)
    pure (if h : vs.size = 1 then vs[0] else .tuple vs)) := by
  unfold results
  congr 1
theorem resL_sound {P : Program} {w0 : World} {φ : Phi} {H : VH} {w : World} {a : VT} {tmps : Array Value} (ht : TR φ a tmps) (hs : HSim w0 φ H w) : ∀ (l : List ResultVar) (vs : List VV), resL P a H l = some vs →
    ∃ vs', (l.mapM (resSem tmps)).run P w = .ok vs' w ∧ VRs φ vs vs'
  | [], vs, h => by simp only [resL, Option.some.injEq] at h; subst h; exact ⟨[], rfl, by simp [VRs]⟩
  | .tmp t :: l, vs, h => by
    simp only [resL] at h
    cases hr : resL P a H l with
    | none => rw [hr] at h; cases h
    | some us =>
      rw [hr] at h
      simp only [Option.some.injEq] at h
      subst h
      obtain ⟨us', h1, h2⟩ := resL_sound ht hs l us hr
      refine ⟨tmps.getD t undef :: us', ?_, by simp only [VRs]; exact ⟨_, _, rfl, ht t, h2⟩⟩
      simp only [List.mapM_cons, Sem.run_bind, resSem, Sem.run_pure, Result.andThen_ok, h1]
  | .cell x t :: l, vs, h => by
    simp only [resL] at h
    have hx := ht x
    cases hv : tget a x with
    | ptr p => cases p with
      | none => rw [hv] at h; cases h
      | some ad =>
        rw [hv] at h hx
        simp only at h
        cases hl : loadT P H t ad with
        | none => rw [hl] at h; cases h
        | some v => cases hr : resL P a H l with
          | none => rw [hl, hr] at h; cases h
          | some us =>
            rw [hl, hr] at h
            simp only [Option.some.injEq] at h
            subst h
            simp only [VR] at hx
            obtain ⟨a', s, ha, he⟩ := hx
            obtain ⟨v', l1, l2⟩ := loadT_sound (P := P) hs ha hl
            obtain ⟨us', h1, h2⟩ := resL_sound ht hs l us hr
            refine ⟨v' :: us', ?_, by simp only [VRs]; exact ⟨_, _, rfl, l2, h2⟩⟩
            simp only [List.mapM_cons, Sem.run_bind, resSem, he, asAddr, Sem.run_pure, Result.andThen_ok, l1, h1]
    | _ => rw [hv] at h; cases h
theorem results_sound {P : Program} {w0 : World} {φ : Phi} {H : VH} {w : World} {a : VT} {tmps : Array Value} (ht : TR φ a tmps) (hs : HSim w0 φ H w) {fn : Func} {vs : List VV} (h : resL P a H fn.results.toList = some vs) :
    ∃ v', (results fn tmps).run P w = .ok v' w ∧ VR φ (oneV vs) v' := by
  obtain ⟨vs', h1, h2⟩ := resL_sound (P := P) ht hs fn.results.toList vs h
  have hl := VRs_length _ _ h2
  refine ⟨if h : vs'.toArray.size = 1 then vs'.toArray[0] else .tuple vs'.toArray, ?_, ?_⟩
  · rw [results_eq]
    simp only [Array.mapM_eq_mapM_toList, Sem.run_bind, Sem.run_map, h1, Result.andThen_ok, Sem.run_pure]
  · unfold oneV
    cases vs with
    | nil =>
      simp only [VRs] at h2
      subst h2
      exact VR_unit φ
    | cons v vs => cases vs with
      | nil =>
        simp only [VRs] at h2
        obtain ⟨y, ys, rfl, h3, rfl⟩ := h2
        simpa using h3
      | cons u vs =>
        rw [dif_neg (by simp only [List.size_toArray, ← hl, List.length_cons]; omega)]
        simp only [VR]
        exact ⟨vs', h2, rfl⟩
theorem listT_get : ∀ (l : List VV) (i : Nat) (t : VT) (k : Nat), i + l.length ≤ top → tget (listT l i t) k = if i ≤ k ∧ k < i + l.length then (l[k - i]?).getD vundef else tget t k
  | [], i, t, k, _ => by rw [if_neg (by simp)]; rfl
  | x :: l, i, t, k, h => by
    simp only [List.length_cons] at h
    simp only [listT]
    rw [listT_get l (i + 1) _ k (by omega)]
    by_cases hk : i + 1 ≤ k ∧ k < i + 1 + l.length
    · rw [if_pos hk, if_pos ⟨by omega, by simp only [List.length_cons]; omega⟩]
      rw [show k - i = (k - (i + 1)) + 1 by omega]
      simp
    · rw [if_neg hk]
      by_cases he : k = i
      · subst he
        rw [if_pos ⟨by omega, by simp only [List.length_cons]; omega⟩]
        simp [tget, TT.get_put_same t k x (by omega)]
      · rw [if_neg (by simp only [List.length_cons]; omega)]
        simp [tget, TT.get_put_other t i k x he]
theorem stepF_sound {P : Program} {rc : CE} (hrc : CEok P rc) : FEok P (stepF P rc) := by
  intro w0 f args H v H' h φ w args' ha hs
  unfold stepF at h
  cases hf : P.funcs[f]? with
  | none => rw [hf] at h; cases h
  | some fn =>
    rw [hf] at h
    simp only at h
    cases hb : fn.body with
    | none => rw [hb] at h; cases h
    | some c =>
      rw [hb] at h
      simp only at h
      cases h1 : Nat.ble args.length fn.ntmps with
      | false => rw [h1] at h; cases h
      | true => cases h2 : Nat.ble fn.ntmps top with
        | false => rw [h1, h2] at h; cases h
        | true =>
          rw [h1, h2] at h
          simp only at h
          have h1' : args.length ≤ fn.ntmps := Nat.le_of_ble_eq_true h1
          have h2' : fn.ntmps ≤ top := Nat.le_of_ble_eq_true h2
          have hl := VRs_length _ _ ha
          have ht : TR φ (listT args 0 .lf) ((⟨args'⟩ : Array Value) ++ Array.replicate (fn.ntmps - (⟨args'⟩ : Array Value).size) undef) := by
            intro t
            rw [listT_get args 0 .lf t (by omega)]
            simp only [Array.getD_eq_getD_getElem?, Array.getElem?_append, List.size_toArray]
            by_cases hk : 0 ≤ t ∧ t < 0 + args.length
            · rw [if_pos hk, if_pos (by omega)]
              obtain ⟨x, hx⟩ : ∃ x, args[t - 0]? = some x := ⟨args[t]'(by omega), by simp [show t < args.length by omega]⟩
              obtain ⟨y, hy1, hy2⟩ := VRs_get _ _ ha _ x hx
              rw [hx]
              simp only [Option.getD_some]
              rw [show ((⟨args'⟩ : Array Value)[t]?) = some y by simpa using hy1]
              exact hy2
            · rw [if_neg hk, if_neg (by omega)]
              have : (Array.replicate (fn.ntmps - args'.length) undef)[t - args'.length]?.getD undef = undef := by
                rw [Array.getElem?_replicate]
                split <;> rfl
              rw [this]
              exact VR_undef φ
          cases hr : rc fn.ntmps c (listT args 0 .lf) H with
          | none => rw [hr] at h; cases h
          | some t =>
            obtain ⟨x, a₁, H₁⟩ := t
            rw [hr] at h
            have hsz : fn.ntmps ≤ ((⟨args'⟩ : Array Value) ++ Array.replicate (fn.ntmps - (⟨args'⟩ : Array Value).size) undef).size := by simp; omega
            have k := hrc w0 fn.ntmps c _ H x a₁ H₁ hr h2' none φ { tmps := (⟨args'⟩ : Array Value) ++ Array.replicate (fn.ntmps - (⟨args'⟩ : Array Value).size) undef, defers := [] } w ht hs hsz rfl
            refine (callsIn_wide (n := 0)).1 (callsIn_of_wp hf hb trivial (wpIn_mono k ?_))
            intro e act' w' hp
            obtain ⟨φ', rfl, k2, k3, k4, k5, k6, k7⟩ := hp
            have fin : ∀ (hx : (match resL P a₁ H₁ fn.results.toList with | some l => some (oneV l, H₁) | none => none) = some (v, H')), act'.defers = [] ∧ ∃ v', (results fn act'.tmps).run P w' = .ok v' w' ∧ ∃ u u' φ'' H'', Ending.returned v' = Ending.returned u' ∧ St φ w φ'' w' ∧ VR φ'' u u' ∧ HSim w0 φ'' H'' w' ∧ H''.base = H.base ∧ (u = v ∧ H'' = H') := by
              intro hx
              cases hq : resL P a₁ H₁ fn.results.toList with
              | none => rw [hq] at hx; cases hx
              | some l =>
                rw [hq] at hx
                simp only [Option.some.injEq, Prod.mk.injEq] at hx
                obtain ⟨rfl, rfl⟩ := hx
                obtain ⟨v', r1, r2⟩ := results_sound k3 k4 hq
                exact ⟨k7, v', r1, oneV l, v', φ', H₁, rfl, k2, r2, k4, k5, rfl, rfl⟩
            cases x with
            | normal => exact fin h
            | ret => exact fin h
            | exit id => cases h
end
end Go.Ev
/- Engine, part M: the evaluator with fuel, and that it is sound. -/
namespace Go.Ev
noncomputable section
def evN (P : Program) (dr : FE → DE) (n : Nat) : CE × FE :=
  Nat.rec (fun _ _ _ _ => none, fun _ _ _ => none) (fun _ ih => (stepC P (dr ih.2) ih.1 ih.2, stepF P ih.1)) n
theorem evN_succ (P : Program) (dr : FE → DE) (n : Nat) : evN P dr (n + 1) = (stepC P (dr (evN P dr n).2) (evN P dr n).1 (evN P dr n).2, stepF P (evN P dr n).1) := rfl
theorem LoopOK.wp {P : Program} {w0 : World} {nt : Nat} {c : Code} {a : VT} {H : VH} {x : VX} {a₁ : VT} {H₁ : VH} (h : LoopOK P w0 nt c a H x a₁ H₁) (r : Option Nat) (φ : Phi) (act : Act) (w : World) (ht : TR φ a act.tmps) (hs : HSim w0 φ H w) (hn : nt ≤ act.tmps.size) (hd : act.defers = []) :
    (Code.loop c).wpIn (Fr r) 0 P (PostC w0 φ w act.tmps.size H x a₁ H₁) act w := by
  obtain ⟨m, hm⟩ := h
  exact wpIn_loop_rounds m (hm r φ act w ht hs hn hd _ fun _ _ _ k => k)
theorem evN_sound {P : Program} (hng : NoNG P) {dr : FE → DE} (hdr : ∀ fe, FEok P fe → DEok P (dr fe)) : ∀ n, (∀ w0 nt c a H x a₁ H₁, (evN P dr n).1 nt (.loop c) a H = some (x, a₁, H₁) → nt ≤ top → LoopOK P w0 nt c a H x a₁ H₁) ∧ CEok P (evN P dr n).1 ∧ FEok P (evN P dr n).2 := by
  intro n
  induction n with
  | zero =>
    refine ⟨?_, ?_, ?_⟩
    · intro w0 nt c a H x a₁ H₁ h
      cases h
    · intro w0 nt c a H x a₁ H₁ h
      cases h
    · intro w0 f args H v H' h
      cases h
  | succ n ih =>
    obtain ⟨ih1, ih2, ih3⟩ := ih
    have loops : ∀ w0 nt c a H x a₁ H₁, (evN P dr (n + 1)).1 nt (.loop c) a H = some (x, a₁, H₁) → nt ≤ top → LoopOK P w0 nt c a H x a₁ H₁ := by
      intro w0 nt c a H x a₁ H₁ h hb
      rw [evN_succ] at h
      simp only [stepC] at h
      cases hy : (evN P dr n).1 nt c a H with
      | none => rw [hy] at h; cases h
      | some t =>
        obtain ⟨e, a', H'⟩ := t
        rw [hy] at h
        cases e with
        | normal =>
          simp only at h
          obtain ⟨m, hm⟩ := ih1 w0 nt c a' H' x a₁ H₁ h hb
          refine ⟨m + 1, fun r φ act w ht hs hn hd Q hQ => ?_⟩
          rw [roundsIn_succ]
          refine wpIn_mono (ih2 w0 nt c a H _ a' H' hy hb r φ act w ht hs hn hd) ?_
          intro e act' w' hp
          obtain ⟨φ', rfl, k2, k3, k4, k5, k6, k7⟩ := hp
          refine hm r φ' act' w' k3 k4 (by omega) k7 Q fun e'' act'' w'' hp' => hQ e'' act'' w'' ?_
          rw [k6] at hp'
          exact PostC.trans k2 k5 hp'
        | ret =>
          simp only [Option.some.injEq, Prod.mk.injEq] at h
          obtain ⟨rfl, rfl, rfl⟩ := h
          refine ⟨1, fun r φ act w ht hs hn hd Q hQ => ?_⟩
          rw [roundsIn_succ]
          refine wpIn_mono (ih2 w0 nt c a H _ a' H' hy hb r φ act w ht hs hn hd) ?_
          intro e act' w' hp
          have he : e = .ret := by obtain ⟨φ', he, _⟩ := hp; exact he
          subst he
          exact hQ _ _ _ hp
        | exit id =>
          simp only [Option.some.injEq, Prod.mk.injEq] at h
          obtain ⟨rfl, rfl, rfl⟩ := h
          refine ⟨1, fun r φ act w ht hs hn hd Q hQ => ?_⟩
          rw [roundsIn_succ]
          refine wpIn_mono (ih2 w0 nt c a H _ a' H' hy hb r φ act w ht hs hn hd) ?_
          intro e act' w' hp
          have he : e = .exit id := by obtain ⟨φ', he, _⟩ := hp; exact he
          subst he
          exact hQ _ _ _ hp
    refine ⟨loops, ?_, ?_⟩
    · intro w0 nt c a H x a₁ H₁ h hb r φ act w ht hs hn hd
      by_cases hl : ∃ b, c = .loop b
      · obtain ⟨b, rfl⟩ := hl
        exact (loops w0 nt b a H x a₁ H₁ h hb).wp r φ act w ht hs hn hd
      · exact stepC_sound hng ih2 ih3 (hdr _ ih3) h (fun b e => hl ⟨b, e⟩) hb r φ act w ht hs hn hd
    · exact stepF_sound ih2
end
end Go.Ev
/- Engine, part N: regions that draw their order: the evaluator. -/
namespace Go.Ev
noncomputable section
def bindB (e : Edge) : Bool := match e.ground with | .textOnly _ => false | .gcOnly _ => false | _ => true
def getN (l : List Nat) (i : Nat) : Nat := match lget l i with | some x => x | none => 0
def edgeMask (acc : List Nat) : List Edge → Nat
  | [] => 0
  | e :: r => match bindB e with
    | true => (2 ^ e.on ||| getN acc e.on) ||| edgeMask acc r
    | false => edgeMask acc r
/-- Of each operation the set (as bits) of those that come before it. -/
def masks : List Oper → List Nat → List Nat
  | [], acc => acc
  | o :: l, acc => masks l (acc ++ [edgeMask acc o.after.toList])
def rch (mk : List Nat) (i j : Nat) : Bool := Nat.testBit (getN mk j) i
def idxs (p : Nat → Bool) : Nat → Nat → List Nat
  | 0, _ => []
  | n + 1, i => match p i with
    | true => i :: idxs p n (i + 1)
    | false => idxs p n (i + 1)
def countB (p : Nat → Bool) : List Nat → Nat
  | [] => 0
  | x :: l => match p x with | true => countB p l + 1 | false => countB p l
def partB (p : Nat → Bool) : List Nat → List Nat × List Nat
  | [] => ([], [])
  | x :: l => match partB p l with
    | (a, b) => match p x with | true => (x :: a, b) | false => (a, x :: b)
/-- How an operation is put into the order: as early as may be, as late as may be, or as a step that all others know. -/
inductive SK where
  | r
  | a
  | e
def SK.isR : SK → Bool | .r => true | _ => false
def SK.isA : SK → Bool | .a => true | _ => false
def SK.isE : SK → Bool | .e => true | _ => false
def getK (l : List SK) (i : Nat) : SK := match lget l i with | some x => x | none => .e
/-- An order of the operations in which what only reads comes as early as may be, and what makes a variable as late. -/
def canonGo (mk : List Nat) (lev : Nat → Nat) (reads : List Nat) : Nat → List Nat → List Nat → List Nat
  | j, allocs, [] => (partB (fun i => Nat.beq (lev i) j) reads).1 ++ allocs
  | j, allocs, e :: es => match partB (fun k => rch mk k e) allocs with
    | (now, later) => (partB (fun i => Nat.beq (lev i) j) reads).1 ++ (now ++ (e :: canonGo mk lev reads (j + 1) later es))
def canonOrd (ks : List SK) (mk : List Nat) (n : Nat) : List Nat :=
  canonGo mk (fun i => countB (fun e => rch mk e i) (idxs (fun i => (getK ks i).isE) n 0)) (idxs (fun i => (getK ks i).isR) n 0) 0 (idxs (fun i => (getK ks i).isA) n 0) (idxs (fun i => (getK ks i).isE) n 0)
def memN (x : Nat) : List Nat → Bool
  | [] => false
  | y :: l => match Nat.beq x y with | true => true | false => memN x l
def allN (p : Nat → Bool) : List Nat → Bool
  | [] => true
  | x :: l => match p x with | true => allN p l | false => false
def tmpsOf : List Operand → List Nat
  | [] => []
  | .tmp t :: l => t :: tmpsOf l
  | _ :: l => tmpsOf l
/-- The temporaries that an operation looks at. -/
def looks (all : List Oper) (o : Oper) : List Nat :=
  match o.guard with
  | some (g, _) => match lget all g with
    | some og => match og.dst with
      | some d => d :: tmpsOf o.op.operands.toList
      | none => tmpsOf o.op.operands.toList
    | none => tmpsOf o.op.operands.toList
  | none => tmpsOf o.op.operands.toList
def afterOk (before : List Nat) : List Edge → Bool
  | [] => true
  | e :: r => match bindB e with
    | true => match memN e.on before with | true => afterOk before r | false => false
    | false => afterOk before r
def dstOf (all : List Oper) (i : Nat) : Option Nat := match lget all i with | some o => o.dst | none => none
def looksOf (all : List Oper) (i : Nat) : List Nat := match lget all i with | some o => looks all o | none => []
def optIs (d : Nat) : Option Nat → Bool | some d' => Nat.beq d d' | none => false
/-- Whether an operation names a temporary. -/
def hits (all : List Oper) (d i : Nat) : Bool := match memN d (looksOf all i) with | true => true | false => optIs d (dstOf all i)
def upto : Nat → Nat → List Nat
  | 0, _ => []
  | n + 1, i => i :: upto n (i + 1)
/-- All that name what the operation writes come behind it. -/
def tame (all : List Oper) (mk : List Nat) (x d : Nat) : List Nat → Bool
  | [] => true
  | i :: l => match Nat.beq x i with
    | true => match memN d (looksOf all i) with | true => false | false => tame all mk x d l
    | false => match hits all d i with
      | false => tame all mk x d l
      | true => match rch mk x i with | true => tame all mk x d l | false => false
/-- All that name what the operation writes come before or behind it. -/
def ordered (all : List Oper) (mk : List Nat) (x d : Nat) : List Nat → Bool
  | [] => true
  | i :: l => match Nat.beq x i with
    | true => ordered all mk x d l
    | false => match hits all d i with
      | false => ordered all mk x d l
      | true => match rch mk x i with
        | true => ordered all mk x d l
        | false => match rch mk i x with | true => ordered all mk x d l | false => false
def kindOf (P : Program) (all : List Oper) (mk : List Nat) (n x : Nat) (o : Oper) : SK := match cls P o.op with
  | 0 | 1 => match o.dst with
    | some d => match tame all mk x d (upto n 0) with | true => .r | false => .e
    | none => .r
  | 2 => .a
  | _ => .e
def kinds (P : Program) (all : List Oper) (mk : List Nat) (n : Nat) : Nat → List Oper → List SK
  | _, [] => []
  | x, o :: l => kindOf P all mk n x o :: kinds P all mk n (x + 1) l
def pairOk (all : List Oper) (ks : List SK) (mk : List Nat) (n x : Nat) : Bool := match dstOf all x with
  | none => true
  | some d => match getK ks x with
    | .e => ordered all mk x d (upto n 0)
    | _ => tame all mk x d (upto n 0)
def headOk (ks : List SK) (mk : List Nat) (i : Nat) : List Nat → Bool
  | [] => true
  | k :: r => match getK ks k with
    | .a => headOk ks mk i r
    | .e => rch mk i k
    | .r => false
def effs (ks : List SK) (mk : List Nat) (i : Nat) : List Nat → Bool
  | [] => true
  | e :: l => match getK ks e with
    | .e => match rch mk e i with | true => effs ks mk i l | false => false
    | _ => effs ks mk i l
/-- An order is a fit one. -/
def ordOk (all : List Oper) (ks : List SK) (mk : List Nat) : List Nat → List Nat → Bool
  | _, [] => true
  | before, i :: rest =>
    match lget all i with
    | none => false
    | some o => match memN i before with
      | true => false
      | false => match afterOk before o.after.toList with
        | false => false
        | true => match (match getK ks i with
            | .a => match o.guard with | none => headOk ks mk i rest | some _ => false
            | _ => effs ks mk i before) with
          | true => ordOk all ks mk (i :: before) rest
          | false => false
def regOk (all : List Oper) (ks : List SK) (mk ord : List Nat) (n : Nat) : Bool :=
  match ordOk all ks mk [] ord with
  | false => false
  | true => match allN (fun i => memN i ord) (upto n 0) with
    | false => false
    | true => allN (fun x => pairOk all ks mk n x) (upto n 0)
/-- Equality of virtual values that the kernel can decide. -/
def vaEq (a b : VA) : Bool := match a.b, b.b with
  | .base r, .base s => match Nat.beq r s with | true => Nat.beq a.o b.o | false => false
  | .loc r, .loc s => match Nat.beq r s with | true => Nat.beq a.o b.o | false => false
  | _, _ => false
mutual
def vvEq : VV → VV → Bool
  | .bool a, .bool b => match a, b with | true, true => true | false, false => true | _, _ => false
  | .int k a, .int k' b => match kEq k k' with | true => decide (a = b) | false => false
  | .string a, .string b => strEq a b
  | .ptr none, .ptr none => true
  | .ptr (some a), .ptr (some b) => vaEq a b
  | .slice none l c, .slice none l' c' => match Nat.beq l l' with | true => Nat.beq c c' | false => false
  | .slice (some a) l c, .slice (some b) l' c' => match vaEq a b with
    | true => match Nat.beq l l' with | true => Nat.beq c c' | false => false
    | false => false
  | .map none, .map none => true
  | .nilFunc, .nilFunc => true
  | .func (.func f) a b, .func (.func g) c d => match Nat.beq f g with
    | true => match vvsEq a c with | true => vvsEq b d | false => false
    | false => false
  | .nilIface, .nilIface => true
  | .iface t x, .iface u y => match Nat.beq t u with | true => vvEq x y | false => false
  | .agg a, .agg b => vvsEq a b
  | .tuple a, .tuple b => vvsEq a b
  | _, _ => false
def vvsEq : List VV → List VV → Bool
  | [], [] => true
  | x :: a, y :: b => match vvEq x y with | true => vvsEq a b | false => false
  | _, _ => false
end
/-- What was read still reads so. -/
def still (P : Program) (a : VT) (H : VH) (o : Oper) : Bool := match (evR P o.op a H).get with
  | some v => match o.dst with
    | some d => vvEq v (tget a d)
    | none => true
  | none => false
def stable (P : Program) (all : List Oper) (mk : List Nat) (e : Nat) (a : VT) (H : VH) : List Nat → Bool
  | [] => true
  | p :: l => match (match rch mk p e with
      | true => true
      | false => match lget all p with
        | some o => still P a H o
        | none => false) with
    | true => stable P all mk e a H l
    | false => false
def keepP (mk : List Nat) (e : Nat) : List Nat → List Nat
  | [] => []
  | p :: l => match rch mk p e with | true => keepP mk e l | false => p :: keepP mk e l
/-- The run in a fit order. -/
def cRun (P : Program) (fe : FE) (nt : Nat) (all : List Oper) (ks : List SK) (mk : List Nat) : List Nat → VT → VH → List Nat → Option (VT × VH)
  | [], a, H, _ => some (a, H)
  | i :: rest, a, H, pd =>
    match lget all i with
    | none => none
    | some o => match wantedV all a o.guard with
      | false => match putD nt a o.dst vundef with
        | some a₁ => cRun P fe nt all ks mk rest a₁ H pd
        | none => none
      | true => match getK ks i with
        | .r => match (evR P o.op a H).get with
          | some v => match putD nt a o.dst v with
            | some a₁ => cRun P fe nt all ks mk rest a₁ H (match cls P o.op with | 0 => pd | _ => i :: pd)
            | none => none
          | none => none
        | _ => match opRun P fe o.op a H with
          | some (v, H₁) => match stable P all mk i a H₁ pd with
            | true => match putD nt a o.dst v with
              | some a₁ => cRun P fe nt all ks mk rest a₁ H₁ (keepP mk i pd)
              | none => none
            | false => none
          | none => none
def drawRun (P : Program) (fe : FE) : DE := fun nt all a H =>
  match regOk all (kinds P all (masks all []) all.length 0 all) (masks all []) (canonOrd (kinds P all (masks all []) all.length 0 all) (masks all []) all.length) all.length with
  | true => cRun P fe nt all (kinds P all (masks all []) all.length 0 all) (masks all []) (canonOrd (kinds P all (masks all []) all.length 0 all) (masks all []) all.length) a H []
  | false => none
def runV (P : Program) (n : Nat) (f : FuncId) : Bool :=
  match (evN P (drawRun P) n).2 f [] ⟨fun _ => none, .lf, 0⟩ with
  | some (.bool b, _) => b
  | _ => false
end
end Go.Ev
