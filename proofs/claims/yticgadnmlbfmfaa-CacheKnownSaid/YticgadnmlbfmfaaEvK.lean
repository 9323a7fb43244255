/- Engine, part K: regions in the order of the text, code, calls: the evaluator and its soundness. -/
import Derived.Test.YticgadnmlbfmfaaEvJ
import Derived.LoopNIn
import Derived.OrdersIn
namespace Go.Ev
noncomputable section
/-- The fence of a frame: whatever function, in a round or not. -/
def Fr (r : Option Nat) : Fence := { fn := fun _ => True, depth := none, alive := false, round := r }
theorem Fr_none : Fr none = Fence.wide := rfl
theorem callsIn_fr {r : Option Nat} {n : Nat} {P : Program} {f : FuncId} {args : Array Value} {w : World} {R : Ending → World → Prop} : CallsIn (Fr r) n P f args w R ↔ Calls P f args w R :=
  callsIn_wide (n := n)
def RO.get : RO → Option VV
  | .val v => some v
  | .chk b o => match b with | true => o.get | false => none
  | .ite b x y => match b with | true => x.get | false => y.get
  | .bad => none
theorem RNR_get {φ : Phi} {w : World} {r : Result Next} : ∀ {o : RO} {v : VV}, o.get = some v → RNR φ w r o → ∃ v', r = .ok (.value v') w ∧ VR φ v v'
  | .val u, v, h, k => by simp only [RO.get, Option.some.injEq] at h; subst h; exact k
  | .chk b o, v, h, k => by
    cases b with
    | true => exact RNR_get (o := o) h (k rfl)
    | false => simp [RO.get] at h
  | .ite b x y, v, h, k => by
    cases b with
    | true => exact RNR_get (by simpa [RO.get] using h) (k.1 rfl)
    | false => exact RNR_get (by simpa [RO.get] using h) (k.2 rfl)
  | .bad, v, h, _ => by simp [RO.get] at h
inductive Out1 where
  | val (v : VV) (H : VH)
  | enter (f : FuncId) (args : List VV)
  | round (i : Nat) (args : List VV)
  | bad
def Out.get : Out → Out1
  | .val v H => .val v H
  | .skip H => .val vundef H
  | .enter f args => .enter f args
  | .round i args => .round i args
  | .chk b o => match b with | true => o.get | false => .bad
  | .ite b x y => match b with | true => x.get | false => y.get
  | .bad => .bad
/-- The class of an operation: 0: it hangs on its operands alone; 1: it reads memory; 2: it makes a variable; 3: any other. -/
def cls (P : Program) : Op → Nat
  | .move _ | .assign _ | .pick .. | .build .. | .nilCheck _ | .binOp .. | .unOp .. | .makeInterface .. | .makeFunc .. | .fieldAddr .. | .field .. | .indexAddr .. | .index .. | .extract .. | .typeAssert .. => 0
  | .slice .. | .load .. | .lookup .. => 1
  | .convert _ d _ => match P.underlying d with | some (.slice _) => 3 | _ => 1
  | .call c => match c.callee with
    | .builtin b => match b with
      | .len | .cap => 1
      | .min | .max | .unsafeSliceData => 0
      | _ => 3
    | _ => 3
  | .alloc _ | .box .. | .buildSlice .. | .makeMap .. | .makeSlice .. => 2
  | _ => 3
def putD (nt : Nat) (a : VT) (d : Option Nat) (v : VV) : Option VT := match d with
  | some d => match Nat.blt d nt with
    | true => some (a.put d v)
    | false => none
  | none => some a
def wantedV (all : List Oper) (a : VT) : Option (Nat × Bool) → Bool
  | none => true
  | some (j, want) => match lget all j with
    | some o => match o.dst with
      | some d => match tget a d with
        | .bool b => match b with | true => want | false => !want
        | _ => false
      | none => false
    | none => false
def gV : VV → Bool
  | .any | .one | .sym _ => false
  | _ => true
/-- Is the value that a guard asks known? -/
def gOk (all : List Oper) (a : VT) : Option (Nat × Bool) → Bool
  | none => true
  | some (j, _) => match lget all j with
    | some o => match o.dst with
      | some d => gV (tget a d)
      | none => true
    | none => true
inductive VX where
  | normal
  | ret
  | exit (id : Nat)
def VX.real : VX → Exit
  | .normal => .normal
  | .ret => .ret
  | .exit id => .exit id
structure FE where
  call : FuncId → List VV → VH → Option (VV × VH)
  round : Nat → List VV → VH → Option (VV × VH)
abbrev CE := Nat → Code → VT → VH → Option (VX × VT × VH)
def opRun (P : Program) (fe : FE) (op : Op) (a : VT) (H : VH) : Option (VV × VH) :=
  match cls P op with
  | 0 | 1 => match (evR P op a H).get with
    | some v => some (v, H)
    | none => none
  | _ => match (evE P op a H).get with
    | .val v H₁ => some (v, H₁)
    | .enter f args => fe.call f args H
    | .round i args => fe.round i args H
    | .bad => none
def runOps (P : Program) (fe : FE) (nt : Nat) (all : List Oper) : List Oper → VT → VH → Option (VT × VH)
  | [], a, H => some (a, H)
  | o :: l, a, H => match gOk all a o.guard with
    | false => none
    | true => match wantedV all a o.guard with
      | true => match opRun P fe o.op a H with
        | some (v, H₁) => match putD nt a o.dst v with
          | some a₁ => runOps P fe nt all l a₁ H₁
          | none => none
        | none => none
      | false => match putD nt a o.dst vundef with
        | some a₁ => runOps P fe nt all l a₁ H
        | none => none
/-- A range over a function, behind its call. -/
def afterRange (rc : CE) (nt i : Nat) (a : VT) (H : VH) : Option (VX × VT × VH) := match H.locs.get i with
  | some (.loop st pend tm n ps asg bd) => match st with
    | .busy => none
    | _ => match pend with
      | none => some (.normal, a, { H with locs := H.locs.put i (.loop .exhausted none tm n ps asg bd) })
      | some c => rc nt c a { H with locs := H.locs.put i (.loop .exhausted (some c) tm n ps asg bd) }
  | _ => none
def stepC (top' : Bool) (P : Program) (draw : Nat → List Oper → VT → VH → Option (VT × VH)) (rc : CE) (fe : FE) : CE := fun nt c a H =>
  match c with
  | .rangeFunc g ⟨ps⟩ asg bd => match top', evOperand a g, Nat.blt H.next top with
    | true, some (.func (.func f) first cap), true => match evEnter P H f (first ++ (.yield H.next :: cap)) with
      | .enter f args => match fe.call f args (H.alloc (.loop .ready none a nt ps asg bd)) with
        | some (_, H₁) => afterRange rc nt H.next a H₁
        | none => none
      | _ => none
    | _, _, _ => none
  | .skip => some (.normal, a, H)
  | .region _ ⟨ops⟩ false => match runOps P fe nt ops ops a H with
    | some (a, H) => some (.normal, a, H)
    | none => none
  | .region _ ⟨ops⟩ true => match draw nt ops a H with
    | some (a, H) => some (.normal, a, H)
    | none => none
  | .seq x y => match rc nt x a H with
    | some (.normal, a, H) => rc nt y a H
    | r => r
  | .cond c x y => match evOperand a c with
    | some (.bool b) => match b with
      | true => rc nt x a H
      | false => rc nt y a H
    | _ => none
  | .block id c => match rc nt c a H with
    | some (.exit j, a, H) => match Nat.beq j id with
      | true => some (.normal, a, H)
      | false => some (.exit j, a, H)
    | r => r
  | .loop c => match rc nt c a H with
    | some (.normal, a, H) => rc nt (.loop c) a H
    | r => r
  | .exit id => some (.exit id, a, H)
  | .ret => some (.ret, a, H)
  | .scope c => rc nt c a H
  | .label _ => some (.normal, a, H)
  | _ => none
def listT : List VV → Nat → VT → VT
  | [], _, t => t
  | x :: l, i, t => listT l (i + 1) (t.put i x)
def resL (P : Program) (a : VT) (H : VH) : List ResultVar → Option (List VV)
  | [] => some []
  | .tmp t :: l => match resL P a H l with
    | some r => some (tget a t :: r)
    | none => none
  | .cell x t :: l => match tget a x with
    | .ptr (some ad) => match loadT P H t ad, resL P a H l with
      | some v, some r => some (v :: r)
      | _, _ => none
    | _ => none
def oneV : List VV → VV
  | [v] => v
  | l => .tuple l
def putPs : List Tmp → List VV → VT → VT
  | p :: ps, x :: xs, a => putPs ps xs (a.put p x)
  | _, _, a => a
def psOk (nt : Nat) : List Tmp → Bool
  | [] => true
  | p :: ps => match Nat.blt p nt with | true => psOk nt ps | false => false
/-- The end of a round. -/
def roundEnd (i : Nat) (x : VX) (H : VH) : Option (VV × VH) := match H.locs.get i with
  | some (.loop _ _ tm n ps asg bd) => match x with
    | .normal => some (.bool true, { H with locs := H.locs.put i (.loop .ready none tm n ps asg bd) })
    | .ret => some (.bool false, { H with locs := H.locs.put i (.loop .done (some .ret) tm n ps asg bd) })
    | .exit id => some (.bool false, { H with locs := H.locs.put i (.loop .done (some (.exit id)) tm n ps asg bd) })
  | _ => none
/-- A round of a range over a function. -/
def stepR (rc : CE) : Nat → List VV → VH → Option (VV × VH) := fun i args H =>
  match H.locs.get i with
  | some (.loop _ _ tm nt ps asg bd) => match Nat.beq args.length ps.length, psOk nt ps, Nat.ble nt top with
    | true, true, true => match rc nt asg (putPs ps args tm) H with
      | some (.normal, a₁, H₁) => match H₁.locs.get i with
        | some (.loop .ready pend tm' n' ps' asg' bd') => match rc nt bd a₁ { H₁ with locs := H₁.locs.put i (.loop .busy pend tm' n' ps' asg' bd') } with
          | some (x, _, H₂) => roundEnd i x H₂
          | none => none
        | _ => none
      | _ => none
    | _, _, _ => none
  | _ => none
def stepF (P : Program) (rc : CE) : FuncId → List VV → VH → Option (VV × VH) := fun f args H =>
  match P.funcs[f]? with
  | some fn => match fn.body with
    | some c => match Nat.ble args.length fn.ntmps, Nat.ble fn.ntmps top with
      | true, true => match rc fn.ntmps c (listT args 0 .lf) H with
        | some (.exit _, _, _) => none
        | some (_, a, H) => match resL P a H fn.results.toList with
          | some l => some (oneV l, H)
          | none => none
        | none => none
      | _, _ => none
    | none => none
  | none => none

/-! ### soundness -/
def CallOK [Ext] (P : Program) (w0 : World) (f : FuncId) (args : List VV) (H : VH) (Q : VV → VH → Prop) : Prop :=
  ∀ (φ : Phi) (w : World) (args' : List Value), VRs φ args args' → HSim w0 φ H w →
    Calls P f ⟨args'⟩ w fun e w' => ∃ v v' φ' H', e = .returned v' ∧ St φ w φ' w' ∧ VR φ' v v' ∧ HSim w0 φ' H' w' ∧ H'.base = H.base ∧ Q v H'
def RoundOK [Ext] (P : Program) (w0 : World) (i : Nat) (args : List VV) (H : VH) (v : VV) (H' : VH) : Prop :=
  ∀ (φ : Phi) (w : World) (args' : List Value) (inf : Inf) (L : Loop) (r : Option Nat), VRs φ args args' → HSim w0 φ H w → φ i = some inf → w.heap[inf.blk]? = some (.loop L) →
    RoundIn (Fr r) 0 P inf.blk L.fn ((L.params.zip ⟨args'⟩).foldl (fun tmps (p : Tmp × Value) => tmps.setIfInBounds p.1 p.2) L.tmps) L.assign L.body w fun e w' => ∃ v' φ', e = .returned v' ∧ St φ w φ' w' ∧ VR φ' v v' ∧ HSim w0 φ' H' w' ∧ H'.base = H.base
structure FEok [Ext] (P : Program) (fe : FE) : Prop where
  call : ∀ w0 f args H v H', fe.call f args H = some (v, H') → CallOK P w0 f args H fun u K => u = v ∧ K = H'
  round : ∀ w0 i args H v H', fe.round i args H = some (v, H') → RoundOK P w0 i args H v H'
theorem putD_sound {φ : Phi} {nt : Nat} {a a₁ : VT} {act : Act} (ht : TR φ a act.tmps) (hn : nt ≤ act.tmps.size) (hb : nt ≤ top) {d : Option Nat} {v : VV} {v' : Value} (hv : VR φ v v') (h : putD nt a d v = some a₁) :
    TR φ a₁ (act.put d v').tmps ∧ (act.put d v').tmps.size = act.tmps.size ∧ (act.put d v').defers = act.defers := by
  cases d with
  | none => simp only [putD, Option.some.injEq] at h; subst h; exact ⟨ht, rfl, rfl⟩
  | some d =>
    simp only [putD] at h
    cases hd : Nat.blt d nt with
    | false => rw [hd] at h; cases h
    | true =>
      rw [hd] at h
      simp only [Option.some.injEq] at h
      subst h
      have hlt := lt_of_blt hd
      refine ⟨fun t => ?_, by simp [Act.put], rfl⟩
      by_cases e : t = d
      · subst e
        have : tget (a.put t v) t = v := by simp [tget, TT.get_put_same a t v (by omega)]
        rw [this]
        have e2 : (act.put (some t) v').tmps.getD t undef = v' := by
          simp only [Act.put, Array.getD_eq_getD_getElem?, Array.getElem?_setIfInBounds]
          simp [show t < act.tmps.size by omega]
        rw [e2]; exact hv
      · have : tget (a.put d v) t = tget a t := by simp [tget, TT.get_put_other a d t v e]
        rw [this]
        have e2 : (act.put (some d) v').tmps.getD t undef = act.tmps.getD t undef := by
          simp only [Act.put, Array.getD_eq_getD_getElem?, Array.getElem?_setIfInBounds]
          rw [if_neg (fun e' => e e'.symm)]
        rw [e2]; exact ht t
theorem VR_undef (φ : Phi) : VR φ vundef undef := VR_unit φ
theorem VR_bool_inv {φ : Phi} {x : VV} {b : Bool} (hg : gV x = true) (h : VR φ x (.bool b)) : x = .bool b := by
  cases x with
  | bool c => simp only [VR] at h; cases h; rfl
  | any => simp [gV] at hg
  | one => simp [gV] at hg
  | sym i => simp [gV] at hg
  | ptr p => cases p <;> simp [VR] at h
  | slice p l c => cases p <;> simp [VR] at h
  | map p => cases p <;> simp [VR] at h
  | _ => simp [VR] at h
theorem wantedV_sound {φ : Phi} {ops : List Oper} {a : VT} {act : Act} (ht : TR φ a act.tmps) (o : Oper) (hgo : gOk ops a o.guard = true) : Region.wanted o (yielded ⟨ops⟩ act.tmps) = wantedV ops a o.guard := by
  unfold Region.wanted wantedV
  unfold gOk at hgo
  cases hg : o.guard with
  | none => rfl
  | some jw =>
    obtain ⟨j, want⟩ := jw
    rw [hg] at hgo
    simp only at hgo
    rw [lget_eq] at hgo
    simp only [yielded]
    rw [lget_eq]
    have e0 : (⟨ops⟩ : Array Oper)[j]? = ops[j]? := by simp
    rw [e0]
    cases hj : ops[j]? with
    | none => rfl
    | some oj =>
      rw [hj] at hgo
      simp only at hgo
      simp only [Option.bind_some]
      cases hd : oj.dst with
      | none => rfl
      | some d =>
        rw [hd] at hgo
        simp only at hgo
        simp only [Option.bind_some]
        have hr := ht d
        have hget : act.tmps.getD d undef = (act.tmps[d]?).getD undef := by simp [Array.getD_eq_getD_getElem?]
        rw [hget] at hr
        cases hv : act.tmps[d]? with
        | none =>
          rw [hv] at hr
          simp only [Option.getD_none] at hr
          cases hx : tget a d with
          | bool b => rw [hx] at hr; simp [VR, undef] at hr
          | _ => rfl
        | some v =>
          rw [hv] at hr
          simp only [Option.getD_some] at hr
          cases v with
          | bool b =>
            rw [VR_bool_inv hgo hr]
            cases b <;> cases want <;> rfl
          | _ =>
            cases hx : tget a d with
            | bool b => rw [hx] at hr; simp [VR] at hr
            | _ => rfl
/-- The marks that ranges over functions leave among the deferred calls. -/
def markOf (r : Nat) : Deferred := { target := .collected r, args := #[] }
def MarksOK (b : Nat → Prop) (w0 : World) (φ : Phi) (H : VH) (w : World) (ds : List Deferred) : Prop :=
  ∃ rs : List Nat, ds = rs.map markOf ∧ rs.Nodup ∧ ∀ r ∈ rs, b r ∧ w.heap[r]? = some (.deferred (some [])) ∧ (∀ i inf, φ i = some inf → inf.blk ≠ r) ∧ w0.heap.size ≤ r ∧ H.base.blk r = none
theorem MarksOK.nil {b : Nat → Prop} {w0 : World} {φ : Phi} {H : VH} {w : World} : MarksOK b w0 φ H w [] := ⟨[], rfl, List.nodup_nil, fun r h => by cases h⟩
theorem MarksOK.step {b : Nat → Prop} {w0 : World} {φ φ' : Phi} {H H' : VH} {w w' : World} {ds : List Deferred} (h : MarksOK b w0 φ H w ds) (hs : St φ w φ' w') (hb : H'.base = H.base) : MarksOK b w0 φ' H' w' ds := by
  obtain ⟨rs, h1, h2, h3⟩ := h
  refine ⟨rs, h1, h2, fun r hr => ?_⟩
  obtain ⟨k1, k2, k3, k4, k5⟩ := h3 r hr
  have hlt : r < w.heap.size := (Array.getElem?_eq_some_iff.1 k2).1
  refine ⟨k1, by rw [hs.frame r hlt k3]; exact k2, fun i inf hi => ?_, k4, by rw [hb]; exact k5⟩
  rcases hs.own i inf hi with ⟨j, jnf, h4, h5⟩ | h4
  · rw [← h5]; exact k3 j jnf h4
  · omega
/-- What holds behind code. -/
def PostC [Ext] (b : Nat → Prop) (w0 : World) (φ : Phi) (w : World) (sz : Nat) (H : VH) (x : VX) (a₁ : VT) (H₁ : VH) (e : Exit) (act' : Act) (w' : World) : Prop :=
  ∃ φ', e = x.real ∧ St φ w φ' w' ∧ TR φ' a₁ act'.tmps ∧ HSim w0 φ' H₁ w' ∧ H₁.base = H.base ∧ act'.tmps.size = sz ∧ MarksOK b w0 φ' H₁ w' act'.defers
theorem PostC.trans [Ext] {b : Nat → Prop} {w0 : World} {φ φ' : Phi} {w w' : World} {sz : Nat} {H H₁ H₂ : VH} {x : VX} {a₂ : VT} {e : Exit} {act' : Act} {w'' : World} (hs : St φ w φ' w') (hb : H₁.base = H.base) (h : PostC b w0 φ' w' sz H₁ x a₂ H₂ e act' w'') : PostC b w0 φ w sz H x a₂ H₂ e act' w'' := by
  obtain ⟨ψ, h1, h2, h3, h4, h5, h6, h7⟩ := h
  exact ⟨ψ, h1, hs.trans h2, h3, h4, h5.trans hb, h6, h7⟩
theorem Out_get [Ext] {w0 : World} {φ : Phi} {H : VH} {w : World} {r : Result Next} : ∀ {o : Out}, OutR w0 φ H w r o → match o.get with
    | .val v H₁ => (∃ v' w₁ φ₁, r = .ok (.value v') w₁ ∧ St φ w φ₁ w₁ ∧ VR φ₁ v v' ∧ HSim w0 φ₁ H₁ w₁ ∧ H₁.base = H.base) ∨ (v = vundef ∧ ∃ w₁ φ₁, r = .ok .skip w₁ ∧ St φ w φ₁ w₁ ∧ HSim w0 φ₁ H₁ w₁ ∧ H₁.base = H.base)
    | .enter f args => ∃ args', r = .ok (.enter f ⟨args'⟩) w ∧ VRs φ args args'
    | .round i args => ∃ inf L args', φ i = some inf ∧ w.heap[inf.blk]? = some (.loop L) ∧ args'.length = L.params.size ∧ VRs φ args args' ∧ r = .ok (.round inf.blk L.fn ((L.params.zip ⟨args'⟩).foldl (fun tmps (p : Tmp × Value) => tmps.setIfInBounds p.1 p.2) L.tmps) L.assign L.body) w
    | .bad => True
  | .val v H₁, h => .inl h
  | .skip H₁, h => .inr ⟨rfl, h⟩
  | .enter f args, h => h
  | .round _ _, h => h
  | .chk b o, h => by
    cases b with
    | true => exact Out_get (o := o) (h rfl)
    | false => exact trivial
  | .ite b x y, h => by
    cases b with
    | true => exact Out_get (o := x) (h.1 rfl)
    | false => exact Out_get (o := y) (h.2 rfl)
  | .bad, _ => trivial
/-- One operation. -/
theorem opRun_sound [Ext] {P : Program} (hng : NoNG P) {fe : FE} (hfe : FEok P fe) {w0 : World} {φ : Phi} {w : World} {a : VT} {act : Act} {H : VH} (ht : TR φ a act.tmps) (hs : HSim w0 φ H w) {o : Oper} (hd : ∀ c, o.op ≠ .defer c) {v : VV} {H₁ : VH} (h : opRun P fe o.op a H = some (v, H₁))
    (r : Option Nat) (K : Act → World → Prop) (Q : Exit → Act → World → Prop)
    (hK : ∀ v' w₁ φ₁, St φ w φ₁ w₁ → VR φ₁ v v' → HSim w0 φ₁ H₁ w₁ → H₁.base = H.base → K (act.put o.dst v') w₁) : o.wpIn (Fr r) 0 P act w K Q := by
  refine ⟨fun _ _ => trivial, ?_⟩
  rw [show (Fr r).round = r from rfl, Oper.semAt_eq _ _ _ hd]
  have read : ∀ {u : VV}, (evR P o.op a H).get = some u → some (u, H) = some (v, H₁) → o.uponIn (Fr r) 0 P act K Q ((execOp act.eval o).run P w) := by
    intro u hu he
    simp only [Option.some.injEq, Prod.mk.injEq] at he
    obtain ⟨rfl, rfl⟩ := he
    obtain ⟨v', h1, h2⟩ := RNR_get hu (evR_sound ht hs o)
    rw [h1]
    exact hK v' w φ (.refl φ w) h2 hs rfl
  have write : (match (evE P o.op a H).get with
      | .val v H₁ => some (v, H₁)
      | .enter f args => fe.call f args H
      | .round i args => fe.round i args H
      | .bad => none) = some (v, H₁) → o.uponIn (Fr r) 0 P act K Q ((execOp act.eval o).run P w) := by
    intro he
    have hg := Out_get (evE_sound hng ht hs o)
    cases hq : (evE P o.op a H).get with
    | val u K' =>
      rw [hq] at he hg
      simp only [Option.some.injEq, Prod.mk.injEq] at he
      obtain ⟨rfl, rfl⟩ := he
      simp only at hg
      rcases hg with ⟨v', w₁, φ₁, h1, h2, h3, h4, h5⟩ | ⟨rfl, w₁, φ₁, h1, h2, h3, h4⟩
      · rw [h1]; exact hK v' w₁ φ₁ h2 h3 h4 h5
      · rw [h1]; exact hK undef w₁ φ₁ h2 (VR_undef φ₁) h3 h4
    | enter f args =>
      rw [hq] at he hg
      simp only at he hg
      obtain ⟨args', h1, h2⟩ := hg
      rw [h1]
      refine ⟨(fun hx => by cases hx), ?_⟩
      refine callsIn_fr.2 ((hfe.call w0 f args H v H₁ he φ w args' h2 hs).mono ?_)
      rintro e w' ⟨u, v', φ', H', rfl, k1, k2, k3, k4, rfl, rfl⟩
      exact hK v' w' φ' k1 k2 k3 k4
    | round i args =>
      rw [hq] at he hg
      simp only at he hg
      obtain ⟨inf, L, args', h1, h2, h3, h4, h5⟩ := hg
      rw [h5]
      refine ⟨(fun hx => by cases hx), ?_⟩
      refine (hfe.round w0 i args H v H₁ he φ w args' inf L r h4 hs h1 h2).mono ?_
      rintro e w' ⟨v', φ', rfl, k1, k2, k3, k4⟩
      exact hK v' w' φ' k1 k2 k3 k4
    | bad => rw [hq] at he; cases he
  unfold opRun at h
  split at h
  · cases hg : (evR P o.op a H).get with
    | none => rw [hg] at h; cases h
    | some u => rw [hg] at h; exact read hg h
  · cases hg : (evR P o.op a H).get with
    | none => rw [hg] at h; cases h
    | some u => rw [hg] at h; exact read hg h
  · exact write h
theorem opRun_noDefer {P : Program} {fe : FE} {op : Op} {a : VT} {H : VH} {v : VV} {H₁ : VH} (h : opRun P fe op a H = some (v, H₁)) : ∀ c, op ≠ .defer c := by
  rintro c rfl
  simp [opRun, cls, evE, Out.get] at h
/-- Operations in the order of the text. -/
theorem runOps_sound [Ext] {P : Program} (hng : NoNG P) {fe : FE} (hfe : FEok P fe) {w0 : World} {nt : Nat} (hb : nt ≤ top) {all : List Oper} (r : Option Nat) : ∀ (l pre : List Oper) (a : VT) (H : VH) (a₁ : VT) (H₁ : VH), all = pre ++ l → runOps P fe nt all l a H = some (a₁, H₁) →
    ∀ (φ : Phi) (act : Act) (w : World), TR φ a act.tmps → HSim w0 φ H w → nt ≤ act.tmps.size → ∀ b', MarksOK b' w0 φ H w act.defers → ∀ (Q : Exit → Act → World → Prop), (∀ act' w', PostC b' w0 φ w act.tmps.size H .normal a₁ H₁ .normal act' w' → Q .normal act' w') →
    wpOpsIn (Fr r) 0 P ⟨all⟩ Q (List.range' pre.length l.length) act w := by
  intro l
  induction l with
  | nil =>
    intro pre a H a₁ H₁ _ h φ act w ht hs hn b' hdf Q hQ
    simp only [runOps, Option.some.injEq, Prod.mk.injEq] at h
    obtain ⟨rfl, rfl⟩ := h
    exact hQ act w ⟨φ, rfl, .refl φ w, ht, hs, rfl, rfl, hdf⟩
  | cons o l ih =>
    intro pre a H a₁ H₁ hall h φ act w ht hs hn b' hdf Q hQ
    have hget : (⟨all⟩ : Array Oper)[pre.length]? = some o := by simp [hall]
    simp only [List.length_cons, List.range'_succ, wpOpsIn, hget]
    have hall' : all = (pre ++ [o]) ++ l := by simp [hall]
    have hlen : (pre ++ [o]).length = pre.length + 1 := by simp
    simp only [runOps] at h
    cases hgo : gOk all a o.guard with
    | false => rw [hgo] at h; cases h
    | true =>
    rw [hgo] at h
    simp only at h
    have hwant := wantedV_sound (ops := all) ht o hgo
    cases hw : wantedV all a o.guard with
    | true =>
      rw [hw] at h hwant
      rw [if_pos hwant]
      simp only at h
      cases hr : opRun P fe o.op a H with
      | none => rw [hr] at h; cases h
      | some vh =>
        obtain ⟨v, H'⟩ := vh
        rw [hr] at h
        simp only at h
        cases hp : putD nt a o.dst v with
        | none => rw [hp] at h; cases h
        | some a' =>
          rw [hp] at h
          simp only at h
          refine opRun_sound hng hfe ht hs (opRun_noDefer hr) hr r _ _ ?_
          intro v' w₁ φ₁ k1 k2 k3 k4
          obtain ⟨p1, p2, p3⟩ := putD_sound (ht.mono k1.le) hn hb k2 hp
          have := ih (pre ++ [o]) a' H' a₁ H₁ hall' h φ₁ (act.put o.dst v') w₁ p1 k3 (by omega) b' (by rw [p3]; exact hdf.step k1 k4) Q (fun act' w' hp' => hQ act' w' (by rw [p2] at hp'; exact PostC.trans k1 k4 hp'))
          rwa [hlen] at this
    | false =>
      rw [hw] at h hwant
      rw [if_neg (by simp [hwant])]
      simp only at h
      refine ⟨fun _ _ => trivial, ?_⟩
      cases hp : putD nt a o.dst vundef with
      | none => rw [hp] at h; cases h
      | some a' =>
        rw [hp] at h
        simp only at h
        obtain ⟨p1, p2, p3⟩ := putD_sound ht hn hb (VR_undef φ) hp
        have := ih (pre ++ [o]) a' H a₁ H₁ hall' h φ (act.put o.dst undef) w p1 hs (by omega) b' (by rw [p3]; exact hdf) Q (fun act' w' hp' => hQ act' w' (by rw [p2] at hp'; exact hp'))
        rwa [hlen] at this
end
end Go.Ev
