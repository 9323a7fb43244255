/- Engine, part Pg: outcomes: code that ranges over maps, whatever the order. -/
import Derived.Test.YticgadnmlbfmfaaEvPa
import Derived.Test.YticgadnmlbfmfaaEvPf
namespace Go.Ev
noncomputable section
abbrev XCE := Nat → Code → VT → VH → Option (List (VX × VT × VH))
abbrev XFE := FuncId → List VV → VH → Option (List (VV × VH))
def bindL {α β : Type} (f : α → Option (List β)) : List α → Option (List β)
  | [] => some []
  | x :: l => match f x with
    | some r => match bindL f l with
      | some s => some (r ++ s)
      | none => none
    | none => none
theorem bindL_mem {α β : Type} {f : α → Option (List β)} : ∀ {l : List α} {outs : List β}, bindL f l = some outs → ∀ x ∈ l, ∃ r, f x = some r ∧ ∀ y ∈ r, y ∈ outs
  | [], _, _, x, hx => by cases hx
  | z :: l, outs, h, x, hx => by
    simp only [bindL] at h
    cases h1 : f z with
    | none => rw [h1] at h; cases h
    | some r => cases h2 : bindL f l with
      | none => rw [h1, h2] at h; cases h
      | some s =>
        rw [h1, h2] at h
        simp only [Option.some.injEq] at h
        subst h
        rcases List.mem_cons.1 hx with rfl | hx
        · exact ⟨r, h1, fun y hy => List.mem_append.2 (.inl hy)⟩
        · obtain ⟨r', e1, e2⟩ := bindL_mem h2 x hx
          exact ⟨r', e1, fun y hy => List.mem_append.2 (.inr (e2 y hy))⟩
def isNext : Op → Option Operand
  | .next it false => some it
  | _ => none
def xStep (P : Program) (fe : FE) (xf : XFE) (op : Op) (a : VT) (H : VH) : Option (List (VV × VH)) := match isNext op with
  | some it => match evOperand a it with
    | some p => nextX p H
    | none => none
  | none => match (match pEnter P op a H with | some (f, args) => xf f args H | none => none) with
    | some r => some r
    | none => match opRun P fe op a H with
      | some r => some [r]
      | none => none
def xOps (P : Program) (fe : FE) (xf : XFE) (nt : Nat) (all : List Oper) : List Oper → VT → VH → Option (List (VT × VH))
  | [], a, H => some [(a, H)]
  | o :: l, a, H => match gOk all a o.guard with
    | false => none
    | true => match wantedV all a o.guard with
      | true => match xStep P fe xf o.op a H with
        | some outs => bindL (fun r : VV × VH => match putD nt a o.dst r.1 with
          | some a₁ => xOps P fe xf nt all l a₁ r.2
          | none => none) outs
        | none => none
      | false => match putD nt a o.dst vundef with
        | some a₁ => xOps P fe xf nt all l a₁ H
        | none => none
def thenX (k : VT → VH → Option (List (VX × VT × VH))) (r : VX × VT × VH) : Option (List (VX × VT × VH)) := match r.1 with
  | .normal => k r.2.1 r.2.2
  | _ => some [r]
def outOf (id : Nat) (r : VX × VT × VH) : VX × VT × VH := match r.1 with
  | .exit j => match Nat.beq j id with
    | true => (.normal, r.2)
    | false => r
  | _ => r
def stepX (P : Program) (draw : DE) (fe : FE) (rc : XCE) (xf : XFE) : XCE := fun nt c a H =>
  match c with
  | .skip => some [(.normal, a, H)]
  | .region _ ⟨ops⟩ false => match xOps P fe xf nt ops ops a H with
    | some l => some (l.map fun r => (.normal, r))
    | none => none
  | .region _ ⟨ops⟩ true => match draw nt ops a H with
    | some r => some [(.normal, r)]
    | none => none
  | .seq x y => match rc nt x a H with
    | some l => bindL (thenX (rc nt y)) l
    | none => none
  | .cond c x y => match evOperand a c with
    | some (.bool b) => match b with
      | true => rc nt x a H
      | false => rc nt y a H
    | _ => none
  | .block id c => match rc nt c a H with
    | some l => some (l.map (outOf id))
    | none => none
  | .loop c => match rc nt c a H with
    | some l => bindL (thenX (rc nt (.loop c))) l
    | none => none
  | .rangeFunc g ⟨ps⟩ asg bd => match evOperand a g, Nat.blt H.next top with
    | some (.func (.func f) first cap), true => match evEnter P H f (first ++ (.yield H.next :: cap)) with
      | .enter f args => match xf f args (H.alloc (.loop .ready none a nt ps asg bd)) with
        | some l => bindL (fun r : VV × VH => match afterRange (fun _ _ _ _ => none) nt H.next a r.2 with
          | some q => some [q]
          | none => none) l
        | none => none
      | _ => none
    | _, _ => none
  | .exit id => some [(.exit id, a, H)]
  | .ret => some [(.ret, a, H)]
  | .scope c => rc nt c a H
  | .label _ => some [(.normal, a, H)]
  | _ => none
def stepXF (mf : List FuncId) (P : Program) (rc : XCE) : XFE := fun f args H => match memN f mf with
  | false => none
  | true => match P.funcs[f]? with
    | some fn => match fn.body with
      | some c => match Nat.ble args.length fn.ntmps, Nat.ble fn.ntmps top with
        | true, true => match rc fn.ntmps c (listT args 0 .lf) H with
          | some l => bindL (fun r : VX × VT × VH => match r.1 with
            | .exit _ => none
            | _ => match resL P r.2.1 r.2.2 fn.results.toList with
              | some vs => some [(oneV vs, r.2.2)]
              | none => none) l
          | none => none
        | _, _ => none
      | none => none
    | none => none

/-! ### soundness -/
theorem roundsIn_le {F : Fence} {n : Nat} {P : Program} {c : Code} {Q : Exit → Act → World → Prop} : ∀ (m m' : Nat) (a : Act) (w : World), m ≤ m' → Code.roundsIn F n P c Q m a w → Code.roundsIn F n P c Q m' a w
  | 0, _, _, _, _, h => h.elim
  | m + 1, 0, _, _, hle, _ => by omega
  | m + 1, m' + 1, a, w, hle, h => by
    rw [roundsIn_succ] at h ⊢
    refine wpIn_mono h ?_
    intro e a' w' hp
    cases e with
    | normal => exact roundsIn_le m m' a' w' (by omega) hp
    | _ => exact hp
/-- Behind code: one of the outcomes. -/
def PostX [Ext] (b : Nat → Prop) (w0 : World) (φ : Phi) (w : World) (sz : Nat) (H : VH) (outs : List (VX × VT × VH)) (e : Exit) (act' : Act) (w' : World) : Prop :=
  ∃ r ∈ outs, PostC b w0 φ w sz H r.1 r.2.1 r.2.2 e act' w'
def CallX [Ext] (P : Program) (w0 : World) (f : FuncId) (args : List VV) (H : VH) (outs : List (VV × VH)) : Prop :=
  ∀ (φ : Phi) (w : World) (args' : List Value), VRs φ args args' → HSim w0 φ H w →
    Calls P f ⟨args'⟩ w fun e w' => ∃ r ∈ outs, ∃ v' φ', e = .returned v' ∧ St φ w φ' w' ∧ VR φ' r.1 v' ∧ HSim w0 φ' r.2 w' ∧ r.2.base = H.base
def XFok [Ext] (P : Program) (xf : XFE) : Prop := ∀ w0 f args H outs, xf f args H = some outs → CallX P w0 f args H outs
def XCok [Ext] (P : Program) (ce : XCE) : Prop := ∀ w0 nt c a H outs, ce nt c a H = some outs → nt ≤ top → ∀ (φ : Phi) (act : Act) (w : World), TR φ a act.tmps → HSim w0 φ H w → nt ≤ act.tmps.size → ∀ b : Nat → Prop, (∀ r, w.heap.size ≤ r → b r) → MarksOK b w0 φ H w act.defers →
  c.wpIn (Fr none) 0 P (PostX b w0 φ w act.tmps.size H outs) act w
end
end Go.Ev
