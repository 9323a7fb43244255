/- Engine, part F: building aggregates; the dispatch of the operations that only read. -/
import Derived.Test.YticgadnmlbfmfaaEvE
import Derived.Lib.UnsafeStr
namespace Go.Ev
noncomputable section
def fillL (places : Nat → Option (Nat × Nat)) : List VV → List (Nat × VV) → Option (List VV)
  | cs, [] => some cs
  | cs, (i, v) :: rest => match places i with
    | none => none
    | some (off, size) => match Nat.beq v.cells.length size with
      | false => none
      | true => match over cs off v.cells with
        | some cs' => fillL places cs' rest
        | none => none
theorem foldl_set {α : Type} (off : Nat) : ∀ (vs : List α) (i : Nat) (cs : Array α), off + i + vs.length ≤ cs.size →
    ((vs.zipIdx i).foldl (fun cs (p : α × Nat) => cs.setIfInBounds (off + p.2) p.1) cs).size = cs.size ∧
    ∀ j, ((vs.zipIdx i).foldl (fun cs (p : α × Nat) => cs.setIfInBounds (off + p.2) p.1) cs)[j]? = if off + i ≤ j ∧ j < off + i + vs.length then vs[j - (off + i)]? else cs[j]? := by
  intro vs
  induction vs with
  | nil => intro i cs _; exact ⟨rfl, fun j => by rw [if_neg (by simp)]; rfl⟩
  | cons v vs ih =>
    intro i cs hsz
    simp only [List.length_cons] at hsz
    have := ih (i + 1) (cs.setIfInBounds (off + i) v) (by simp; omega)
    obtain ⟨h1, h2⟩ := this
    refine ⟨by simp only [List.zipIdx_cons, List.foldl_cons]; rw [h1]; simp, fun j => ?_⟩
    simp only [List.zipIdx_cons, List.foldl_cons]
    rw [h2 j]
    by_cases hj : off + (i + 1) ≤ j ∧ j < off + (i + 1) + vs.length
    · rw [if_pos hj, if_pos ⟨by omega, by simp only [List.length_cons]; omega⟩]
      rw [show j - (off + i) = (j - (off + (i + 1))) + 1 by omega]
      simp
    · rw [if_neg hj]
      by_cases he : j = off + i
      · subst he
        rw [if_pos ⟨by omega, by simp only [List.length_cons]; omega⟩]
        rw [Array.getElem?_setIfInBounds, if_pos rfl, if_pos (by omega)]
        simp
      · rw [if_neg (by simp only [List.length_cons]; omega), Array.getElem?_setIfInBounds, if_neg (fun e => he e.symm)]
theorem fillL_sound {φ : Phi} {places : Nat → Option (Nat × Nat)} : ∀ (parts : List (Nat × VV)) (parts' : List (Nat × Value)) (cs : List VV) (cs' : Array Value) (r : List VV), (∀ p ∈ parts, isAny p.2 = false) → VRs φ cs cs'.toList →
    VRs φ (parts.map (·.2)) (parts'.map (·.2)) → parts.map (·.1) = parts'.map (·.1) → fillL places cs parts = some r → ∃ r', Instr.fill places cs' parts' = some r' ∧ VRs φ r r'.toList
  | [], parts', cs, cs', r, _, hc, hp, hi, h => by
    have : parts' = [] := by simpa using hi.symm
    subst this
    simp only [fillL, Option.some.injEq] at h
    subst h
    exact ⟨cs', rfl, hc⟩
  | (i, v) :: parts, parts', cs, cs', r, hna, hc, hp, hi, h => by
    cases parts' with
    | nil => simp at hi
    | cons p' parts' =>
      obtain ⟨i', v'⟩ := p'
      simp only [List.map_cons, List.cons.injEq] at hi
      obtain ⟨rfl, hi⟩ := hi
      simp only [List.map_cons, VRs] at hp
      obtain ⟨y, ys, he, h1, h2⟩ := hp
      simp only [List.cons.injEq] at he
      obtain ⟨rfl, rfl⟩ := he
      simp only [fillL] at h
      cases hpl : places i with
      | none => rw [hpl] at h; simp at h
      | some os =>
        obtain ⟨off, size⟩ := os
        rw [hpl] at h
        simp only at h
        cases hb : Nat.beq v.cells.length size with
        | false => rw [hb] at h; simp at h
        | true =>
          rw [hb] at h
          simp only at h
          cases ho : over cs off v.cells with
          | none => rw [ho] at h; simp at h
          | some cs2 =>
            rw [ho] at h
            simp only at h
            obtain ⟨k1, k2, k3⟩ := over_eq _ _ _ _ ho
            have hcells := VR_cells (hna _ (List.mem_cons_self ..)) h1
            have hl := VRs_length _ _ hcells
            have hlc := VRs_length _ _ hc
            have hsz : v.cells.length = size := Nat.eq_of_beq_eq_true hb
            have hl' : v.cells.length = v'.cells.size := by simpa using hl
            have hlc' : cs.length = cs'.size := by simpa using hlc
            obtain ⟨f1, f2⟩ := foldl_set off v'.cells.toList 0 cs' (by simp only [Array.length_toList]; omega)
            have hnew : VRs φ cs2 ((v'.cells.toList.zipIdx 0).foldl (fun cs (p : Value × Nat) => cs.setIfInBounds (off + p.2) p.1) cs').toList := by
              refine VRs_of_get _ _ (by rw [k2]; simp only [Array.length_toList]; rw [f1]; exact hlc') ?_
              intro j x w hx hw
              rw [k3 j] at hx
              rw [Array.getElem?_toList, f2 j] at hw
              simp only [Array.length_toList, Nat.add_zero] at hw
              rw [← hl'] at hw
              split at hx
              · rename_i hj
                rw [if_pos hj] at hw
                obtain ⟨z, hz1, hz2⟩ := VRs_get _ _ hcells _ x hx
                rw [hz1] at hw; cases hw; exact hz2
              · rename_i hj
                rw [if_neg hj] at hw
                obtain ⟨z, hz1, hz2⟩ := VRs_get _ _ hc _ x hx
                rw [Array.getElem?_toList] at hz1
                rw [hz1] at hw; cases hw; exact hz2
            obtain ⟨r', g1, g2⟩ := fillL_sound parts parts' cs2 _ r (fun p hp => hna p (List.mem_cons_of_mem _ hp)) hnew h2 hi h
            refine ⟨r', ?_, g2⟩
            unfold Instr.fill
            simp only [hpl]
            rw [if_neg (by simp only [Bool.or_eq_true, ne_eq, decide_eq_true_eq, not_or, Decidable.not_not]; omega)]
            rw [← g1]
            congr 1
            rw [← Array.foldl_toList]
            simp
def placesOf (P : Program) : List Field → Option (List (Nat × Nat))
  | [] => some []
  | f :: fs => match P.info? f.type with
    | none => none
    | some i => match placesOf P fs with
      | none => none
      | some r => some ((f.offset, i.size) :: r)
theorem placesOf_eq {P : Program} : ∀ (fs : List Field) (r : List (Nat × Nat)), placesOf P fs = some r → fs.mapM (fun f => (P.info? f.type).map fun i => (f.offset, i.size)) = some r
  | [], r, h => by simp only [placesOf, Option.some.injEq] at h; subst h; rfl
  | f :: fs, r, h => by
    simp only [placesOf] at h
    cases hi : P.info? f.type with
    | none => rw [hi] at h; cases h
    | some i => cases hr : placesOf P fs with
      | none => rw [hi, hr] at h; cases h
      | some r' =>
        rw [hi, hr] at h
        simp only [Option.some.injEq] at h
        subst h
        simp [List.mapM_cons, hi, placesOf_eq fs r' hr]
def evBuild (P : Program) (t : TypeId) (parts : List (Nat × VV)) : Option VV :=
  match tzero P t, P.underlying t with
  | some z, some (.struct fs) => match placesOf P fs.toList with
    | some pl => match fillL (lget pl) z.cells parts with
      | some cs => some (.agg cs)
      | none => none
    | none => none
  | some z, some (.array _ e) => match P.info? e with
    | some i => match fillL (fun k => some (k * i.size, i.size)) z.cells parts with
      | some cs => some (.agg cs)
      | none => none
    | none => none
  | _, _ => none
theorem evBuild_sound {P : Program} {φ : Phi} {t : TypeId} {parts : List (Nat × VV)} {parts' : List (Nat × Value)} (hna : ∀ p ∈ parts, isAny p.2 = false) (hp : VRs φ (parts.map (·.2)) (parts'.map (·.2))) (hi : parts.map (·.1) = parts'.map (·.1)) {v : VV} (h : evBuild P t parts = some v) :
    ∃ v', (∀ w, (Instr.build t ⟨parts'⟩).run P w = .ok v' w) ∧ VR φ v v' := by
  unfold evBuild at h
  cases hz : tzero P t with
  | none => rw [hz] at h; simp at h
  | some z =>
    have hz0 := hz
    unfold tzero at hz0
    cases hit : P.info? t with
    | none => rw [hit] at hz0; simp at hz0
    | some it =>
      rw [hit] at hz0
      simp only at hz0
      cases hiz : it.zero with
      | none => rw [hiz] at hz0; simp at hz0
      | some z' =>
        rw [hiz] at hz0
        have hzr := VR_cells (emb_notAny z' z hz0) (VR_emb φ z' z hz0)
        rw [hz] at h
        cases hu : P.underlying t with
        | none => rw [hu] at h; simp at h
        | some d =>
          rw [hu] at h
          cases d with
          | struct fs =>
            simp only at h
            cases hpl : placesOf P fs.toList with
            | none => rw [hpl] at h; simp at h
            | some pl =>
              rw [hpl] at h
              simp only at h
              cases hf : fillL (lget pl) z.cells parts with
              | none => rw [hf] at h; simp at h
              | some cs =>
                rw [hf] at h
                simp only [Option.some.injEq] at h
                subst h
                have e : lget pl = (pl.toArray[·]?) := by funext k; rw [lget_eq]; simp
                rw [e] at hf
                obtain ⟨r', r1, r2⟩ := fillL_sound parts parts' _ _ _ hna hzr hp hi hf
                refine ⟨.agg r', fun w => ?_, by simp only [VR]; exact ⟨r'.toList, r2, rfl⟩⟩
                refine run_build w t ⟨parts'⟩ r' ?_
                simp [Program.built, hit, hu, hiz, placesOf_eq _ _ hpl] 
                simpa using r1
          | array n e =>
            simp only at h
            cases he : P.info? e with
            | none => rw [he] at h; simp at h
            | some i =>
              rw [he] at h
              simp only at h
              cases hf : fillL (fun k => some (k * i.size, i.size)) z.cells parts with
              | none => rw [hf] at h; simp at h
              | some cs =>
                rw [hf] at h
                simp only [Option.some.injEq] at h
                subst h
                obtain ⟨r', r1, r2⟩ := fillL_sound parts parts' _ _ _ hna hzr hp hi hf
                refine ⟨.agg r', fun w => ?_, by simp only [VR]; exact ⟨r'.toList, r2, rfl⟩⟩
                refine run_build w t ⟨parts'⟩ r' ?_
                simp [Program.built, hit, hu, hiz, he]
                simpa using r1
          | _ => simp at h

def evParts (a : VT) : List (Nat × Operand) → Option (List (Nat × VV))
  | [] => some []
  | (i, o) :: l => match evOperand a o with
    | none => none
    | some x => match evParts a l with
      | none => none
      | some xs => some ((i, x) :: xs)
theorem evParts_sound {φ : Phi} {a : VT} {act : Act} (ht : TR φ a act.tmps) : ∀ (ps : List (Nat × Operand)) (vs : List (Nat × VV)), evParts a ps = some vs →
    VRs φ (vs.map (·.2)) ((ps.map fun p => (p.1, act.eval p.2)).map (·.2)) ∧ vs.map (·.1) = (ps.map fun p => (p.1, act.eval p.2)).map (·.1)
  | [], vs, h => by simp only [evParts, Option.some.injEq] at h; subst h; exact ⟨by simp [VRs], rfl⟩
  | (i, o) :: ps, vs, h => by
    simp only [evParts] at h
    cases hx : evOperand a o with
    | none => rw [hx] at h; simp at h
    | some v => cases hr : evParts a ps with
      | none => rw [hx, hr] at h; simp at h
      | some us =>
        rw [hx, hr] at h
        simp only [Option.some.injEq] at h
        subst h
        obtain ⟨h1, h2⟩ := evParts_sound ht ps us hr
        refine ⟨?_, by simp only [List.map_cons, h2]⟩
        simp only [List.map_cons, VRs]
        exact ⟨_, _, rfl, evOperand_sound ht hx, h1⟩
theorem evParts_notAny {a : VT} : ∀ (ps : List (Nat × Operand)) (vs : List (Nat × VV)), evParts a ps = some vs → ∀ p ∈ vs, isAny p.2 = false
  | [], vs, h => by simp only [evParts, Option.some.injEq] at h; subst h; simp
  | (i, o) :: ps, vs, h => by
    simp only [evParts] at h
    cases hx : evOperand a o with
    | none => rw [hx] at h; simp at h
    | some v => cases hr : evParts a ps with
      | none => rw [hx, hr] at h; simp at h
      | some us =>
        rw [hx, hr] at h
        simp only [Option.some.injEq] at h
        subst h
        intro p hp
        rcases List.mem_cons.1 hp with rfl | hp
        · exact evOperand_notAny hx
        · exact evParts_notAny ps us hr p hp
def evPick (c x y : Option VV) : RO :=
  match c with
  | some (.bool b) => match x, y with
    | some (.bool p), some (.bool q) => .val (.bool (match b with | true => p | false => q))
    | x, y => .ite b (RO.of x) (RO.of y)
  | _ => .bad
def nilOk : VV → Bool
  | .ptr none | .nilIface | .nilFunc => false
  | .func (.method _) _ _ => false
  | .any | .one | .sym _ => false
  | _ => true
def notIface : TypeDesc → Bool
  | .interface _ => false
  | _ => true
def evAssert (P : Program) (x : VV) (asserted : TypeId) (ok : Bool) : RO :=
  match P.underlying asserted with
  | none => .bad
  | some d => match notIface d with
    | false => .bad
    | true => match x with
      | .iface t v => match Nat.beq t asserted with
        | true => .val (match ok with | true => .tuple [v, .bool true] | false => v)
        | false => match ok with
          | false => .bad
          | true => match tzero P asserted with
            | some z => .val (.tuple [z, .bool false])
            | none => .bad
      | .nilIface => match ok with
        | false => .bad
        | true => match tzero P asserted with
          | some z => .val (.tuple [z, .bool false])
          | none => .bad
      | _ => .bad
theorem VR_pair {φ : Phi} {x : VV} {x' : Value} (h : VR φ x x') (b : Bool) : VR φ (.tuple [x, .bool b]) (.tuple #[x', .bool b]) := by
  simp only [VR, VRs]; exact ⟨[x', .bool b], ⟨x', _, rfl, h, .bool b, [], rfl, rfl, rfl⟩, rfl⟩
theorem evAssert_sound {P : Program} {φ : Phi} {w : World} {x : VV} {x' : Value} (hx : VR φ x x') (xt asserted : TypeId) (ok : Bool) : ROR φ w ((Instr.typeAssert x' xt asserted ok).run P w) (evAssert P x asserted ok) := by
  unfold evAssert
  cases hu : P.underlying asserted with
  | none => trivial
  | some d =>
    simp only
    cases hd : notIface d with
    | false => trivial
    | true =>
      simp only
      cases x with
      | iface t v =>
        simp only [VR] at hx
        obtain ⟨v', hv, rfl⟩ := hx
        simp only
        cases ht : Nat.beq t asserted with
        | true =>
          have e : t = asserted := Nat.eq_of_beq_eq_true ht
          subst e
          simp only [ROR]
          cases ok with
          | true => exact ⟨.tuple #[v', .bool true], by cases d <;> simp [notIface] at hd <;> simp [Instr.typeAssert, run_underlying hu], VR_pair hv true⟩
          | false => exact ⟨v', by cases d <;> simp [notIface] at hd <;> simp [Instr.typeAssert, run_underlying hu], hv⟩
        | false =>
          have e : t ≠ asserted := by intro e; subst e; simp at ht
          cases ok with
          | false => trivial
          | true =>
            simp only
            cases hz : tzero P asserted with
            | none => trivial
            | some z =>
              obtain ⟨z', z1, z2⟩ := run_zero' (P := P) (w := w) hz φ
              simp only [ROR]
              exact ⟨.tuple #[z', .bool false], by cases d <;> simp [notIface] at hd <;> simp [Instr.typeAssert, run_underlying hu, e, z1], VR_pair z2 false⟩
      | nilIface =>
        simp only [VR] at hx
        subst hx
        cases ok with
        | false => trivial
        | true =>
          simp only
          cases hz : tzero P asserted with
          | none => trivial
          | some z =>
            obtain ⟨z', z1, z2⟩ := run_zero' (P := P) (w := w) hz φ
            simp only [ROR]
            exact ⟨.tuple #[z', .bool false], by cases d <;> simp [notIface] at hd <;> simp [Instr.typeAssert, run_underlying hu, z1], VR_pair z2 false⟩
      | _ => trivial
/-- One operand of a slice expression. -/
def evOpt (a : VT) : Option Operand → Option (Option VV)
  | none => some none
  | some o => match evOperand a o with
    | some v => some (some v)
    | none => none
theorem evOpt_sound {φ : Phi} {a : VT} {act : Act} (ht : TR φ a act.tmps) {o : Option Operand} {v : Option VV} (h : evOpt a o = some v) : OVR φ v (o.map act.eval) := by
  cases o with
  | none => simp only [evOpt, Option.some.injEq] at h; subst h; rfl
  | some x =>
    simp only [evOpt] at h
    cases hx : evOperand a x with
    | none => rw [hx] at h; cases h
    | some y => rw [hx] at h; simp only [Option.some.injEq] at h; subst h; exact ⟨_, rfl, evOperand_sound ht hx⟩
def evSliceData : VV → RO
  | .slice none _ _ => .val (.ptr none)
  | .slice (some a) _ (.succ _) => .val (.ptr (some a))
  | .tsl b _ => .val (.ptr (some ⟨.loc b, 0⟩))
  | _ => .bad
theorem evSliceData_sound {P : Program} {φ : Phi} {w : World} {x : VV} {x' : Value} (hx : VR φ x x') (ts : Array TypeId) (ty : TypeId) : ROR φ w ((Builtin.unsafeSliceData_ ts ty #[x']).run P w) (evSliceData x) := by
  unfold evSliceData
  split
  · simp only [VR] at hx
    subst hx
    exact ⟨.pointer none, rfl, by simp only [VR]⟩
  · simp only [VR] at hx
    obtain ⟨a', s, ha, rfl⟩ := hx
    exact ⟨.pointer (some a'), Lib.run_unsafeSliceData_row w ts ty a' _ _ (by omega), by simp only [VR]; exact ⟨a', s, ha, rfl⟩⟩
  · simp only [VR] at hx
    obtain ⟨inf, s, h1, h2, h3, rfl⟩ := hx
    exact ⟨.pointer (some ⟨inf.blk, inf.off, none⟩), Lib.run_unsafeSliceData_row w ts ty _ _ _ (by omega), by simp only [VR]; exact ⟨⟨inf.blk, inf.off, none⟩, inf.slack, ⟨inf, h1, rfl, rfl⟩, rfl⟩⟩
  · trivial
def evCallR (P : Program) (c : Call) (a : VT) (H : VH) : RO :=
  match c.callee with
  | .builtin b => match b, c.args, c.argTypes with
    | .len, ⟨[x]⟩, ⟨t :: _⟩ => match evOperand a x with
      | some v => evLen P H t v
      | none => .bad
    | .cap, ⟨[x]⟩, ⟨t :: _⟩ => match evOperand a x with
      | some v => evCap P H t v
      | none => .bad
    | .min, ⟨[x, y]⟩, _ => match evOperand a x, evOperand a y with
      | some x, some y => evMin H x y
      | _, _ => .bad
    | .max, ⟨[x, y]⟩, _ => match evOperand a x, evOperand a y with
      | some x, some y => evMax H x y
      | _, _ => .bad
    | .unsafeSliceData, ⟨[x]⟩, _ => match evOperand a x with
      | some v => evSliceData v
      | none => .bad
    | _, _, _ => .bad
  | _ => .bad
/-- An operation that only reads. -/
def evR (P : Program) (o : Op) (a : VT) (H : VH) : RO :=
  match o with
  | .move x | .assign x => RO.of (evOperand a x)
  | .pick c x y => evPick (evOperand a c) (evOperand a x) (evOperand a y)
  | .build t ⟨parts⟩ => match evParts a parts with
    | some ps => RO.of (evBuild P t ps)
    | none => .bad
  | .load t x => match evOperand a x with
    | some (.ptr (some ad)) => RO.of (loadT P H t ad)
    | _ => .bad
  | .nilCheck x => match evOperand a x with
    | some v => match nilOk v with
      | true => .val v
      | false => .bad
    | none => .bad
  | .binOp op t x y _ => match evOperand a x, evOperand a y with
    | some u, some v => evBin P H op t (isC x) (isC y) u v
    | _, _ => .bad
  | .unOp op _ x => match evOperand a x with
    | some v => evUn H op v
    | none => .bad
  | .convert s d x => match evOperand a x with
    | some v => evConv P H s d v
    | none => .bad
  | .makeInterface t x => match P.underlying t, evOperand a x with
    | some d, some v => match notIface d with
      | true => .val (.iface t v)
      | false => .bad
    | _, _ => .bad
  | .makeFunc fn ⟨f⟩ ⟨c⟩ => match fnPlain fn, evOperands a f, evOperands a c with
    | true, some f, some c => .val (.func fn f c)
    | _, _, _ => .bad
  | .slice t x lo hi none => match evOperand a x, evOpt a lo, evOpt a hi with
    | some v, some l, some h => evSlice P H t v l h
    | _, _, _ => .bad
  | .slice t x lo hi (some m) => match evOperand a x, evOpt a lo, evOpt a hi, evOperand a m with
    | some v, some l, some h, some m => evSlice3 P H t v l h m
    | _, _, _, _ => .bad
  | .fieldAddr t x f => match evOperand a x with
    | some v => RO.of (evFieldAddr P t v f)
    | none => .bad
  | .field t x f => match evOperand a x with
    | some v => RO.of (evField P t v f)
    | none => .bad
  | .indexAddr t x i => match evOperand a x, evOperand a i with
    | some v, some j => evIndexAddr P H t v j
    | _, _ => .bad
  | .index t x i => match evOperand a x, evOperand a i with
    | some v, some j => evIndex P H t v j
    | _, _ => .bad
  | .lookup t x k ok => match evOperand a x, evOperand a k with
    | some v, some j => match mapUOf H v with
      | none => evLookup P H t v j ok
      | some es => evLookupU P H t es j ok
    | _, _ => .bad
  | .typeAssert x _ t ok => match evOperand a x with
    | some v => evAssert P v t ok
    | none => .bad
  | .extract x i => match evOperand a x with
    | some v => evExtract v i
    | none => .bad
  | .call c => evCallR P c a H
  | _ => .bad
def RNR (φ : Phi) (w : World) (r : Result Next) : RO → Prop
  | .val v => ∃ v', r = .ok (.value v') w ∧ VR φ v v'
  | .chk b o => b = true → RNR φ w r o
  | .ite b x y => (b = true → RNR φ w r x) ∧ (b = false → RNR φ w r y)
  | .bad => True
theorem RNR_of {φ : Phi} {w : World} {r : Result Value} {n : Result Next} (e : ∀ v' , r = .ok v' w → n = .ok (.value v') w) : ∀ {o : RO}, ROR φ w r o → RNR φ w n o
  | .val v, h => by obtain ⟨v', h1, h2⟩ := h; exact ⟨v', e v' h1, h2⟩
  | .chk b o, h => fun hb => RNR_of e (h hb)
  | .ite b x y, h => ⟨fun hb => RNR_of e (h.1 hb), fun hb => RNR_of e (h.2 hb)⟩
  | .bad, _ => trivial
theorem RNR_opt {φ : Phi} {w : World} {n : Result Next} {x : Option VV} (h : ∀ v, x = some v → ∃ v', n = .ok (.value v') w ∧ VR φ v v') : RNR φ w n (RO.of x) := by
  cases x with
  | none => trivial
  | some v => exact h v rfl
theorem run_value {P : Program} {w : World} {s : Sem Value} {v' : Value} (h : s.run P w = .ok v' w) : (do pure (Next.value (← s)) : Sem Next).run P w = .ok (.value v') w := by
  simp [h]
theorem nilOk_sound {P : Program} {φ : Phi} {w : World} {v : VV} {v' : Value} (hv : VR φ v v') (h : nilOk v = true) (ρ : Operand → Value) (x : Operand) (hx : ρ x = v') (o : Oper) (ho : o.op = .nilCheck x) : (execOp ρ o).run P w = .ok (.value v') w := by
  unfold execOp
  rw [ho]
  simp only [hx]
  cases v with
  | ptr p => cases p with
    | none => simp [nilOk] at h
    | some a => simp only [VR] at hv; obtain ⟨_, _, _, rfl⟩ := hv; rfl
  | slice p l c => cases p <;> simp only [VR] at hv <;> (first | subst hv | obtain ⟨_, _, _, rfl⟩ := hv) <;> rfl
  | map p => cases p <;> simp only [VR] at hv <;> (first | subst hv | obtain ⟨_, _, rfl⟩ := hv) <;> rfl
  | sliceE => simp only [VR] at hv; obtain ⟨_, _, rfl⟩ := hv; rfl
  | any => simp [nilOk] at h
  | one => simp [nilOk] at h
  | sym i => simp [nilOk] at h
  | func fn f c =>
    simp only [VR] at hv
    obtain ⟨f', c', _, _, _, rfl⟩ := hv
    cases fn <;> first | rfl | (simp [nilOk] at h)
  | yield i => simp only [VR] at hv; obtain ⟨_, _, rfl⟩ := hv; rfl
  | iface t v => simp only [VR] at hv; obtain ⟨_, _, rfl⟩ := hv; rfl
  | tuple ds => simp only [VR] at hv; obtain ⟨_, _, rfl⟩ := hv; rfl
  | agg ds => simp only [VR] at hv; obtain ⟨_, _, rfl⟩ := hv; rfl
  | nilIface => simp [nilOk] at h
  | nilFunc => simp [nilOk] at h
  | lsl b n m => simp only [VR] at hv; obtain ⟨_, _, rfl⟩ := hv; rfl
  | cat ps => simp only [VR] at hv; obtain ⟨_, _, rfl⟩ := hv; rfl
  | tsl b ps => simp only [VR] at hv; obtain ⟨_, _, _, _, _, rfl⟩ := hv; rfl
  | tlen ps => simp only [VR] at hv; obtain ⟨_, _, rfl⟩ := hv; rfl
  | _ => simp only [VR] at hv; subst hv; rfl
theorem evPick_sound {P : Program} {φ : Phi} {a : VT} {act : Act} {w : World} (ht : TR φ a act.tmps) (c x y : Operand) (o : Oper) (ho : o.op = .pick c x y) :
    RNR φ w ((execOp act.eval o).run P w) (evPick (evOperand a c) (evOperand a x) (evOperand a y)) := by
  unfold evPick
  cases hc : evOperand a c with
  | none => trivial
  | some cv => cases cv with
    | bool b =>
      have hcr := evOperand_sound ht hc
      simp only [VR] at hcr
      have run : (execOp act.eval o).run P w = .ok (.value (if b then act.eval x else act.eval y)) w := by
        unfold execOp
        rw [ho]
        simp [hcr, asBool]
      simp only
      rw [run]
      have gen : RNR φ w (.ok (.value (if b then act.eval x else act.eval y)) w) (.ite b (RO.of (evOperand a x)) (RO.of (evOperand a y))) := by
        refine ⟨fun hb => ?_, fun hb => ?_⟩
        · refine RNR_opt fun v hv => ⟨_, rfl, ?_⟩
          rw [if_pos hb]; exact evOperand_sound ht hv
        · refine RNR_opt fun v hv => ⟨_, rfl, ?_⟩
          rw [if_neg (by simp [hb])]; exact evOperand_sound ht hv
      cases hX : evOperand a x with
      | none => rw [hX] at gen; exact gen
      | some u => cases hY : evOperand a y with
        | none => rw [hX, hY] at gen; cases u <;> exact gen
        | some v =>
          rw [hX, hY] at gen
          cases u with
          | bool p => cases v with
            | bool q =>
              have hpr := evOperand_sound ht hX
              have hqr := evOperand_sound ht hY
              simp only [VR] at hpr hqr
              refine ⟨_, rfl, ?_⟩
              cases b <;> simp [VR, hpr, hqr]
            | _ => exact gen
          | _ => exact gen
    | _ => trivial
theorem evCallR_sound [Ext] {P : Program} {w0 : World} {φ : Phi} {a : VT} {act : Act} {H : VH} {w : World} (ht : TR φ a act.tmps) (hs : HSim w0 φ H w) (c : Call) (o : Oper) (ho : o.op = .call c) :
    RNR φ w ((execOp act.eval o).run P w) (evCallR P c a H) := by
  obtain ⟨cal, args, ts⟩ := c
  unfold evCallR
  cases cal with
  | builtin b =>
    simp only
    have run : ∀ (args' : Array Value), args.map act.eval = args' → (execOp act.eval o).run P w = (builtin b ts o.type (args.map fun | .const _ => true | _ => false) args').run P w := by
      intro args' h
      unfold execOp
      rw [ho]
      simp [resolve, h, invoke]
      rfl
    split
    · rename_i x t ts'
      rw [run #[act.eval x] (by simp)]
      cases hx : evOperand a x with
      | none => trivial
      | some v =>
        simp only
        refine RNR_of (r := (Builtin.len_ ⟨t :: ts'⟩ o.type #[act.eval x]).run P w) ?_ (evLen_sound hs (evOperand_sound ht hx))
        intro v' h
        exact run_value h
    · rename_i x t ts'
      rw [run #[act.eval x] (by simp)]
      cases hx : evOperand a x with
      | none => trivial
      | some v =>
        simp only
        refine RNR_of (r := (Builtin.cap_ ⟨t :: ts'⟩ o.type #[act.eval x]).run P w) ?_ (evCap_sound hs (evOperand_sound ht hx))
        intro v' h
        exact run_value h
    · rename_i x y
      rw [run #[act.eval x, act.eval y] (by simp)]
      cases hx : evOperand a x with
      | none => trivial
      | some u => cases hy : evOperand a y with
        | none => trivial
        | some v =>
          simp only
          refine RNR_of (r := (Builtin.min_ ts o.type #[act.eval x, act.eval y]).run P w) ?_ (evMin_sound hs (evOperand_sound ht hx) (evOperand_sound ht hy))
          intro v' h
          exact run_value h
    · rename_i x y
      rw [run #[act.eval x, act.eval y] (by simp)]
      cases hx : evOperand a x with
      | none => trivial
      | some u => cases hy : evOperand a y with
        | none => trivial
        | some v =>
          simp only
          refine RNR_of (r := (Builtin.max_ ts o.type #[act.eval x, act.eval y]).run P w) ?_ (evMax_sound hs (evOperand_sound ht hx) (evOperand_sound ht hy))
          intro v' h
          exact run_value h
    · rename_i x
      rw [run #[act.eval x] (by simp)]
      cases hx : evOperand a x with
      | none => trivial
      | some v =>
        simp only
        refine RNR_of (r := (Builtin.unsafeSliceData_ ts o.type #[act.eval x]).run P w) ?_ (evSliceData_sound (evOperand_sound ht hx) _ _)
        intro v' h
        exact run_value h
    · trivial
  | _ => trivial
theorem evR_sound [Ext] {P : Program} {w0 : World} {φ : Phi} {a : VT} {act : Act} {H : VH} {w : World} (ht : TR φ a act.tmps) (hs : HSim w0 φ H w) (o : Oper) :
    RNR φ w ((execOp act.eval o).run P w) (evR P o.op a H) := by
  obtain ⟨dst, op, type, pos, after, guard⟩ := o
  simp only
  cases op with
  | move x => exact RNR_opt fun v h => ⟨act.eval x, rfl, evOperand_sound ht h⟩
  | assign x => exact RNR_opt fun v h => ⟨act.eval x, rfl, evOperand_sound ht h⟩
  | pick c x y => exact evPick_sound ht c x y _ rfl
  | build t parts =>
    obtain ⟨parts⟩ := parts
    simp only [evR]
    cases hp : evParts a parts with
    | none => trivial
    | some ps =>
      simp only
      obtain ⟨h1, h2⟩ := evParts_sound ht parts ps hp
      refine RNR_opt fun v h => ?_
      obtain ⟨v', r1, r2⟩ := evBuild_sound (evParts_notAny parts ps hp) h1 h2 h
      refine ⟨v', run_value ?_, r2⟩
      simpa using r1 w
  | load t x =>
    simp only [evR]
    cases hx : evOperand a x with
    | none => trivial
    | some v => cases v with
      | ptr p => cases p with
        | none => trivial
        | some ad =>
          simp only
          refine RNR_opt fun v h => ?_
          have hv := evOperand_sound ht hx
          simp only [VR] at hv
          obtain ⟨a', s, ha, hv⟩ := hv
          obtain ⟨v', r1, r2⟩ := loadT_sound (P := P) hs ha h
          refine ⟨v', run_value ?_, r2⟩
          simp [Instr.loadAt, hv, Instr.sureAddr, r1]
      | _ => trivial
  | nilCheck x =>
    simp only [evR]
    cases hx : evOperand a x with
    | none => trivial
    | some v =>
      simp only
      cases hn : nilOk v with
      | false => trivial
      | true =>
        have hv := evOperand_sound ht hx
        exact ⟨act.eval x, nilOk_sound hv hn act.eval x rfl _ rfl, hv⟩
  | binOp op t x y yt =>
    simp only [evR]
    cases hx : evOperand a x with
    | none => trivial
    | some u => cases hy : evOperand a y with
      | none => trivial
      | some v =>
        simp only
        refine RNR_of (r := runBin P op t x y (act.eval x) (act.eval y) w) ?_ (evBin_sound hs op t x y (evOperand_sound ht hx) (evOperand_sound ht hy))
        intro v' h
        exact run_value h
  | unOp op t x =>
    simp only [evR]
    cases hx : evOperand a x with
    | none => trivial
    | some u =>
      simp only
      refine RNR_of (r := (Op.unary op (act.eval x)).run P w) ?_ (evUn_sound hs op (evOperand_sound ht hx))
      intro v' h
      exact run_value h
  | convert s d x =>
    simp only [evR]
    cases hx : evOperand a x with
    | none => trivial
    | some u =>
      simp only
      refine RNR_of (r := (convert s d (act.eval x)).run P w) ?_ (evConv_sound hs (evOperand_sound ht hx))
      intro v' h
      exact run_value h
  | makeInterface t x =>
    simp only [evR]
    cases hu : P.underlying t with
    | none => trivial
    | some d => cases hx : evOperand a x with
      | none => trivial
      | some u =>
        simp only
        cases hd : notIface d with
        | false => trivial
        | true =>
          refine ⟨.iface t (act.eval x), run_value ?_, by simp only [VR]; exact ⟨_, evOperand_sound ht hx, rfl⟩⟩
          cases d <;> simp [notIface] at hd <;> simp [Instr.makeInterface, run_underlying hu]
  | makeFunc fn f c =>
    obtain ⟨f⟩ := f
    obtain ⟨c⟩ := c
    simp only [evR]
    cases hp : fnPlain fn with
    | false => trivial
    | true => cases hf : evOperands a f with
      | none => trivial
      | some f' => cases hc : evOperands a c with
        | none => trivial
        | some c' =>
          simp only
          refine ⟨.func fn ⟨f.map act.eval⟩ ⟨c.map act.eval⟩, run_value ?_, by simp only [VR]; exact ⟨_, _, hp, evOperands_sound ht f f' hf, evOperands_sound ht c c' hc, rfl⟩⟩
          simp [Instr.makeFunc]
  | slice t x lo hi mx =>
    cases mx with
    | some m =>
      simp only [evR]
      cases hx : evOperand a x with
      | none => trivial
      | some u => cases hl : evOpt a lo with
        | none => trivial
        | some l => cases hh : evOpt a hi with
          | none => trivial
          | some h => cases hm : evOperand a m with
            | none => trivial
            | some mv =>
              simp only
              refine RNR_of (r := (Instr.sliceAt t (act.eval x) (lo.map act.eval) (hi.map act.eval) (some (act.eval m))).run P w) ?_ (evSlice3_sound hs (evOperand_sound ht hx) (evOpt_sound ht hl) (evOpt_sound ht hh) (evOperand_sound ht hm))
              intro v' h
              exact run_value h
    | none =>
      simp only [evR]
      cases hx : evOperand a x with
      | none => trivial
      | some u => cases hl : evOpt a lo with
        | none => trivial
        | some l => cases hh : evOpt a hi with
          | none => trivial
          | some h =>
            simp only
            refine RNR_of (r := (Instr.sliceAt t (act.eval x) (lo.map act.eval) (hi.map act.eval) none).run P w) ?_ (evSlice_sound hs (evOperand_sound ht hx) (evOpt_sound ht hl) (evOpt_sound ht hh))
            intro v' h
            exact run_value h
  | fieldAddr t x f =>
    simp only [evR]
    cases hx : evOperand a x with
    | none => trivial
    | some u =>
      refine RNR_opt fun v h => ?_
      obtain ⟨v', r1, r2⟩ := evFieldAddr_sound (w := w) (evOperand_sound ht hx) h
      exact ⟨v', run_value r1, r2⟩
  | field t x f =>
    simp only [evR]
    cases hx : evOperand a x with
    | none => trivial
    | some u =>
      refine RNR_opt fun v h => ?_
      obtain ⟨v', r1, r2⟩ := evField_sound (w := w) (evOperand_sound ht hx) h
      exact ⟨v', run_value r1, r2⟩
  | indexAddr t x i =>
    simp only [evR]
    cases hx : evOperand a x with
    | none => trivial
    | some u => cases hi : evOperand a i with
      | none => trivial
      | some j =>
        simp only
        refine RNR_of (r := (Instr.indexAt t (act.eval x) (act.eval i)).run P w) ?_ (evIndexAddr_sound hs (evOperand_sound ht hx) (evOperand_sound ht hi))
        intro v' h
        exact run_value h
  | index t x i =>
    simp only [evR]
    cases hx : evOperand a x with
    | none => trivial
    | some u => cases hi : evOperand a i with
      | none => trivial
      | some j =>
        simp only
        refine RNR_of (r := (Instr.index t (act.eval x) (act.eval i)).run P w) ?_ (evIndex_sound hs (evOperand_sound ht hx) (evOperand_sound ht hi))
        intro v' h
        exact run_value h
  | lookup t x k ok =>
    simp only [evR]
    cases hx : evOperand a x with
    | none => trivial
    | some u => cases hk : evOperand a k with
      | none => trivial
      | some j =>
        simp only
        cases hm : mapUOf H u with
        | none =>
          refine RNR_of (r := (Instr.lookup t (act.eval x) (act.eval k) ok).run P w) ?_ (evLookup_sound hs (evOperand_sound ht hx) (evOperand_sound ht hk) ok)
          intro v' h
          exact run_value h
        | some es =>
          refine RNR_of (r := (Instr.lookup t (act.eval x) (act.eval k) ok).run P w) ?_ (evLookupU_sound hs (evOperand_sound ht hx) hm (evOperand_sound ht hk) ok)
          intro v' h
          exact run_value h
  | typeAssert x xt t ok =>
    simp only [evR]
    cases hx : evOperand a x with
    | none => trivial
    | some u =>
      simp only
      refine RNR_of (r := (Instr.typeAssert (act.eval x) xt t ok).run P w) ?_ (evAssert_sound (evOperand_sound ht hx) xt t ok)
      intro v' h
      exact run_value h
  | extract x i =>
    simp only [evR]
    cases hx : evOperand a x with
    | none => trivial
    | some u =>
      simp only
      refine RNR_of (r := (Instr.extract (act.eval x) i).run P w) ?_ (evExtract_sound (evOperand_sound ht hx) i)
      intro v' h
      exact run_value h
  | call c => exact evCallR_sound ht hs c _ rfl
  | _ => trivial
end
end Go.Ev
