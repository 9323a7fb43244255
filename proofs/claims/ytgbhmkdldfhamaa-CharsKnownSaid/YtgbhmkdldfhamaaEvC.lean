/- Engine, part C: operations that only read. -/
import Derived.Test.YtgbhmkdldfhamaaEvB
import Derived.Laws.Entries
import Derived.Laws.Tables
import Derived.Laws.StructEq
import Derived.Laws.Append
namespace Go.Ev
noncomputable section
section
variable (P : Program)
def tsize (t : TypeId) : Nat := match P.info? t with | some i => i.size | none => 0
def tzero (t : TypeId) : Option VV := match P.info? t with
  | some i => match i.zero with
    | some z => emb z
    | none => none
  | none => none
end
def evOperand (a : VT) : Operand → Option VV
  | .tmp t => some (tget a t)
  | .const v => emb v
  | .global g => some (.ptr (some ⟨.base g, 0⟩))
  | .func f => some (.func (.func f) [] [])
def evOperands (a : VT) : List Operand → Option (List VV)
  | [] => some []
  | o :: l => match evOperand a o with
    | none => none
    | some x => match evOperands a l with
      | none => none
      | some xs => some (x :: xs)
/-- The outcome of an operation that only reads. -/
inductive RO where
  | val (v : VV)
  | chk (b : Bool) (o : RO)
  | ite (b : Bool) (x y : RO)
  | bad
def RO.of : Option VV → RO
  | some v => .val v
  | none => .bad
def ROR (φ : Phi) (w : World) (r : Result Value) : RO → Prop
  | .val v => ∃ v', r = .ok v' w ∧ VR φ v v'
  | .chk b o => b = true → ROR φ w r o
  | .ite b x y => (b = true → ROR φ w r x) ∧ (b = false → ROR φ w r y)
  | .bad => True
theorem ROR_of {φ : Phi} {w : World} {r : Result Value} {x : Option VV} (h : ∀ v, x = some v → ∃ v', r = .ok v' w ∧ VR φ v v') : ROR φ w r (RO.of x) := by
  cases x with
  | none => trivial
  | some v => exact h v rfl

section
variable {P : Program} {w0 : World} {φ : Phi} {H : VH} {w : World} {a : VT} {act : Act}
theorem evOperand_sound (ht : TR φ a act.tmps) {x : Operand} {v : VV} (h : evOperand a x = some v) : VR φ v (act.eval x) := by
  cases x with
  | tmp t => simp only [evOperand, Option.some.injEq] at h; subst h; exact ht t
  | const c => exact VR_emb φ c v h
  | global g => simp only [evOperand, Option.some.injEq] at h; subst h; simp only [VR, Act.eval]; exact ⟨_, 0, by simp [AR], rfl⟩
  | func f => simp only [evOperand, Option.some.injEq] at h; subst h; simp only [VR, Act.eval]; exact ⟨[], [], rfl, by simp [VRs], by simp [VRs], rfl⟩
theorem evOperands_sound (ht : TR φ a act.tmps) : ∀ (xs : List Operand) (vs : List VV), evOperands a xs = some vs → VRs φ vs (xs.map act.eval)
  | [], vs, h => by simp only [evOperands, Option.some.injEq] at h; subst h; simp [VRs]
  | x :: xs, vs, h => by
    simp only [evOperands] at h
    cases hx : evOperand a x with
    | none => rw [hx] at h; simp at h
    | some v => cases hr : evOperands a xs with
      | none => rw [hx, hr] at h; simp at h
      | some us =>
        rw [hx, hr] at h
        simp at h
        subst h
        simp only [VRs, List.map_cons]
        exact ⟨_, _, rfl, evOperand_sound ht hx, evOperands_sound ht xs us hr⟩
theorem tsize_eq {t : TypeId} {i : TypeInfo} (h : P.info? t = some i) : tsize P t = i.size := by simp [tsize, h]
theorem info_of_und {t : TypeId} {d : TypeDesc} (h : P.underlying t = some d) : ∃ i, P.info? t = some i := by
  unfold Program.underlying at h
  cases hi : P.info? t with
  | none => rw [hi] at h; simp at h
  | some i => exact ⟨i, rfl⟩
theorem run_sizeOf' {t : TypeId} {i : TypeInfo} (h : P.info? t = some i) : (sizeOf t).run P w = .ok (tsize P t) w := by simp [sizeOf, typeInfo, h, tsize]
theorem run_zero' {t : TypeId} {z : VV} (h : tzero P t = some z) (φ : Phi) : ∃ z', (zeroValue t).run P w = .ok z' w ∧ VR φ z z' := by
  unfold tzero at h
  cases hi : P.info? t with
  | none => rw [hi] at h; simp at h
  | some i =>
    rw [hi] at h
    simp only at h
    cases hz : i.zero with
    | none => rw [hz] at h; simp at h
    | some z' => rw [hz] at h; exact ⟨z', by simp [zeroValue, typeInfo, hi, hz], VR_emb φ z' z h⟩
/-- Is a type's value an aggregate? -/
def aggD : TypeDesc → Bool
  | .struct _ | .array _ _ => true
  | _ => false
theorem run_isAgg {t : TypeId} {d : TypeDesc} (h : P.underlying t = some d) : (isAgg t).run P w = .ok (aggD d) w := by
  simp only [isAgg, Sem.run_bind, run_underlying h, Result.andThen_ok]
  cases d <;> rfl
end

/-! ### load -/
def loadT (P : Program) (H : VH) (t : TypeId) (a : VA) : Option VV :=
  match P.underlying t with
  | some d => match aggD d with
    | true => match hload H a (tsize P t) with | some l => some (.agg l) | none => none
    | false => match hload H a 1 with | some (v :: _) => some v | _ => none
  | none => none
theorem loadT_sound {P : Program} {w0 : World} {φ : Phi} {H : VH} {w : World} (h : HSim w0 φ H w) {t : TypeId} {a : VA} {a' : Addr} {s : Nat} (ha : AR φ a a' s) {v : VV} (hv : loadT P H t a = some v) :
    ∃ v', (loadVar t a').run P w = .ok v' w ∧ VR φ v v' := by
  unfold loadT at hv
  cases hu : P.underlying t with
  | none => rw [hu] at hv; simp at hv
  | some d =>
    rw [hu] at hv
    simp only at hv
    obtain ⟨i, hi⟩ := info_of_und hu
    cases hd : aggD d with
    | true =>
      rw [hd] at hv
      simp only at hv
      cases hl : hload H a (tsize P t) with
      | none => rw [hl] at hv; simp at hv
      | some l =>
        rw [hl] at hv
        simp only [Option.some.injEq] at hv
        subst hv
        obtain ⟨vs, h1, h2, _, h4⟩ := hload_sound h ha hl
        refine ⟨.agg ⟨vs⟩, ?_, by simp only [VR]; exact ⟨vs, h1, rfl⟩⟩
        have hrun := run_loadCells_list (P := P) w a' vs h4
        rw [h2] at hrun
        simp [loadVar, run_isAgg hu, hd, run_sizeOf' hi, hrun]
    | false =>
      rw [hd] at hv
      simp only at hv
      cases hl : hload H a 1 with
      | none => rw [hl] at hv; simp at hv
      | some l =>
        rw [hl] at hv
        cases l with
        | nil => simp at hv
        | cons x l =>
          simp only [Option.some.injEq] at hv
          subst hv
          obtain ⟨vs, h1, h2, _, h4⟩ := hload_sound h ha hl
          simp only [VRs] at h1
          obtain ⟨y, ys, rfl, h5, _⟩ := h1
          refine ⟨y, ?_, h5⟩
          have hc := h4 0 y rfl
          rw [Addr.add_zero'] at hc
          simp [loadVar, run_isAgg hu, hd, hc]
/-! ### parts of aggregates -/
def partT (P : Program) (t : TypeId) (cs : List VV) (off : Nat) : Option VV :=
  match P.underlying t with
  | some d => match aggD d with
    | true => match takeN (tsize P t) (dropN off cs) with | some l => some (.agg l) | none => none
    | false => lget cs off
  | none => none
theorem partT_sound {P : Program} {φ : Phi} {w : World} {t : TypeId} {cs : List VV} {cs' : List Value} (hc : VRs φ cs cs') {off : Nat} {v : VV} (hv : partT P t cs off = some v) :
    ∃ v', (part t ⟨cs'⟩ off).run P w = .ok v' w ∧ VR φ v v' := by
  unfold partT at hv
  cases hu : P.underlying t with
  | none => rw [hu] at hv; simp at hv
  | some d =>
    rw [hu] at hv
    simp only at hv
    obtain ⟨i, hi⟩ := info_of_und hu
    cases hd : aggD d with
    | true =>
      rw [hd] at hv
      simp only at hv
      cases hl : takeN (tsize P t) (dropN off cs) with
      | none => rw [hl] at hv; simp at hv
      | some l =>
        rw [hl] at hv
        simp only [Option.some.injEq] at hv
        subst hv
        obtain ⟨h1, rfl⟩ := takeN_eq _ _ _ hl
        rw [dropN_eq]
        refine ⟨.agg ⟨(cs'.drop off).take (tsize P t)⟩, ?_, by simp only [VR]; exact ⟨_, VRs_take _ (VRs_drop _ hc), rfl⟩⟩
        simp [part, run_isAgg hu, hd, run_sizeOf' hi]
    | false =>
      rw [hd] at hv
      simp only at hv
      rw [lget_eq] at hv
      obtain ⟨v', h1, h2⟩ := VRs_get _ _ hc _ _ hv
      refine ⟨v', ?_, h2⟩
      simp [part, run_isAgg hu, hd, h1]
/-! ### fields, indexes -/
def fieldOf (P : Program) (t : TypeId) (f : Nat) : Option Field :=
  match P.underlying t with
  | some (.struct fs) => lget fs.toList f
  | _ => none
def evField (P : Program) (t : TypeId) (x : VV) (f : Nat) : Option VV :=
  match fieldOf P t f, x with
  | some fd, .agg cs => partT P fd.type cs fd.offset
  | _, _ => none
theorem fieldOf_eq {P : Program} {t : TypeId} {f : Nat} {fd : Field} (h : fieldOf P t f = some fd) : ∃ fs, P.underlying t = some (.struct fs) ∧ fs[f]? = some fd := by
  unfold fieldOf at h
  cases hu : P.underlying t with
  | none => rw [hu] at h; simp at h
  | some d => cases d with
    | struct fs => rw [hu] at h; simp only [lget_eq] at h; exact ⟨fs, rfl, by simpa using h⟩
    | _ => rw [hu] at h; simp at h
theorem evField_sound {P : Program} {φ : Phi} {w : World} {t : TypeId} {x : VV} {x' : Value} (hx : VR φ x x') {f : Nat} {v : VV} (hv : evField P t x f = some v) :
    ∃ v', (Instr.field t x' f).run P w = .ok v' w ∧ VR φ v v' := by
  unfold evField at hv
  cases hf : fieldOf P t f with
  | none => rw [hf] at hv; simp at hv
  | some fd =>
    rw [hf] at hv
    obtain ⟨fs, hu, hg⟩ := fieldOf_eq hf
    cases x with
    | agg cs =>
      simp only at hv
      simp only [VR] at hx
      obtain ⟨cs', hc, rfl⟩ := hx
      obtain ⟨v', h1, h2⟩ := partT_sound (w := w) hc hv
      refine ⟨v', ?_, h2⟩
      simp only [Instr.field, Sem.run_bind, run_underlying hu, Result.andThen_ok, hg, asAgg, Sem.run_pure]
      exact h1
    | _ => simp at hv
def VA.add (a : VA) (n : Nat) : VA := ⟨a.b, a.o + n⟩
theorem AR.spot {φ : Phi} {a : VA} {a' : Addr} {s : Nat} (h : AR φ a a' s) : a'.spot = none := by
  unfold AR at h
  cases hb : a.b with
  | base r => rw [hb] at h; obtain ⟨rfl, _⟩ := h; rfl
  | loc i => rw [hb] at h; obtain ⟨inf, _, rfl, _⟩ := h; rfl
theorem AR.add {φ : Phi} {a : VA} {a' : Addr} {s : Nat} (h : AR φ a a' s) (n : Nat) : AR φ (a.add n) (a'.add n) s := by
  unfold AR at h ⊢
  unfold VA.add
  simp only
  cases hb : a.b with
  | base r =>
    rw [hb] at h
    obtain ⟨rfl, h2⟩ := h
    simp only
    rw [Addr.add_lit]
    exact ⟨rfl, h2⟩
  | loc i =>
    rw [hb] at h
    obtain ⟨inf, h1, rfl, h2⟩ := h
    simp only
    rw [Addr.add_lit, Nat.add_assoc]
    exact ⟨inf, h1, rfl, h2⟩
def evFieldAddr (P : Program) (t : TypeId) (x : VV) (f : Nat) : Option VV :=
  match fieldOf P t f, x with
  | some fd, .ptr (some a) => match P.info? fd.type with
    | some i => match Nat.beq i.size 0 with
      | true => none
      | false => some (.ptr (some (a.add fd.offset)))
    | none => none
  | _, _ => none
theorem evFieldAddr_sound {P : Program} {φ : Phi} {w : World} {t : TypeId} {x : VV} {x' : Value} (hx : VR φ x x') {f : Nat} {v : VV} (hv : evFieldAddr P t x f = some v) :
    ∃ v', (Instr.fieldAt t x' f).run P w = .ok v' w ∧ VR φ v v' := by
  unfold evFieldAddr at hv
  cases hf : fieldOf P t f with
  | none => rw [hf] at hv; simp at hv
  | some fd =>
    rw [hf] at hv
    obtain ⟨fs, hu, hg⟩ := fieldOf_eq hf
    cases x with
    | ptr p => cases p with
      | none => simp at hv
      | some a =>
        simp only at hv
        cases hi : P.info? fd.type with
        | none => rw [hi] at hv; simp at hv
        | some i =>
          rw [hi] at hv
          simp only at hv
          cases hz : Nat.beq i.size 0 with
          | true => rw [hz] at hv; simp at hv
          | false =>
            rw [hz] at hv
            simp only [Option.some.injEq] at hv
            subst hv
            simp only [VR] at hx
            obtain ⟨a', s, ha, rfl⟩ := hx
            have hz' : i.size ≠ 0 := by intro e; rw [e] at hz; simp at hz
            refine ⟨.pointer (some (a'.add fd.offset)), ?_, by simp only [VR]; exact ⟨_, s, ha.add _, rfl⟩⟩
            simp [Instr.fieldAt, run_underlying hu, hg, Instr.sureAddr, fieldPlace, run_sizeOf' hi, tsize, hi, hz']
    | _ => simp at hv
/-- Where an index lies. -/
def evIndexAddr (P : Program) (t : TypeId) (x ix : VV) : RO :=
  match ix with
  | .int _ i => match P.underlying t, x with
    | some (.array len elem), .ptr (some a) => match P.info? elem with
      | some e => .chk (decide (0 ≤ i)) (.chk (decide (i < len)) (.val (.ptr (some (a.add (i.toNat * e.size))))))
      | none => .bad
    | some (.slice elem), .slice (some a) len _ => match P.info? elem with
      | some e => .chk (decide (0 ≤ i)) (.chk (decide (i < len)) (.val (.ptr (some (a.add (i.toNat * e.size))))))
      | none => .bad
    | _, _ => .bad
  | _ => .bad
theorem evIndexAddr_sound {P : Program} {φ : Phi} {w : World} {t : TypeId} {x ix : VV} {x' ix' : Value} (hx : VR φ x x') (hi : VR φ ix ix') :
    ROR φ w ((Instr.indexAt t x' ix').run P w) (evIndexAddr P t x ix) := by
  unfold evIndexAddr
  cases ix with
  | int k i =>
    simp only [VR] at hi
    subst hi
    simp only
    cases hu : P.underlying t with
    | none => trivial
    | some d => cases d with
      | array len elem => cases x with
        | ptr p => cases p with
          | none => trivial
          | some a =>
            simp only
            cases he : P.info? elem with
            | none => trivial
            | some e =>
              simp only [ROR]
              intro h1 h2
              simp only [VR] at hx
              obtain ⟨a', s, ha, rfl⟩ := hx
              refine ⟨.pointer (some (a'.add (i.toNat * e.size))), ?_, by simp only [VR]; exact ⟨_, s, ha.add _, rfl⟩⟩
              have h1' := of_decide_eq_true h1
              have h2' := of_decide_eq_true h2
              simp [Instr.indexAt, asIntOf, run_underlying hu, Instr.sureAddr, run_sizeOf' he, tsize, he, h1', h2']
        | _ => trivial
      | slice elem => cases x with
        | slice p len cap => cases p with
          | none => trivial
          | some a =>
            simp only
            cases he : P.info? elem with
            | none => trivial
            | some e =>
              simp only [ROR]
              intro h1 h2
              simp only [VR] at hx
              obtain ⟨a', s, ha, rfl⟩ := hx
              refine ⟨.pointer (some (a'.add (i.toNat * e.size))), ?_, by simp only [VR]; exact ⟨_, s, ha.add _, rfl⟩⟩
              have h1' := of_decide_eq_true h1
              have h2' := of_decide_eq_true h2
              simp [Instr.indexAt, asIntOf, run_underlying hu, run_sizeOf' he, tsize, he, h1', h2']
        | _ => trivial
      | _ => cases x <;> trivial
  | _ => trivial
def evIndex (P : Program) (t : TypeId) (x ix : VV) : RO :=
  match ix with
  | .int _ i => match P.underlying t, x with
    | some (.array len elem), .agg cs => match P.info? elem with
      | some e => .chk (decide (0 ≤ i)) (.chk (decide (i < len)) (RO.of (partT P elem cs (i.toNat * e.size))))
      | none => .bad
    | some .string, .string s => .chk (decide (0 ≤ i)) (match lget s.data.toList i.toNat with
      | some b => .val (.int .u8 b.toNat)
      | none => .bad)
    | _, _ => .bad
  | _ => .bad
theorem evIndex_sound {P : Program} {φ : Phi} {w : World} {t : TypeId} {x ix : VV} {x' ix' : Value} (hx : VR φ x x') (hi : VR φ ix ix') :
    ROR φ w ((Instr.index t x' ix').run P w) (evIndex P t x ix) := by
  unfold evIndex
  cases ix with
  | int k i =>
    simp only [VR] at hi
    subst hi
    simp only
    cases hu : P.underlying t with
    | none => trivial
    | some d => cases d with
      | array len elem => cases x with
        | agg cs =>
          simp only
          cases he : P.info? elem with
          | none => trivial
          | some e =>
            simp only [ROR]
            intro h1 h2
            simp only [VR] at hx
            obtain ⟨cs', hc, rfl⟩ := hx
            refine ROR_of fun v hv => ?_
            obtain ⟨v', r1, r2⟩ := partT_sound (w := w) hc hv
            refine ⟨v', ?_, r2⟩
            have h1' := of_decide_eq_true h1
            have h2' := of_decide_eq_true h2
            simp only [Instr.index, asIntOf, Sem.run_bind, Sem.run_pure, Result.andThen_ok, run_underlying hu]
            rw [if_pos ⟨h1', h2'⟩]
            simp only [Sem.run_bind, run_sizeOf' he, Result.andThen_ok, tsize, he]
            exact r1
        | _ => trivial
      | string => cases x with
        | string s =>
          simp only [ROR]
          intro h1
          have h1' := of_decide_eq_true h1
          simp only [VR] at hx
          subst hx
          rw [lget_eq]
          cases hb : s.data.toList[i.toNat]? with
          | none => trivial
          | some b =>
            simp only [ROR]
            refine ⟨.int .u8 b.toNat, ?_, by simp [VR]⟩
            have hb' : s[i.toNat]? = some b := by
              rw [List.getElem?_eq_some_iff] at hb
              obtain ⟨hlt, hb⟩ := hb
              have hlt' : i.toNat < s.size := by simpa using hlt
              rw [getElem?_pos s i.toNat hlt']
              simp only [Option.some.injEq]
              exact hb
            simp only [Instr.index, asIntOf, Sem.run_bind, Sem.run_pure, Result.andThen_ok, run_underlying hu]
            rw [if_pos h1', hb']
            simp
        | _ => trivial
      | _ => cases x <;> trivial
  | _ => trivial
end
end Go.Ev
