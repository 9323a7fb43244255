/- Engine, part C: operations that only read. -/
import Derived.Test.YticgadnmlbfmfaaEvB
import Derived.Laws.Entries
import Derived.Laws.Tables
import Derived.Laws.StructEq
import Derived.Laws.Append
namespace Go.Ev
noncomputable section
section
variable (P : Program)
def tsize (t : TypeId) : Nat := match P.info? t with | some i => i.size | none => 0
def tzero (t : TypeId) : Option VV := match P.info? t with
  | some i => match i.zero with
    | some z => emb z
    | none => none
  | none => none
end
def evOperand (a : VT) : Operand → Option VV
  | .tmp t => match tget a t with
    | .any => none
    | v => some v
  | .const v => emb v
  | .global g => some (.ptr (some ⟨.base g, 0⟩))
  | .func f => some (.func (.func f) [] [])
def evOperands (a : VT) : List Operand → Option (List VV)
  | [] => some []
  | o :: l => match evOperand a o with
    | none => none
    | some x => match evOperands a l with
      | none => none
      | some xs => some (x :: xs)
/-- The outcome of an operation that only reads. -/
inductive RO where
  | val (v : VV)
  | chk (b : Bool) (o : RO)
  | ite (b : Bool) (x y : RO)
  | bad
def RO.of : Option VV → RO
  | some v => .val v
  | none => .bad
def ROR (φ : Phi) (w : World) (r : Result Value) : RO → Prop
  | .val v => ∃ v', r = .ok v' w ∧ VR φ v v'
  | .chk b o => b = true → ROR φ w r o
  | .ite b x y => (b = true → ROR φ w r x) ∧ (b = false → ROR φ w r y)
  | .bad => True
theorem ROR_of {φ : Phi} {w : World} {r : Result Value} {x : Option VV} (h : ∀ v, x = some v → ∃ v', r = .ok v' w ∧ VR φ v v') : ROR φ w r (RO.of x) := by
  cases x with
  | none => trivial
  | some v => exact h v rfl

section
variable {P : Program} {w0 : World} {φ : Phi} {H : VH} {w : World} {a : VT} {act : Act}
theorem evOperand_sound (ht : TR φ a act.tmps) {x : Operand} {v : VV} (h : evOperand a x = some v) : VR φ v (act.eval x) := by
  cases x with
  | tmp t =>
    have : tget a t = v := by
      simp only [evOperand] at h
      cases hv : tget a t <;> rw [hv] at h <;> simp only [Option.some.injEq, reduceCtorEq] at h <;> exact h
    subst this; exact ht t
  | const c => exact VR_emb φ c v h
  | global g => simp only [evOperand, Option.some.injEq] at h; subst h; simp only [VR, Act.eval]; exact ⟨_, 0, by simp [AR], rfl⟩
  | func f => simp only [evOperand, Option.some.injEq] at h; subst h; simp only [VR, Act.eval]; exact ⟨[], [], rfl, by simp [VRs], by simp [VRs], rfl⟩
theorem evOperand_notAny {x : Operand} {v : VV} (h : evOperand a x = some v) : isAny v = false := by
  cases x with
  | tmp t =>
    simp only [evOperand] at h
    cases hv : tget a t <;> rw [hv] at h <;> simp only [Option.some.injEq, reduceCtorEq] at h <;> subst h <;> rfl
  | const c => exact emb_notAny c v h
  | global g => simp only [evOperand, Option.some.injEq] at h; subst h; rfl
  | func f => simp only [evOperand, Option.some.injEq] at h; subst h; rfl
theorem evOperands_sound (ht : TR φ a act.tmps) : ∀ (xs : List Operand) (vs : List VV), evOperands a xs = some vs → VRs φ vs (xs.map act.eval)
  | [], vs, h => by simp only [evOperands, Option.some.injEq] at h; subst h; simp [VRs]
  | x :: xs, vs, h => by
    simp only [evOperands] at h
    cases hx : evOperand a x with
    | none => rw [hx] at h; simp at h
    | some v => cases hr : evOperands a xs with
      | none => rw [hx, hr] at h; simp at h
      | some us =>
        rw [hx, hr] at h
        simp at h
        subst h
        simp only [VRs, List.map_cons]
        exact ⟨_, _, rfl, evOperand_sound ht hx, evOperands_sound ht xs us hr⟩
theorem tsize_eq {t : TypeId} {i : TypeInfo} (h : P.info? t = some i) : tsize P t = i.size := by simp [tsize, h]
theorem info_of_und {t : TypeId} {d : TypeDesc} (h : P.underlying t = some d) : ∃ i, P.info? t = some i := by
  unfold Program.underlying at h
  cases hi : P.info? t with
  | none => rw [hi] at h; simp at h
  | some i => exact ⟨i, rfl⟩
theorem run_sizeOf' {t : TypeId} {i : TypeInfo} (h : P.info? t = some i) : (sizeOf t).run P w = .ok (tsize P t) w := by simp [sizeOf, typeInfo, h, tsize]
theorem run_zero' {t : TypeId} {z : VV} (h : tzero P t = some z) (φ : Phi) : ∃ z', (zeroValue t).run P w = .ok z' w ∧ VR φ z z' := by
  unfold tzero at h
  cases hi : P.info? t with
  | none => rw [hi] at h; simp at h
  | some i =>
    rw [hi] at h
    simp only at h
    cases hz : i.zero with
    | none => rw [hz] at h; simp at h
    | some z' => rw [hz] at h; exact ⟨z', by simp [zeroValue, typeInfo, hi, hz], VR_emb φ z' z h⟩
theorem tzero_notAny {t : TypeId} {z : VV} (h : tzero P t = some z) : isAny z = false := by
  unfold tzero at h
  cases hi : P.info? t with
  | none => rw [hi] at h; simp at h
  | some i =>
    rw [hi] at h
    simp only at h
    cases hz : i.zero with
    | none => rw [hz] at h; simp at h
    | some z' => rw [hz] at h; exact emb_notAny z' z h
/-- Is a type's value an aggregate? -/
def aggD : TypeDesc → Bool
  | .struct _ | .array _ _ => true
  | _ => false
theorem run_isAgg {t : TypeId} {d : TypeDesc} (h : P.underlying t = some d) : (isAgg t).run P w = .ok (aggD d) w := by
  simp only [isAgg, Sem.run_bind, run_underlying h, Result.andThen_ok]
  cases d <;> rfl
end

/-! ### load -/
def loadT (P : Program) (H : VH) (t : TypeId) (a : VA) : Option VV :=
  match P.underlying t with
  | some d => match aggD d with
    | true => match hload H a (tsize P t) with | some l => some (.agg l) | none => none
    | false => match hload H a 1 with | some (v :: _) => some v | _ => none
  | none => none
theorem loadT_sound [Ext] {P : Program} {w0 : World} {φ : Phi} {H : VH} {w : World} (h : HSim w0 φ H w) {t : TypeId} {a : VA} {a' : Addr} {s : Nat} (ha : AR φ a a' s) {v : VV} (hv : loadT P H t a = some v) :
    ∃ v', (loadVar t a').run P w = .ok v' w ∧ VR φ v v' := by
  unfold loadT at hv
  cases hu : P.underlying t with
  | none => rw [hu] at hv; simp at hv
  | some d =>
    rw [hu] at hv
    simp only at hv
    obtain ⟨i, hi⟩ := info_of_und hu
    cases hd : aggD d with
    | true =>
      rw [hd] at hv
      simp only at hv
      cases hl : hload H a (tsize P t) with
      | none => rw [hl] at hv; simp at hv
      | some l =>
        rw [hl] at hv
        simp only [Option.some.injEq] at hv
        subst hv
        obtain ⟨vs, h1, h2, _, h4⟩ := hload_sound h ha hl
        refine ⟨.agg ⟨vs⟩, ?_, by simp only [VR]; exact ⟨vs, h1, rfl⟩⟩
        have hrun := run_loadCells_list (P := P) w a' vs h4
        rw [h2] at hrun
        simp [loadVar, run_isAgg hu, hd, run_sizeOf' hi, hrun]
    | false =>
      rw [hd] at hv
      simp only at hv
      cases hl : hload H a 1 with
      | none => rw [hl] at hv; simp at hv
      | some l =>
        rw [hl] at hv
        cases l with
        | nil => simp at hv
        | cons x l =>
          simp only [Option.some.injEq] at hv
          subst hv
          obtain ⟨vs, h1, h2, _, h4⟩ := hload_sound h ha hl
          simp only [VRs] at h1
          obtain ⟨y, ys, rfl, h5, _⟩ := h1
          refine ⟨y, ?_, h5⟩
          have hc := h4 0 y rfl
          rw [Addr.add_zero'] at hc
          simp [loadVar, run_isAgg hu, hd, hc]
/-! ### parts of aggregates -/
def partT (P : Program) (t : TypeId) (cs : List VV) (off : Nat) : Option VV :=
  match P.underlying t with
  | some d => match aggD d with
    | true => match takeN (tsize P t) (dropN off cs) with | some l => some (.agg l) | none => none
    | false => lget cs off
  | none => none
theorem partT_sound {P : Program} {φ : Phi} {w : World} {t : TypeId} {cs : List VV} {cs' : List Value} (hc : VRs φ cs cs') {off : Nat} {v : VV} (hv : partT P t cs off = some v) :
    ∃ v', (part t ⟨cs'⟩ off).run P w = .ok v' w ∧ VR φ v v' := by
  unfold partT at hv
  cases hu : P.underlying t with
  | none => rw [hu] at hv; simp at hv
  | some d =>
    rw [hu] at hv
    simp only at hv
    obtain ⟨i, hi⟩ := info_of_und hu
    cases hd : aggD d with
    | true =>
      rw [hd] at hv
      simp only at hv
      cases hl : takeN (tsize P t) (dropN off cs) with
      | none => rw [hl] at hv; simp at hv
      | some l =>
        rw [hl] at hv
        simp only [Option.some.injEq] at hv
        subst hv
        obtain ⟨h1, rfl⟩ := takeN_eq _ _ _ hl
        rw [dropN_eq]
        refine ⟨.agg ⟨(cs'.drop off).take (tsize P t)⟩, ?_, by simp only [VR]; exact ⟨_, VRs_take _ (VRs_drop _ hc), rfl⟩⟩
        simp [part, run_isAgg hu, hd, run_sizeOf' hi]
    | false =>
      rw [hd] at hv
      simp only at hv
      rw [lget_eq] at hv
      obtain ⟨v', h1, h2⟩ := VRs_get _ _ hc _ _ hv
      refine ⟨v', ?_, h2⟩
      simp [part, run_isAgg hu, hd, h1]
/-! ### fields, indexes -/
def fieldOf (P : Program) (t : TypeId) (f : Nat) : Option Field :=
  match P.underlying t with
  | some (.struct fs) => lget fs.toList f
  | _ => none
def evField (P : Program) (t : TypeId) (x : VV) (f : Nat) : Option VV :=
  match fieldOf P t f, x with
  | some fd, .agg cs => partT P fd.type cs fd.offset
  | _, _ => none
theorem fieldOf_eq {P : Program} {t : TypeId} {f : Nat} {fd : Field} (h : fieldOf P t f = some fd) : ∃ fs, P.underlying t = some (.struct fs) ∧ fs[f]? = some fd := by
  unfold fieldOf at h
  cases hu : P.underlying t with
  | none => rw [hu] at h; simp at h
  | some d => cases d with
    | struct fs => rw [hu] at h; simp only [lget_eq] at h; exact ⟨fs, rfl, by simpa using h⟩
    | _ => rw [hu] at h; simp at h
theorem evField_sound {P : Program} {φ : Phi} {w : World} {t : TypeId} {x : VV} {x' : Value} (hx : VR φ x x') {f : Nat} {v : VV} (hv : evField P t x f = some v) :
    ∃ v', (Instr.field t x' f).run P w = .ok v' w ∧ VR φ v v' := by
  unfold evField at hv
  cases hf : fieldOf P t f with
  | none => rw [hf] at hv; simp at hv
  | some fd =>
    rw [hf] at hv
    obtain ⟨fs, hu, hg⟩ := fieldOf_eq hf
    cases x with
    | agg cs =>
      simp only at hv
      simp only [VR] at hx
      obtain ⟨cs', hc, rfl⟩ := hx
      obtain ⟨v', h1, h2⟩ := partT_sound (w := w) hc hv
      refine ⟨v', ?_, h2⟩
      simp only [Instr.field, Sem.run_bind, run_underlying hu, Result.andThen_ok, hg, asAgg, Sem.run_pure]
      exact h1
    | _ => simp at hv
def VA.add (a : VA) (n : Nat) : VA := ⟨a.b, a.o + n⟩
theorem AR.spot {φ : Phi} {a : VA} {a' : Addr} {s : Nat} (h : AR φ a a' s) : a'.spot = none := by
  unfold AR at h
  cases hb : a.b with
  | base r => rw [hb] at h; obtain ⟨rfl, _⟩ := h; rfl
  | sym r => rw [hb] at h; obtain ⟨rfl, _⟩ := h; rfl
  | loc i => rw [hb] at h; obtain ⟨inf, _, rfl, _⟩ := h; rfl
theorem AR.add {φ : Phi} {a : VA} {a' : Addr} {s : Nat} (h : AR φ a a' s) (n : Nat) : AR φ (a.add n) (a'.add n) s := by
  unfold AR at h ⊢
  unfold VA.add
  simp only
  cases hb : a.b with
  | base r =>
    rw [hb] at h
    obtain ⟨rfl, h2⟩ := h
    simp only
    rw [Addr.add_lit]
    exact ⟨rfl, h2⟩
  | sym r =>
    rw [hb] at h
    obtain ⟨rfl, h2⟩ := h
    simp only
    rw [Addr.add_lit, Nat.add_assoc]
    exact ⟨rfl, h2⟩
  | loc i =>
    rw [hb] at h
    obtain ⟨inf, h1, rfl, h2⟩ := h
    simp only
    rw [Addr.add_lit, Nat.add_assoc]
    exact ⟨inf, h1, rfl, h2⟩
def evFieldAddr (P : Program) (t : TypeId) (x : VV) (f : Nat) : Option VV :=
  match fieldOf P t f, x with
  | some fd, .ptr (some a) => match P.info? fd.type with
    | some i => match Nat.beq i.size 0 with
      | true => none
      | false => some (.ptr (some (a.add fd.offset)))
    | none => none
  | _, _ => none
theorem evFieldAddr_sound {P : Program} {φ : Phi} {w : World} {t : TypeId} {x : VV} {x' : Value} (hx : VR φ x x') {f : Nat} {v : VV} (hv : evFieldAddr P t x f = some v) :
    ∃ v', (Instr.fieldAt t x' f).run P w = .ok v' w ∧ VR φ v v' := by
  unfold evFieldAddr at hv
  cases hf : fieldOf P t f with
  | none => rw [hf] at hv; simp at hv
  | some fd =>
    rw [hf] at hv
    obtain ⟨fs, hu, hg⟩ := fieldOf_eq hf
    cases x with
    | ptr p => cases p with
      | none => simp at hv
      | some a =>
        simp only at hv
        cases hi : P.info? fd.type with
        | none => rw [hi] at hv; simp at hv
        | some i =>
          rw [hi] at hv
          simp only at hv
          cases hz : Nat.beq i.size 0 with
          | true => rw [hz] at hv; simp at hv
          | false =>
            rw [hz] at hv
            simp only [Option.some.injEq] at hv
            subst hv
            simp only [VR] at hx
            obtain ⟨a', s, ha, rfl⟩ := hx
            have hz' : i.size ≠ 0 := by intro e; rw [e] at hz; simp at hz
            refine ⟨.pointer (some (a'.add fd.offset)), ?_, by simp only [VR]; exact ⟨_, s, ha.add _, rfl⟩⟩
            simp [Instr.fieldAt, run_underlying hu, hg, Instr.sureAddr, fieldPlace, run_sizeOf' hi, tsize, hi, hz']
    | _ => simp at hv
/-! ### facts on symbols -/
def kEq (a b : IntKind) : Bool := decide (a = b)
def bytesEq0 : List UInt8 → List UInt8 → Bool
  | [], [] => true
  | x :: a, y :: b => match Nat.beq x.toNat y.toNat with | true => bytesEq0 a b | false => false
  | _, _ => false
theorem bytesEq0_eq : ∀ {a b : List UInt8}, bytesEq0 a b = true → a = b
  | [], [], _ => rfl
  | [], _ :: _, h => by simp [bytesEq0] at h
  | _ :: _, [], h => by simp [bytesEq0] at h
  | x :: a, y :: b, h => by
    simp only [bytesEq0] at h
    split at h
    · rename_i hx
      rw [bytesEq0_eq h, UInt8.toNat_inj.1 (Nat.eq_of_beq_eq_true hx)]
    · cases h
/-- Are two values the same one, as a fact names it? -/
def sEq (x y : VV) : Bool :=
  match x with
  | .int k a => match y with
    | .int k' b => match kEq k k' with | true => decide (a = b) | false => false
    | _ => false
  | .sint k i => match y with
    | .sint k' j => match kEq k k' with | true => Nat.beq i j | false => false
    | _ => false
  | .sym i => match y with
    | .sym j => Nat.beq i j
    | _ => false
  | .slice none l c => match y with
    | .slice none l' c' => match Nat.beq l l' with | true => Nat.beq c c' | false => false
    | _ => false
  | .string a => match y with
    | .string b => bytesEq0 a.data.toList b.data.toList
    | _ => false
  | .bool a => match y with
    | .bool b => match a with
      | true => b
      | false => !b
    | _ => false
  | _ => false
theorem sEq_eq {x y : VV} (h : sEq x y = true) : x = y := by
  unfold sEq at h
  split at h
  · split at h
    · split at h
      · rename_i hk; unfold kEq at hk; rw [of_decide_eq_true hk, of_decide_eq_true h]
      · cases h
    · cases h
  · split at h
    · split at h
      · rename_i hk; unfold kEq at hk; rw [of_decide_eq_true hk, Nat.eq_of_beq_eq_true h]
      · cases h
    · cases h
  · split at h
    · rw [Nat.eq_of_beq_eq_true h]
    · cases h
  · split at h
    · split at h
      · rename_i hk; rw [Nat.eq_of_beq_eq_true hk, Nat.eq_of_beq_eq_true h]
      · cases h
    · cases h
  · split at h
    · rename_i a _ b
      obtain ⟨⟨a⟩⟩ := a
      obtain ⟨⟨b⟩⟩ := b
      have := bytesEq0_eq h
      simp only at this
      rw [this]
    · cases h
  · split at h
    · rename_i a _ b
      cases a <;> cases b <;> first | rfl | (cases h)
    · cases h
  · cases h
def factAt (size : Nat) (x i : VV) : List Fact → Option VA
  | [] => none
  | .at sz y j r :: l => match Nat.beq sz size, sEq x y, sEq i j with
    | true, true, true => some r
    | _, _, _ => factAt size x i l
  | _ :: l => factAt size x i l
theorem factAt_mem {size : Nat} {x i : VV} : ∀ {l : List Fact} {r : VA}, factAt size x i l = some r → Fact.at size x i r ∈ l
  | [], r, h => by cases h
  | .at sz y j r' :: l, r, h => by
    simp only [factAt] at h
    split at h
    · rename_i h1 h2 h3
      simp only [Option.some.injEq] at h
      rw [Nat.eq_of_beq_eq_true h1, sEq_eq h2, sEq_eq h3, h]
      exact List.mem_cons_self ..
    · exact List.mem_cons_of_mem _ (factAt_mem h)
  | .bin .. :: l, r, h => List.mem_cons_of_mem _ (factAt_mem (by simpa only [factAt] using h))
  | .len .. :: l, r, h => List.mem_cons_of_mem _ (factAt_mem (by simpa only [factAt] using h))
  | .cut .. :: l, r, h => List.mem_cons_of_mem _ (factAt_mem (by simpa only [factAt] using h))
  | .fn .. :: l, r, h => List.mem_cons_of_mem _ (factAt_mem (by simpa only [factAt] using h))
  | .mem .. :: l, r, h => List.mem_cons_of_mem _ (factAt_mem (by simpa only [factAt] using h))
  | .lst .. :: l, r, h => List.mem_cons_of_mem _ (factAt_mem (by simpa only [factAt] using h))
def bEq (a b : Bool) : Bool := match a with | true => b | false => !b
theorem bEq_eq {a b : Bool} (h : bEq a b = true) : a = b := by cases a <;> cases b <;> simp [bEq] at h <;> rfl
def factLen (str : Bool) (x : VV) : List Fact → Option VV
  | [] => none
  | .len st y r :: l => match bEq str st, sEq x y with
    | true, true => some r
    | _, _ => factLen str x l
  | _ :: l => factLen str x l
theorem factLen_mem {str : Bool} {x : VV} : ∀ {l : List Fact} {r : VV}, factLen str x l = some r → Fact.len str x r ∈ l
  | [], r, h => by cases h
  | .len st y r' :: l, r, h => by
    simp only [factLen] at h
    split at h
    · rename_i h0 h1
      simp only [Option.some.injEq] at h
      rw [bEq_eq h0, sEq_eq h1, h]
      exact List.mem_cons_self ..
    · exact List.mem_cons_of_mem _ (factLen_mem h)
  | .bin .. :: l, r, h => List.mem_cons_of_mem _ (factLen_mem (by simpa only [factLen] using h))
  | .at .. :: l, r, h => List.mem_cons_of_mem _ (factLen_mem (by simpa only [factLen] using h))
  | .cut .. :: l, r, h => List.mem_cons_of_mem _ (factLen_mem (by simpa only [factLen] using h))
  | .fn .. :: l, r, h => List.mem_cons_of_mem _ (factLen_mem (by simpa only [factLen] using h))
  | .mem .. :: l, r, h => List.mem_cons_of_mem _ (factLen_mem (by simpa only [factLen] using h))
  | .lst .. :: l, r, h => List.mem_cons_of_mem _ (factLen_mem (by simpa only [factLen] using h))
def opEq (a b : BinOp) : Bool := decide (a = b)
def factBin (op : BinOp) (x y : VV) : List Fact → Option VV
  | [] => none
  | .bin o u v r :: l => match opEq op o, sEq x u, sEq y v with
    | true, true, true => some r
    | _, _, _ => factBin op x y l
  | _ :: l => factBin op x y l
theorem factBin_mem {op : BinOp} {x y : VV} : ∀ {l : List Fact} {r : VV}, factBin op x y l = some r → Fact.bin op x y r ∈ l
  | [], r, h => by cases h
  | .bin o u v r' :: l, r, h => by
    simp only [factBin] at h
    split at h
    · rename_i h1 h2 h3
      simp only [Option.some.injEq] at h
      rw [show op = o from of_decide_eq_true h1, sEq_eq h2, sEq_eq h3, h]
      exact List.mem_cons_self ..
    · exact List.mem_cons_of_mem _ (factBin_mem h)
  | .len .. :: l, r, h => List.mem_cons_of_mem _ (factBin_mem (by simpa only [factBin] using h))
  | .at .. :: l, r, h => List.mem_cons_of_mem _ (factBin_mem (by simpa only [factBin] using h))
  | .cut .. :: l, r, h => List.mem_cons_of_mem _ (factBin_mem (by simpa only [factBin] using h))
  | .fn .. :: l, r, h => List.mem_cons_of_mem _ (factBin_mem (by simpa only [factBin] using h))
  | .mem .. :: l, r, h => List.mem_cons_of_mem _ (factBin_mem (by simpa only [factBin] using h))
  | .lst .. :: l, r, h => List.mem_cons_of_mem _ (factBin_mem (by simpa only [factBin] using h))
def optSEq : Option VV → Option VV → Bool
  | none, none => true
  | some x, some y => sEq x y
  | _, _ => false
theorem optSEq_eq {x y : Option VV} (h : optSEq x y = true) : x = y := by
  cases x <;> cases y <;> simp [optSEq] at h ⊢
  exact sEq_eq h
def factCut (size : Nat) (x : VV) (lo hi : Option VV) : List Fact → Option VV
  | [] => none
  | .cut sz y lo' hi' r :: l => match Nat.beq sz size, sEq x y, optSEq lo lo', optSEq hi hi' with
    | true, true, true, true => some r
    | _, _, _, _ => factCut size x lo hi l
  | _ :: l => factCut size x lo hi l
theorem factCut_mem {size : Nat} {x : VV} {lo hi : Option VV} : ∀ {l : List Fact} {r : VV}, factCut size x lo hi l = some r → Fact.cut size x lo hi r ∈ l
  | [], r, h => by cases h
  | .cut sz y lo' hi' r' :: l, r, h => by
    simp only [factCut] at h
    split at h
    · rename_i h1 h2 h3 h4
      simp only [Option.some.injEq] at h
      rw [Nat.eq_of_beq_eq_true h1, sEq_eq h2, optSEq_eq h3, optSEq_eq h4, h]
      exact List.mem_cons_self ..
    · exact List.mem_cons_of_mem _ (factCut_mem h)
  | .bin .. :: l, r, h => List.mem_cons_of_mem _ (factCut_mem (by simpa only [factCut] using h))
  | .len .. :: l, r, h => List.mem_cons_of_mem _ (factCut_mem (by simpa only [factCut] using h))
  | .at .. :: l, r, h => List.mem_cons_of_mem _ (factCut_mem (by simpa only [factCut] using h))
  | .fn .. :: l, r, h => List.mem_cons_of_mem _ (factCut_mem (by simpa only [factCut] using h))
  | .mem .. :: l, r, h => List.mem_cons_of_mem _ (factCut_mem (by simpa only [factCut] using h))
  | .lst .. :: l, r, h => List.mem_cons_of_mem _ (factCut_mem (by simpa only [factCut] using h))
def foEq (a b : FO) : Bool := match a, b with
  | .min, .min | .max, .max | .cutS, .cutS | .sidx, .sidx | .isB, .isB => true
  | .un o, .un o' => decide (o = o')
  | .conv k, .conv k' => kEq k k'
  | _, _ => false
theorem foEq_eq {a b : FO} (h : foEq a b = true) : a = b := by
  unfold foEq at h
  split at h
  · rfl
  · rfl
  · rfl
  · rfl
  · rfl
  · rw [of_decide_eq_true h]
  · unfold kEq at h; rw [of_decide_eq_true h]
  · cases h
def sEqs : List VV → List VV → Bool
  | [], [] => true
  | x :: a, y :: b => match sEq x y with | true => sEqs a b | false => false
  | _, _ => false
theorem sEqs_eq : ∀ {a b : List VV}, sEqs a b = true → a = b
  | [], [], _ => rfl
  | [], _ :: _, h => by simp [sEqs] at h
  | _ :: _, [], h => by simp [sEqs] at h
  | x :: a, y :: b, h => by
    simp only [sEqs] at h
    split at h
    · rename_i hx
      rw [sEqs_eq h, sEq_eq hx]
    · cases h
def factFn (o : FO) (xs : List VV) : List Fact → Option VV
  | [] => none
  | .fn o' ys r :: l => match foEq o o', sEqs xs ys with
    | true, true => some r
    | _, _ => factFn o xs l
  | _ :: l => factFn o xs l
theorem factFn_mem {o : FO} {xs : List VV} : ∀ {l : List Fact} {r : VV}, factFn o xs l = some r → Fact.fn o xs r ∈ l
  | [], r, h => by cases h
  | .fn o' ys r' :: l, r, h => by
    simp only [factFn] at h
    split at h
    · rename_i h1 h2
      simp only [Option.some.injEq] at h
      rw [foEq_eq h1, sEqs_eq h2, h]
      exact List.mem_cons_self ..
    · exact List.mem_cons_of_mem _ (factFn_mem h)
  | .bin .. :: l, r, h => List.mem_cons_of_mem _ (factFn_mem (by simpa only [factFn] using h))
  | .len .. :: l, r, h => List.mem_cons_of_mem _ (factFn_mem (by simpa only [factFn] using h))
  | .at .. :: l, r, h => List.mem_cons_of_mem _ (factFn_mem (by simpa only [factFn] using h))
  | .cut .. :: l, r, h => List.mem_cons_of_mem _ (factFn_mem (by simpa only [factFn] using h))
  | .mem .. :: l, r, h => List.mem_cons_of_mem _ (factFn_mem (by simpa only [factFn] using h))
  | .lst .. :: l, r, h => List.mem_cons_of_mem _ (factFn_mem (by simpa only [factFn] using h))
theorem fn1 [Ext] {w0 : World} {φ : Phi} {E : Env} (h : EnvOK E φ w0) {o : FO} {x r : VV} (hf : factFn o [x] E.tab = some r) {x' : Value} (hx : VR φ x x') : ∃ v, VR φ r v ∧ FOsem o [x'] v := by
  obtain ⟨vs, v, h1, h2, h3⟩ := h.tab _ (factFn_mem hf)
  simp only [svals] at h1
  cases hsx : sval φ.ρ x with
  | none => rw [hsx] at h1; cases h1
  | some a =>
    rw [hsx] at h1
    simp only [Option.some.injEq] at h1
    subst h1
    have := sval_VR hsx hx
    subst this
    exact ⟨v, VR_sval h2, h3⟩
theorem fn2 [Ext] {w0 : World} {φ : Phi} {E : Env} (h : EnvOK E φ w0) {o : FO} {x y r : VV} (hf : factFn o [x, y] E.tab = some r) {x' y' : Value} (hx : VR φ x x') (hy : VR φ y y') : ∃ v, VR φ r v ∧ FOsem o [x', y'] v := by
  obtain ⟨vs, v, h1, h2, h3⟩ := h.tab _ (factFn_mem hf)
  simp only [svals] at h1
  cases hsx : sval φ.ρ x with
  | none => rw [hsx] at h1; cases h1
  | some a => cases hsy : sval φ.ρ y with
    | none => rw [hsx, hsy] at h1; cases h1
    | some b =>
      rw [hsx, hsy] at h1
      simp only [Option.some.injEq] at h1
      subst h1
      have := sval_VR hsx hx
      subst this
      have := sval_VR hsy hy
      subst this
      exact ⟨v, VR_sval h2, h3⟩
theorem fn3 [Ext] {w0 : World} {φ : Phi} {E : Env} (h : EnvOK E φ w0) {o : FO} {x y z r : VV} (hf : factFn o [x, y, z] E.tab = some r) {x' y' z' : Value} (hx : VR φ x x') (hy : VR φ y y') (hz : VR φ z z') : ∃ v, VR φ r v ∧ FOsem o [x', y', z'] v := by
  obtain ⟨vs, v, h1, h2, h3⟩ := h.tab _ (factFn_mem hf)
  simp only [svals] at h1
  cases hsx : sval φ.ρ x with
  | none => rw [hsx] at h1; cases h1
  | some a => cases hsy : sval φ.ρ y with
    | none => rw [hsx, hsy] at h1; cases h1
    | some b => cases hsz : sval φ.ρ z with
      | none => rw [hsx, hsy, hsz] at h1; cases h1
      | some c =>
        rw [hsx, hsy, hsz] at h1
        simp only [Option.some.injEq] at h1
        subst h1
        have := sval_VR hsx hx
        subst this
        have := sval_VR hsy hy
        subst this
        have := sval_VR hsz hz
        subst this
        exact ⟨v, VR_sval h2, h3⟩
def factMem (x : VV) : List Fact → Option (Nat × Nat × Nat)
  | [] => none
  | .mem y j n sz :: l => match sEq x y with
    | true => some (j, n, sz)
    | false => factMem x l
  | _ :: l => factMem x l
theorem factMem_mem {x : VV} : ∀ {l : List Fact} {j n sz : Nat}, factMem x l = some (j, n, sz) → Fact.mem x j n sz ∈ l
  | [], j, n, sz, h => by cases h
  | .mem y j' n' sz' :: l, j, n, sz, h => by
    simp only [factMem] at h
    split at h
    · rename_i h1
      cases h
      rw [sEq_eq h1]
      exact List.mem_cons_self ..
    · exact List.mem_cons_of_mem _ (factMem_mem h)
  | .bin .. :: l, _, _, _, h => List.mem_cons_of_mem _ (factMem_mem (by simpa only [factMem] using h))
  | .len .. :: l, _, _, _, h => List.mem_cons_of_mem _ (factMem_mem (by simpa only [factMem] using h))
  | .at .. :: l, _, _, _, h => List.mem_cons_of_mem _ (factMem_mem (by simpa only [factMem] using h))
  | .cut .. :: l, _, _, _, h => List.mem_cons_of_mem _ (factMem_mem (by simpa only [factMem] using h))
  | .fn .. :: l, _, _, _, h => List.mem_cons_of_mem _ (factMem_mem (by simpa only [factMem] using h))
  | .lst .. :: l, _, _, _, h => List.mem_cons_of_mem _ (factMem_mem (by simpa only [factMem] using h))
def nEqs : List Nat → List Nat → Bool
  | [], [] => true
  | x :: a, y :: b => match Nat.beq x y with | true => nEqs a b | false => false
  | _, _ => false
theorem nEqs_eq : ∀ {a b : List Nat}, nEqs a b = true → a = b
  | [], [], _ => rfl
  | [], _ :: _, h => by simp [nEqs] at h
  | _ :: _, [], h => by simp [nEqs] at h
  | x :: a, y :: b, h => by
    simp only [nEqs] at h
    split at h
    · rename_i hx
      rw [nEqs_eq h, Nat.eq_of_beq_eq_true hx]
    · cases h
def loEq : LO → LO → Bool
  | .upd a, .upd b => Nat.beq a b
theorem loEq_eq : ∀ {a b : LO}, loEq a b = true → a = b
  | .upd a, .upd b, h => by rw [Nat.eq_of_beq_eq_true (show Nat.beq a b = true from h)]
def factLst (o : LO) (js : List Nat) (xs : List VV) : List Fact → Option Nat
  | [] => none
  | .lst o' js' ys r :: l => match loEq o o', nEqs js js', sEqs xs ys with
    | true, true, true => some r
    | _, _, _ => factLst o js xs l
  | _ :: l => factLst o js xs l
theorem factLst_mem {o : LO} {js : List Nat} {xs : List VV} : ∀ {l : List Fact} {r : Nat}, factLst o js xs l = some r → Fact.lst o js xs r ∈ l
  | [], r, h => by cases h
  | .lst o' js' ys r' :: l, r, h => by
    simp only [factLst] at h
    split at h
    · rename_i h1 h2 h3
      cases h
      rw [loEq_eq h1, nEqs_eq h2, sEqs_eq h3]
      exact List.mem_cons_self ..
    · exact List.mem_cons_of_mem _ (factLst_mem h)
  | .bin .. :: l, _, h => List.mem_cons_of_mem _ (factLst_mem (by simpa only [factLst] using h))
  | .len .. :: l, _, h => List.mem_cons_of_mem _ (factLst_mem (by simpa only [factLst] using h))
  | .at .. :: l, _, h => List.mem_cons_of_mem _ (factLst_mem (by simpa only [factLst] using h))
  | .cut .. :: l, _, h => List.mem_cons_of_mem _ (factLst_mem (by simpa only [factLst] using h))
  | .fn .. :: l, _, h => List.mem_cons_of_mem _ (factLst_mem (by simpa only [factLst] using h))
  | .mem .. :: l, _, h => List.mem_cons_of_mem _ (factLst_mem (by simpa only [factLst] using h))
/-- An index at symbols. -/
def symAt (P : Program) (H : VH) (t : TypeId) (x ix : VV) : RO :=
  match P.underlying t with
  | some (.slice elem) => match P.info? elem with
    | some e => match factAt e.size x ix H.base.tab with
      | some a => .val (.ptr (some a))
      | none => .bad
    | none => .bad
  | _ => .bad
theorem symAt_sound [Ext] {P : Program} {w0 : World} {φ : Phi} {H : VH} {w : World} (h : HSim w0 φ H w) {t : TypeId} {x ix : VV} {x' ix' : Value} (hx : VR φ x x') (hi : VR φ ix ix') :
    ROR φ w ((Instr.indexAt t x' ix').run P w) (symAt P H t x ix) := by
  unfold symAt
  cases hu : P.underlying t with
  | none => trivial
  | some d => cases d with
    | slice elem =>
      simp only
      cases he : P.info? elem with
      | none => trivial
      | some e =>
        simp only
        cases hf : factAt e.size x ix H.base.tab with
        | none => trivial
        | some a =>
          simp only [ROR]
          obtain ⟨ad, l, c, k, n, j, h1, h2, h3, h4, h5, h6, h7, h8⟩ := h.env.tab _ (factAt_mem hf)
          have e1 := sval_VR h1 hx
          have e2 := sval_VR h3 hi
          subst e1 e2
          refine ⟨.pointer (some (ad.add (n.toNat * e.size))), ?_, ?_⟩
          · simp [Instr.indexAt, asIntOf, run_underlying hu, run_sizeOf' he, tsize, he, h4, h5]
          · simp only [VR, AR, h6]
            refine ⟨_, 0, ⟨?_, rfl⟩, rfl⟩
            obtain ⟨b, o, sp⟩ := ad
            simp only at h2 h7 h8
            subst h2
            rw [Addr.add_lit, h7, h8]
    | _ => trivial
/-- Where an index lies. -/
def evIndexAddr0 (P : Program) (t : TypeId) (x ix : VV) : RO :=
  match ix with
  | .int _ i => match P.underlying t, x with
    | some (.array len elem), .ptr (some a) => match P.info? elem with
      | some e => .chk (decide (0 ≤ i)) (.chk (decide (i < len)) (.val (.ptr (some (a.add (i.toNat * e.size))))))
      | none => .bad
    | some (.slice elem), .slice (some a) len _ => match P.info? elem with
      | some e => .chk (decide (0 ≤ i)) (.chk (decide (i < len)) (.val (.ptr (some (a.add (i.toNat * e.size))))))
      | none => .bad
    | _, _ => .bad
  | _ => .bad
theorem evIndexAddr0_sound {P : Program} {φ : Phi} {w : World} {t : TypeId} {x ix : VV} {x' ix' : Value} (hx : VR φ x x') (hi : VR φ ix ix') :
    ROR φ w ((Instr.indexAt t x' ix').run P w) (evIndexAddr0 P t x ix) := by
  unfold evIndexAddr0
  cases ix with
  | int k i =>
    simp only [VR] at hi
    subst hi
    simp only
    cases hu : P.underlying t with
    | none => trivial
    | some d => cases d with
      | array len elem => cases x with
        | ptr p => cases p with
          | none => trivial
          | some a =>
            simp only
            cases he : P.info? elem with
            | none => trivial
            | some e =>
              simp only [ROR]
              intro h1 h2
              simp only [VR] at hx
              obtain ⟨a', s, ha, rfl⟩ := hx
              refine ⟨.pointer (some (a'.add (i.toNat * e.size))), ?_, by simp only [VR]; exact ⟨_, s, ha.add _, rfl⟩⟩
              have h1' := of_decide_eq_true h1
              have h2' := of_decide_eq_true h2
              simp [Instr.indexAt, asIntOf, run_underlying hu, Instr.sureAddr, run_sizeOf' he, tsize, he, h1', h2']
        | _ => trivial
      | slice elem => cases x with
        | slice p len cap => cases p with
          | none => trivial
          | some a =>
            simp only
            cases he : P.info? elem with
            | none => trivial
            | some e =>
              simp only [ROR]
              intro h1 h2
              simp only [VR] at hx
              obtain ⟨a', s, ha, rfl⟩ := hx
              refine ⟨.pointer (some (a'.add (i.toNat * e.size))), ?_, by simp only [VR]; exact ⟨_, s, ha.add _, rfl⟩⟩
              have h1' := of_decide_eq_true h1
              have h2' := of_decide_eq_true h2
              simp [Instr.indexAt, asIntOf, run_underlying hu, run_sizeOf' he, tsize, he, h1', h2']
        | _ => trivial
      | _ => cases x <;> trivial
  | _ => trivial
def isSym : VV → Bool
  | .sym _ => true
  | _ => false
/-- Where an element of a list lies, the index being a number. -/
def lslAt (P : Program) (H : VH) (t : TypeId) (b n : Nat) (ix : VV) : RO := match ix with
  | .int _ (.ofNat k) => match P.underlying t with
    | some (.slice elem) => match P.info? elem with
      | some e => match decide (((k : Nat) : Int) < (H.base.ivl n).1) with
        | true => .val (.ptr (some ⟨.loc b, k * e.size⟩))
        | false => .bad
      | none => .bad
    | _ => .bad
  | _ => .bad
theorem lslAt_sound [Ext] {P : Program} {w0 : World} {φ : Phi} {H : VH} {w : World} (h : HSim w0 φ H w) {t : TypeId} {b n : Nat} {ix : VV} {x' ix' : Value} (hx : VR φ (.lsl b n 0) x') (hi : VR φ ix ix') :
    ROR φ w ((Instr.indexAt t x' ix').run P w) (lslAt P H t b n ix) := by
  unfold lslAt
  split
  · rename_i kk k
    cases hu : P.underlying t with
    | none => trivial
    | some d => cases d with
      | slice elem =>
        simp only
        cases he : P.info? elem with
        | none => trivial
        | some e =>
          simp only
          cases hd : decide (((k : Nat) : Int) < (H.base.ivl n).1) with
          | false => trivial
          | true =>
            have hd := of_decide_eq_true hd
            have hv := (h.env.ivl n).1
            simp only [VR] at hx hi
            obtain ⟨inf, hφ, rfl⟩ := hx
            subst hi
            have hk : (k : Int) < (((φ.ρ.int n).toNat + 0 : Nat) : Int) := by omega
            have e2 : (Int.ofNat k).toNat = k := rfl
            have h0 : (0 : Int) ≤ Int.ofNat k := Int.natCast_nonneg k
            have h1 : Int.ofNat k < (((φ.ρ.int n).toNat + 0 : Nat) : Int) := hk
            simp only [ROR]
            refine ⟨.pointer (some ((⟨inf.blk, inf.off, none⟩ : Addr).add (k * e.size))), ?_, ?_⟩
            · have h9 : ¬ φ.ρ.int n ≤ (k : Int) := by omega
              simp [Instr.indexAt, asIntOf, run_underlying hu, run_sizeOf' he, tsize, he, h9]
            · simp only [VR]
              refine ⟨_, inf.slack, ?_, rfl⟩
              unfold AR
              exact ⟨inf, hφ, Addr.add_lit _ _ _, rfl⟩
      | _ => trivial
  · trivial
def evIndexAddr (P : Program) (H : VH) (t : TypeId) (x ix : VV) : RO :=
  match isSym x with
  | true => symAt P H t x ix
  | false => match x with
    | .lsl b n 0 => lslAt P H t b n ix
    | x => evIndexAddr0 P t x ix
theorem evIndexAddr_sound [Ext] {P : Program} {w0 : World} {φ : Phi} {H : VH} {w : World} (h : HSim w0 φ H w) {t : TypeId} {x ix : VV} {x' ix' : Value} (hx : VR φ x x') (hi : VR φ ix ix') :
    ROR φ w ((Instr.indexAt t x' ix').run P w) (evIndexAddr P H t x ix) := by
  unfold evIndexAddr
  cases isSym x with
  | true => exact symAt_sound h hx hi
  | false =>
    simp only
    split
    · exact lslAt_sound h hx hi
    · exact evIndexAddr0_sound hx hi
/-- A cell of a list is set. -/
def hstoreL (H : VH) (a : VA) : List VV → Option VH
  | [x] => match a.b with
    | .loc i => match H.locs.get i with
      | some (.list j n sz tail et) => match flat1 x, decide (((a.o : Nat) : Int) < (H.base.ivl n).1 * (sz : Nat)), factLst (.upd a.o) [j] [x] H.base.tab with
        | true, true, some j' => some { H with locs := H.locs.put i (.list j' n sz tail et) }
        | _, _, _ => none
      | _ => none
    | _ => none
  | _ => none
theorem hstoreL_sound [Ext] {P : Program} {w0 : World} {φ : Phi} {H H₁ : VH} {w : World} (h : HSim w0 φ H w) {a : VA} {a' : Addr} {s : Nat} (ha : AR φ a a' s) {xs : List VV} {vs : List Value} (hs : hstoreL H a xs = some H₁) (hv : VRs φ xs vs) :
    ∃ w₁, (storeCells a' vs).run P w = .ok () w₁ ∧ HSim w0 φ H₁ w₁ ∧ (∃ i inf o, φ i = some inf ∧ Upd w w₁ inf.blk o) ∧ H₁.base = H.base := by
  unfold hstoreL at hs
  split at hs
  · rename_i x
    split at hs
    · rename_i i hb
      split at hs
      · rename_i j n sz tail et hg
        split at hs
        · rename_i j' h1 h2 h3
          simp only [Option.some.injEq] at hs
          subst hs
          have h2 := of_decide_eq_true h2
          obtain ⟨y, v, e1, ⟨e2, e3⟩, e4⟩ := h.env.tab _ (factLst_mem h3)
          simp only [VRs] at hv
          obtain ⟨v', _, rfl, hv', rfl⟩ := hv
          have := sval_VR e1 hv'
          subst this
          unfold AR at ha
          rw [hb] at ha
          obtain ⟨inf, hφ, rfl, rfl⟩ := ha
          obtain ⟨inf', o', hφ', hw, ⟨g1, g2, c', e, fr, rfl, hc⟩, _⟩ := h.live i _ hg
          rw [hφ] at hφ'; cases hφ'
          have hn := (h.env.ivl n).1
          have hlt : a.o < (φ.ρ.lst j).length := by
            have h5 : (H.base.ivl n).1 * (sz : Int) ≤ φ.ρ.int n * (sz : Int) := Int.mul_le_mul_of_nonneg_right hn (Int.natCast_nonneg _)
            have h6 : ((φ.ρ.lst j).length : Int) = φ.ρ.int n * (sz : Int) := by
              rw [g2, Int.natCast_mul, Int.toNat_of_nonneg g1]
            omega
          have hsz := hc.size
          simp only [List.length_append] at hsz
          obtain ⟨w₁, c₁, r1, r2, r3, r4⟩ := run_storeCells (P := P) (o := inf.off + a.o) [v'] 0 c' w hw (by simp only [List.length_cons, List.length_nil]; omega) (fun k hk => by
            simp only [List.length_cons, List.length_nil] at hk
            have := hc.free (a.o + k) (by omega) (by simp only [List.length_append]; omega)
            rwa [show inf.off + a.o + 0 + k = inf.off + (a.o + k) by omega]) (fun z hz => by
              simp only [List.mem_singleton] at hz
              subst hz
              exact VR_flat1 hv' h1)
          refine ⟨w₁, r1, h.put hg hφ r2 ⟨g1, by rw [e4, List.length_set]; exact g2, c₁, e, fr, rfl, ⟨by rw [r3, e4, List.length_append, List.length_set]; exact hsz, (fun hh => by cases hh), ?_, hc.low, fun t ht => ⟨(hc.typ t ht).1, fun hh => by cases hh⟩⟩⟩, ⟨i, inf, _, hφ, r2⟩, rfl⟩
          intro k z hz
          rw [r4]
          simp only [List.length_cons, List.length_nil]
          rw [e4] at hz
          by_cases hk : k = a.o
          · subst hk
            rw [List.getElem?_append_left (by rw [List.length_set]; exact hlt), List.getElem?_set_self hlt] at hz
            cases hz
            rw [if_pos ⟨by omega, by omega⟩]
            refine ⟨v', by rw [show inf.off + a.o - (inf.off + a.o + 0) = 0 by omega]; rfl, e3 _⟩
          · rw [if_neg (by omega)]
            refine hc.cell k z ?_
            by_cases hl : k < (φ.ρ.lst j).length
            · rw [List.getElem?_append_left (by rw [List.length_set]; exact hl), List.getElem?_set_ne (fun e => hk e.symm)] at hz
              rw [List.getElem?_append_left hl]
              exact hz
            · rw [List.getElem?_append_right (by rw [List.length_set]; omega), List.length_set] at hz
              rw [List.getElem?_append_right (by omega)]
              exact hz
        · cases hs
      · cases hs
    · cases hs
  · cases hs
/-- A store, to cells that are known, or into a list. -/
def hstoreA (H : VH) (a : VA) (vs : List VV) : Option VH := match hstore H a vs with
  | some H₁ => some H₁
  | none => hstoreL H a vs
theorem hstoreA_sound [Ext] {P : Program} {w0 : World} {φ : Phi} {H H₁ : VH} {w : World} (h : HSim w0 φ H w) {a : VA} {a' : Addr} {s : Nat} (ha : AR φ a a' s) {xs : List VV} {vs : List Value} (hs : hstoreA H a xs = some H₁) (hv : VRs φ xs vs) :
    ∃ w₁, (storeCells a' vs).run P w = .ok () w₁ ∧ HSim w0 φ H₁ w₁ ∧ (∃ i inf o, φ i = some inf ∧ Upd w w₁ inf.blk o) ∧ H₁.base = H.base := by
  unfold hstoreA at hs
  split at hs
  · rename_i K hK
    cases hs
    exact hstore_sound h ha hK hv
  · exact hstoreL_sound h ha hs hv
def evIndex0 (P : Program) (t : TypeId) (x ix : VV) : RO :=
  match ix with
  | .int _ i => match P.underlying t, x with
    | some (.array len elem), .agg cs => match P.info? elem with
      | some e => .chk (decide (0 ≤ i)) (.chk (decide (i < len)) (RO.of (partT P elem cs (i.toNat * e.size))))
      | none => .bad
    | some .string, .string s => .chk (decide (0 ≤ i)) (match lget s.data.toList i.toNat with
      | some b => .val (.int .u8 b.toNat)
      | none => .bad)
    | _, _ => .bad
  | _ => .bad
theorem evIndex0_sound {P : Program} {φ : Phi} {w : World} {t : TypeId} {x ix : VV} {x' ix' : Value} (hx : VR φ x x') (hi : VR φ ix ix') :
    ROR φ w ((Instr.index t x' ix').run P w) (evIndex0 P t x ix) := by
  unfold evIndex0
  cases ix with
  | int k i =>
    simp only [VR] at hi
    subst hi
    simp only
    cases hu : P.underlying t with
    | none => trivial
    | some d => cases d with
      | array len elem => cases x with
        | agg cs =>
          simp only
          cases he : P.info? elem with
          | none => trivial
          | some e =>
            simp only [ROR]
            intro h1 h2
            simp only [VR] at hx
            obtain ⟨cs', hc, rfl⟩ := hx
            refine ROR_of fun v hv => ?_
            obtain ⟨v', r1, r2⟩ := partT_sound (w := w) hc hv
            refine ⟨v', ?_, r2⟩
            have h1' := of_decide_eq_true h1
            have h2' := of_decide_eq_true h2
            simp only [Instr.index, asIntOf, Sem.run_bind, Sem.run_pure, Result.andThen_ok, run_underlying hu]
            rw [if_pos ⟨h1', h2'⟩]
            simp only [Sem.run_bind, run_sizeOf' he, Result.andThen_ok, tsize, he]
            exact r1
        | _ => trivial
      | string => cases x with
        | string s =>
          simp only [ROR]
          intro h1
          have h1' := of_decide_eq_true h1
          simp only [VR] at hx
          subst hx
          rw [lget_eq]
          cases hb : s.data.toList[i.toNat]? with
          | none => trivial
          | some b =>
            simp only [ROR]
            refine ⟨.int .u8 b.toNat, ?_, by simp [VR]⟩
            have hb' : s[i.toNat]? = some b := by
              rw [List.getElem?_eq_some_iff] at hb
              obtain ⟨hlt, hb⟩ := hb
              have hlt' : i.toNat < s.size := by simpa using hlt
              rw [getElem?_pos s i.toNat hlt']
              simp only [Option.some.injEq]
              exact hb
            simp only [Instr.index, asIntOf, Sem.run_bind, Sem.run_pure, Result.andThen_ok, run_underlying hu]
            rw [if_pos h1', hb']
            simp
        | _ => trivial
      | _ => cases x <;> trivial
  | _ => trivial
/-- A byte of a string of symbols. -/
def symIdx (P : Program) (H : VH) (t : TypeId) (x ix : VV) : RO := match P.underlying t with
  | some .string => RO.of (factFn .sidx [x, ix] H.base.tab)
  | _ => .bad
def isSymI : VV → Bool
  | .sint _ _ => true
  | _ => false
def evIndex (P : Program) (H : VH) (t : TypeId) (x ix : VV) : RO := match isSym x, isSymI ix with
  | false, false => evIndex0 P t x ix
  | _, _ => symIdx P H t x ix
theorem evIndex_sound [Ext] {P : Program} {w0 : World} {φ : Phi} {H : VH} {w : World} (h : HSim w0 φ H w) {t : TypeId} {x ix : VV} {x' ix' : Value} (hx : VR φ x x') (hi : VR φ ix ix') :
    ROR φ w ((Instr.index t x' ix').run P w) (evIndex P H t x ix) := by
  have key : ROR φ w ((Instr.index t x' ix').run P w) (symIdx P H t x ix) := by
    unfold symIdx
    cases hu : P.underlying t with
    | none => trivial
    | some d => cases d with
      | string =>
        simp only
        cases hf : factFn .sidx [x, ix] H.base.tab with
        | none => trivial
        | some r =>
          obtain ⟨v, h1, h2⟩ := fn2 h.env hf hx hi
          simp only [RO.of, ROR]
          refine ⟨v, ?_, h1⟩
          cases x' <;> try (simp [FOsem] at h2; done)
          cases ix' <;> try (simp [FOsem] at h2; done)
          rename_i s k i
          obtain ⟨g1, b, hb, rfl⟩ := h2
          have hb' : s[i.toNat]? = some b := by
            rw [List.getElem?_eq_some_iff] at hb
            obtain ⟨hlt, hb⟩ := hb
            have hlt' : i.toNat < s.size := by simpa using hlt
            rw [getElem?_pos s i.toNat hlt']
            simp only [Option.some.injEq]
            exact hb
          simp only [Instr.index, asIntOf, Sem.run_bind, Sem.run_pure, Result.andThen_ok, run_underlying hu]
          rw [if_pos g1, hb']
          simp
      | _ => trivial
  unfold evIndex
  cases isSym x <;> cases isSymI ix <;> first | exact evIndex0_sound hx hi | exact key
end
end Go.Ev
