/- Engine, part P: what an operation tells hangs on what it looks at. -/
import Derived.Test.YticgadnmlbfmfaaEvO
namespace Go.Ev
theorem evOperand_congr {a b : VT} {x : Operand} (h : ∀ t, x = .tmp t → tget a t = tget b t) : evOperand a x = evOperand b x := by
  cases x with
  | tmp t => simp only [evOperand, h t rfl]
  | _ => rfl
theorem evOperands_congr {a b : VT} : ∀ {l : List Operand}, (∀ x ∈ l, evOperand a x = evOperand b x) → evOperands a l = evOperands b l
  | [], _ => rfl
  | x :: l, h => by simp only [evOperands, h x (by simp), evOperands_congr (l := l) fun y hy => h y (by simp [hy])]
theorem evParts_congr {a b : VT} : ∀ {l : List (Nat × Operand)}, (∀ x ∈ l.map (·.2), evOperand a x = evOperand b x) → evParts a l = evParts b l
  | [], _ => rfl
  | (i, x) :: l, h => by simp only [evParts, h x (by simp), evParts_congr (l := l) fun y hy => h y (by simp at hy ⊢; exact .inr hy)]
theorem evOpt_congr {a b : VT} {o : Option Operand} (h : ∀ x ∈ o.toArray, evOperand a x = evOperand b x) : evOpt a o = evOpt b o := by
  cases o with
  | none => rfl
  | some x => simp only [evOpt, h x (by simp)]
theorem evCallR_congr {P : Program} {a b : VT} {H : VH} {c : Call} (h : ∀ x ∈ c.operands, evOperand a x = evOperand b x) : evCallR P c a H = evCallR P c b H := by
  obtain ⟨callee, ⟨args⟩, ⟨ts⟩⟩ := c
  cases callee with
  | builtin bi =>
    have h' : ∀ x ∈ args, evOperand a x = evOperand b x := fun x hx => h x (by simp [Call.operands, hx])
    cases bi with
    | len => cases args with
      | nil => rfl
      | cons x l => cases l with
        | nil => cases ts with
          | nil => rfl
          | cons t ts => simp only [evCallR, h' x (by simp)]
        | cons y l => rfl
    | cap => cases args with
      | nil => rfl
      | cons x l => cases l with
        | nil => cases ts with
          | nil => rfl
          | cons t ts => simp only [evCallR, h' x (by simp)]
        | cons y l => rfl
    | min => cases args with
      | nil => rfl
      | cons x l => cases l with
        | nil => rfl
        | cons y l => cases l with
          | nil => simp only [evCallR, h' x (by simp), h' y (by simp)]
          | cons z l => rfl
    | max => cases args with
      | nil => rfl
      | cons x l => cases l with
        | nil => rfl
        | cons y l => cases l with
          | nil => simp only [evCallR, h' x (by simp), h' y (by simp)]
          | cons z l => rfl
    | unsafeSliceData => cases args with
      | nil => rfl
      | cons x l => cases l with
        | nil => simp only [evCallR, h' x (by simp)]
        | cons y l => rfl
    | _ => rfl
  | _ => rfl
theorem evR_congr {P : Program} {a b : VT} {H : VH} {op : Op} (h : ∀ x ∈ op.operands, evOperand a x = evOperand b x) : evR P op a H = evR P op b H := by
  cases op with
  | move x => simp only [evR, h x (by simp [Op.operands])]
  | assign x => simp only [evR, h x (by simp [Op.operands])]
  | pick c x y => simp only [evR, h x (by simp [Op.operands]), h y (by simp [Op.operands]), h c (by simp [Op.operands])]
  | build t parts =>
    obtain ⟨parts⟩ := parts
    simp only [evR, evParts_congr (l := parts) fun x hx => h x (by simpa [Op.operands] using hx)]
  | load t x => simp only [evR, h x (by simp [Op.operands])]
  | nilCheck x => simp only [evR, h x (by simp [Op.operands])]
  | binOp op t x y z => simp only [evR, h x (by simp [Op.operands]), h y (by simp [Op.operands])]
  | unOp op t x => simp only [evR, h x (by simp [Op.operands])]
  | convert s d x => simp only [evR, h x (by simp [Op.operands])]
  | makeInterface t x => simp only [evR, h x (by simp [Op.operands])]
  | makeFunc fn f c =>
    obtain ⟨f⟩ := f
    obtain ⟨c⟩ := c
    simp only [evR, evOperands_congr (l := f) fun x hx => h x (by simp [Op.operands, hx]), evOperands_congr (l := c) fun x hx => h x (by simp [Op.operands, hx])]
  | slice t x lo hi mx =>
    cases mx with
    | some m =>
      simp only [evR, h x (by simp [Op.operands]), h m (by simp [Op.operands]), evOpt_congr (o := lo) fun x hx => h x (by simp only [Op.operands, Array.mem_append]; exact .inl (.inl (.inr hx))), evOpt_congr (o := hi) fun x hx => h x (by simp only [Op.operands, Array.mem_append]; exact .inl (.inr hx))]
    | none =>
      simp only [evR, h x (by simp [Op.operands]), evOpt_congr (o := lo) fun x hx => h x (by simp only [Op.operands, Array.mem_append]; exact .inl (.inl (.inr hx))), evOpt_congr (o := hi) fun x hx => h x (by simp only [Op.operands, Array.mem_append]; exact .inl (.inr hx))]
  | fieldAddr t x f => simp only [evR, h x (by simp [Op.operands])]
  | field t x f => simp only [evR, h x (by simp [Op.operands])]
  | indexAddr t x i => simp only [evR, h x (by simp [Op.operands]), h i (by simp [Op.operands])]
  | index t x i => simp only [evR, h x (by simp [Op.operands]), h i (by simp [Op.operands])]
  | lookup t x k ok => simp only [evR, h x (by simp [Op.operands]), h k (by simp [Op.operands])]
  | typeAssert x xt t ok => simp only [evR, h x (by simp [Op.operands])]
  | extract x i => simp only [evR, h x (by simp [Op.operands])]
  | call c => simp only [evR]; exact evCallR_congr fun x hx => h x (by simpa [Op.operands] using hx)
  | _ => rfl
theorem evU_congr {P : Program} {a b : VT} {op : Op} (h : ∀ x ∈ op.operands, evOperand a x = evOperand b x) : evU P op a = evU P op b := by
  cases op with
  | move x => simp only [evU, h x (by simp [Op.operands])]
  | build t parts =>
    obtain ⟨parts⟩ := parts
    simp only [evU, evParts_congr (l := parts) fun x hx => h x (by simpa [Op.operands] using hx)]
  | makeInterface t x => simp only [evU, h x (by simp [Op.operands])]
  | _ => rfl
theorem evNew_congr {P : Program} {a b : VT} {op : Op} (h : ∀ x ∈ op.operands, evOperand a x = evOperand b x) : evNew P op a = evNew P op b := by
  cases op with
  | box t x => simp only [evNew, h x (by simp [Op.operands])]
  | buildSlice t n parts =>
    obtain ⟨parts⟩ := parts
    simp only [evNew, evParts_congr (l := parts) fun x hx => h x (by simpa [Op.operands] using hx)]
  | makeMap t r =>
    cases r with
    | none => rfl
    | some r => simp only [evNew, h r (by simp [Op.operands])]
  | makeSlice t l c => simp only [evNew, h l (by simp [Op.operands]), h c (by simp [Op.operands])]
  | _ => rfl
theorem evBin_base {P : Program} {H K : VH} (hb : H.base = K.base) (op : BinOp) (t : TypeId) (cx cy : Bool) (x y : VV) : evBin P H op t cx cy x y = evBin P K op t cx cy x y := by
  unfold evBin evBin0 evEq
  rw [hb]
theorem evIndexAddr_base {P : Program} {H K : VH} (hb : H.base = K.base) (t : TypeId) (x y : VV) : evIndexAddr P H t x y = evIndexAddr P K t x y := by
  unfold evIndexAddr symAt lslAt
  rw [hb]
theorem evMin_base {H K : VH} (hb : H.base = K.base) (x y : VV) : evMin H x y = evMin K x y := by
  unfold evMin
  rw [hb]
theorem evMax_base {H K : VH} (hb : H.base = K.base) (x y : VV) : evMax H x y = evMax K x y := by
  unfold evMax
  rw [hb]
/-- What hangs on its operands alone. -/
theorem evR_pure {P : Program} {a : VT} {H K : VH} (hb : H.base = K.base) {op : Op} (h : cls P op = 0) : evR P op a H = evR P op a K := by
  cases op with
  | slice t x lo hi mx => simp [cls] at h
  | load t x => simp [cls] at h
  | lookup t x k ok => simp [cls] at h
  | convert s d x =>
    simp only [cls] at h
    split at h <;> cases h
  | binOp op t x y z => simp only [evR, evBin_base hb]
  | indexAddr t x i => simp only [evR, evIndexAddr_base hb]
  | index t x i => simp only [evR, evIndex, symIdx, hb]
  | unOp op t x => simp only [evR, evUn, hb]
  | call c =>
    obtain ⟨callee, args, ts⟩ := c
    cases callee with
    | builtin bi =>
      obtain ⟨args⟩ := args
      cases bi with
      | min => rcases args with _ | ⟨x, _ | ⟨y, _ | ⟨z, l⟩⟩⟩ <;> simp only [evR, evCallR, evMin_base hb]
      | max => rcases args with _ | ⟨x, _ | ⟨y, _ | ⟨z, l⟩⟩⟩ <;> simp only [evR, evCallR, evMax_base hb]
      | unsafeSliceData => rcases args with _ | ⟨x, _ | ⟨y, l⟩⟩ <;> rfl
      | _ => first | rfl | (simp [cls] at h; done)
    | _ => rfl
  | _ => rfl
theorem mem_tmpsOf {t : Nat} : ∀ {l : List Operand}, Operand.tmp t ∈ l → t ∈ tmpsOf l
  | [], h => by cases h
  | x :: l, h => by
    rcases List.mem_cons.1 h with rfl | h
    · simp [tmpsOf]
    · have := mem_tmpsOf h
      cases x <;> simp [tmpsOf, this]
theorem looks_op {all : List Oper} {o : Oper} {t : Nat} (h : t ∈ tmpsOf o.op.operands.toList) : t ∈ looks all o := by
  unfold looks
  split
  · split
    · split
      · simp [h]
      · exact h
    · exact h
  · exact h
theorem looks_guard {all : List Oper} {o og : Oper} {g : Nat} {w : Bool} {d : Nat} (hg : o.guard = some (g, w)) (ho : lget all g = some og) (hd : og.dst = some d) : d ∈ looks all o := by
  unfold looks
  rw [hg]
  simp only [ho, hd]
  simp
theorem looks_alloc {all : List Oper} {o : Oper} : o.guard = none → looks all o = tmpsOf o.op.operands.toList := by
  intro h; unfold looks; rw [h]
/-- Two states of the temporaries that an operation tells not apart. -/
def SameV (all : List Oper) (o : Oper) (a b : VT) : Prop := ∀ t ∈ looks all o, tget a t = tget b t
def Same (all : List Oper) (o : Oper) (act act' : Act) : Prop := ∀ t ∈ looks all o, act.tmps.getD t undef = act'.tmps.getD t undef
theorem SameV.evR {P : Program} {all : List Oper} {o : Oper} {a b : VT} {H : VH} (h : SameV all o a b) : Go.Ev.evR P o.op a H = Go.Ev.evR P o.op b H :=
  evR_congr fun x hx => evOperand_congr fun t ht => h t (looks_op (mem_tmpsOf (by subst ht; simpa using hx)))
theorem SameV.wanted {all : List Oper} {o : Oper} {a b : VT} (h : SameV all o a b) : wantedV all a o.guard = wantedV all b o.guard := by
  cases hg : o.guard with
  | none => rfl
  | some gw =>
    obtain ⟨g, w⟩ := gw
    simp only [wantedV]
    cases ho : lget all g with
    | none => rfl
    | some og =>
      simp only
      cases hd : og.dst with
      | none => rfl
      | some d => simp only [h d (looks_guard hg ho hd)]
theorem SameV.gOk {all : List Oper} {o : Oper} {a b : VT} (h : SameV all o a b) : Go.Ev.gOk all a o.guard = Go.Ev.gOk all b o.guard := by
  cases hg : o.guard with
  | none => rfl
  | some gw =>
    obtain ⟨g, w⟩ := gw
    simp only [Go.Ev.gOk]
    cases ho : lget all g with
    | none => rfl
    | some og =>
      simp only
      cases hd : og.dst with
      | none => rfl
      | some d => simp only [h d (looks_guard hg ho hd)]
theorem SameV.operands {all : List Oper} {o : Oper} {a b : VT} (h : SameV all o a b) : ∀ x ∈ o.op.operands, evOperand a x = evOperand b x :=
  fun x hx => evOperand_congr fun t ht => h t (looks_op (mem_tmpsOf (by subst ht; simpa using hx)))
theorem Same.eval {all : List Oper} {o : Oper} {act act' : Act} (h : Same all o act act') : ∀ x ∈ o.op.operands, act.eval x = act'.eval x := by
  intro x hx
  cases x with
  | tmp t => exact h t (looks_op (mem_tmpsOf (by simpa using hx)))
  | _ => rfl
theorem Same.exec {all : List Oper} {o : Oper} {act act' : Act} (h : Same all o act act') (hs : ∀ cs b, o.op ≠ .select cs b) : execOp act.eval o = execOp act'.eval o :=
  execOp_congr o hs h.eval
theorem wanted_getD (ops : List Oper) (tmps : Array Value) (o : Oper) : Region.wanted o (yielded ⟨ops⟩ tmps) = match o.guard with
    | none => true
    | some (j, want) => match lget ops j with
      | some oj => match oj.dst with
        | some d => match tmps.getD d undef with
          | .bool b => match b with | true => want | false => !want
          | _ => false
        | none => false
      | none => false := by
  unfold Region.wanted
  cases hg : o.guard with
  | none => rfl
  | some jw =>
    obtain ⟨j, want⟩ := jw
    simp only [yielded]
    rw [lget_eq]
    have e0 : (⟨ops⟩ : Array Oper)[j]? = ops[j]? := by simp
    rw [e0]
    cases hj : ops[j]? with
    | none => rfl
    | some oj =>
      simp only [Option.bind_some]
      cases hd : oj.dst with
      | none => rfl
      | some d =>
        simp only [Option.bind_some]
        have hget : tmps.getD d undef = (tmps[d]?).getD undef := by simp [Array.getD_eq_getD_getElem?]
        rw [hget]
        cases hv : tmps[d]? with
        | none => rfl
        | some v =>
          simp only [Option.getD_some]
          cases v with
          | bool b => cases b <;> cases want <;> rfl
          | _ => rfl
theorem Same.wanted {all : List Oper} {o : Oper} {act act' : Act} (h : Same all o act act') : Region.wanted o (yielded ⟨all⟩ act.tmps) = Region.wanted o (yielded ⟨all⟩ act'.tmps) := by
  rw [wanted_getD, wanted_getD]
  cases hg : o.guard with
  | none => rfl
  | some gw =>
    obtain ⟨g, w⟩ := gw
    simp only
    cases ho : lget all g with
    | none => rfl
    | some og =>
      simp only
      cases hd : og.dst with
      | none => rfl
      | some d => simp only [h d (looks_guard hg ho hd)]
theorem evR_noSelect {P : Program} {op : Op} {a : VT} {H : VH} {v : VV} (h : (evR P op a H).get = some v) : (∀ cs b, op ≠ .select cs b) ∧ ∀ c, op ≠ .defer c := by
  constructor
  · rintro cs b rfl; simp [evR, RO.get] at h
  · rintro c rfl; simp [evR, RO.get] at h
theorem opRun_noSelect {P : Program} {fe : FE} {op : Op} {a : VT} {H : VH} {v : VV} {H₁ : VH} (h : opRun P fe op a H = some (v, H₁)) : ∀ cs b, op ≠ .select cs b := by
  rintro c b rfl
  simp [opRun, cls, evE, Out.get] at h
/-- One operation, of which the temporaries are known as far as it looks. -/
theorem opRun_same [Ext] {P : Program} (hng : NoNG P) {fe : FE} (hfe : FEok P fe) {w0 : World} {φ : Phi} {w : World} {a : VT} {act actg : Act} {H : VH} (ht : TR φ a actg.tmps) (hs : HSim w0 φ H w) {all : List Oper} {o : Oper} (hsm : Same all o act actg) {v : VV} {H₁ : VH} (h : opRun P fe o.op a H = some (v, H₁))
    (r : Option Nat) (K : Act → World → Prop) (Q : Exit → Act → World → Prop)
    (hK : ∀ v' w₁ φ₁, St φ w φ₁ w₁ → VR φ₁ v v' → HSim w0 φ₁ H₁ w₁ → H₁.base = H.base → K (act.put o.dst v') w₁) : o.wpIn (Fr r) 0 P act w K Q := by
  have hd := opRun_noDefer h
  refine ⟨fun _ _ => trivial, ?_⟩
  rw [show (Fr r).round = r from rfl, Oper.semAt_eq _ _ _ hd, hsm.exec (opRun_noSelect h)]
  have read : ∀ {u : VV}, (evR P o.op a H).get = some u → some (u, H) = some (v, H₁) → o.uponIn (Fr r) 0 P act K Q ((execOp actg.eval o).run P w) := by
    intro u hu he
    simp only [Option.some.injEq, Prod.mk.injEq] at he
    obtain ⟨rfl, rfl⟩ := he
    obtain ⟨v', h1, h2⟩ := RNR_get hu (evR_sound ht hs o)
    rw [h1]
    exact hK v' w φ (.refl φ w) h2 hs rfl
  have write : (match (evE P o.op a H).get with
      | .val v H₁ => some (v, H₁)
      | .enter f args => fe.call f args H
      | .round i args => fe.round i args H
      | .bad => none) = some (v, H₁) → o.uponIn (Fr r) 0 P act K Q ((execOp actg.eval o).run P w) := by
    intro he
    have hg := Out_get (evE_sound hng ht hs o)
    cases hq : (evE P o.op a H).get with
    | val u K' =>
      rw [hq] at he hg
      simp only [Option.some.injEq, Prod.mk.injEq] at he
      obtain ⟨rfl, rfl⟩ := he
      simp only at hg
      rcases hg with ⟨v', w₁, φ₁, h1, h2, h3, h4, h5⟩ | ⟨rfl, w₁, φ₁, h1, h2, h3, h4⟩
      · rw [h1]; exact hK v' w₁ φ₁ h2 h3 h4 h5
      · rw [h1]; exact hK undef w₁ φ₁ h2 (VR_undef φ₁) h3 h4
    | enter f args =>
      rw [hq] at he hg
      simp only at he hg
      obtain ⟨args', h1, h2⟩ := hg
      rw [h1]
      refine ⟨(fun hx => by cases hx), ?_⟩
      refine callsIn_fr.2 ((hfe.call w0 f args H v H₁ he φ w args' h2 hs).mono ?_)
      rintro e w' ⟨u, v', φ', H', rfl, k1, k2, k3, k4, rfl, rfl⟩
      exact hK v' w' φ' k1 k2 k3 k4
    | round i args =>
      rw [hq] at he hg
      simp only at he hg
      obtain ⟨inf, L, args', h1, h2, h3, h4, h5⟩ := hg
      rw [h5]
      refine ⟨(fun hx => by cases hx), ?_⟩
      refine (hfe.round w0 i args H v H₁ he φ w args' inf L r h4 hs h1 h2).mono ?_
      rintro e w' ⟨v', φ', rfl, k1, k2, k3, k4⟩
      exact hK v' w' φ' k1 k2 k3 k4
    | bad => rw [hq] at he; cases he
  unfold opRun at h
  split at h
  · cases hg : (evR P o.op a H).get with
    | none => rw [hg] at h; cases h
    | some u => rw [hg] at h; exact read hg h
  · cases hg : (evR P o.op a H).get with
    | none => rw [hg] at h; cases h
    | some u => rw [hg] at h; exact read hg h
  · exact write h
/-! ### equality of virtual values -/
theorem vaEq_eq {a b : VA} (h : vaEq a b = true) : a = b := by
  obtain ⟨ab, ao⟩ := a
  obtain ⟨bb, bo⟩ := b
  unfold vaEq at h
  cases ab with
  | base r => cases bb with
    | base s =>
      simp only at h
      cases hr : Nat.beq r s with
      | false => rw [hr] at h; cases h
      | true => rw [hr] at h; rw [Nat.eq_of_beq_eq_true hr, Nat.eq_of_beq_eq_true h]
    | loc s => cases h
    | sym s => cases h
  | sym r => cases bb with
    | base s => cases h
    | loc s => cases h
    | sym s =>
      simp only at h
      cases hr : Nat.beq r s with
      | false => rw [hr] at h; cases h
      | true => rw [hr] at h; rw [Nat.eq_of_beq_eq_true hr, Nat.eq_of_beq_eq_true h]
  | loc r => cases bb with
    | base s => cases h
    | sym s => cases h
    | loc s =>
      simp only at h
      cases hr : Nat.beq r s with
      | false => rw [hr] at h; cases h
      | true => rw [hr] at h; rw [Nat.eq_of_beq_eq_true hr, Nat.eq_of_beq_eq_true h]
theorem andB {a b : Bool} (h : (match a with | true => b | false => false) = true) : a = true ∧ b = true := by
  cases a with
  | true => exact ⟨rfl, h⟩
  | false => cases h
mutual
theorem vvEq_eq : ∀ (x y : VV), vvEq x y = true → x = y
  | .bool a, y, h => by
    cases y with
    | bool b => cases a <;> cases b <;> first | rfl | (simp [vvEq] at h; done)
    | _ => simp [vvEq] at h
  | .int k a, y, h => by
    cases y with
    | int k' b =>
      simp only [vvEq] at h
      obtain ⟨h1, h2⟩ := andB h
      rw [of_decide_eq_true h2, of_decide_eq_true (show decide (k = k') = true from h1)]
    | _ => simp [vvEq] at h
  | .string a, y, h => by
    cases y with
    | string b =>
      simp only [vvEq] at h
      unfold strEq at h
      rw [bytesEq_eq] at h
      have h1 : a.data.toList = b.data.toList := by simpa using h
      have h2 : a.data = b.data := Array.toList_inj.1 h1
      obtain ⟨a⟩ := a
      obtain ⟨b⟩ := b
      simp only at h2
      rw [h2]
    | _ => simp [vvEq] at h
  | .ptr none, y, h => by
    cases y with
    | ptr p => cases p with
      | none => rfl
      | some q => simp [vvEq] at h
    | _ => simp [vvEq] at h
  | .ptr (some a), y, h => by
    cases y with
    | ptr p => cases p with
      | none => simp [vvEq] at h
      | some q => simp only [vvEq] at h; rw [vaEq_eq h]
    | _ => simp [vvEq] at h
  | .slice none l c, y, h => by
    cases y with
    | slice p l' c' => cases p with
      | none =>
        simp only [vvEq] at h
        obtain ⟨h1, h2⟩ := andB h
        rw [Nat.eq_of_beq_eq_true h1, Nat.eq_of_beq_eq_true h2]
      | some q => simp [vvEq] at h
    | _ => simp [vvEq] at h
  | .slice (some a) l c, y, h => by
    cases y with
    | slice p l' c' => cases p with
      | none => simp [vvEq] at h
      | some q =>
        simp only [vvEq] at h
        obtain ⟨h0, h⟩ := andB h
        obtain ⟨h1, h2⟩ := andB h
        rw [vaEq_eq h0, Nat.eq_of_beq_eq_true h1, Nat.eq_of_beq_eq_true h2]
    | _ => simp [vvEq] at h
  | .sliceE, y, h => by cases y <;> simp [vvEq] at h
  | .any, y, h => by cases y <;> simp [vvEq] at h
  | .one, y, h => by cases y <;> simp [vvEq] at h
  | .sint k i, y, h => by
    cases y with
    | sint k' j =>
      simp only [vvEq] at h
      obtain ⟨h1, h2⟩ := andB h
      rw [Nat.eq_of_beq_eq_true h2, of_decide_eq_true (show decide (k = k') = true from h1)]
    | _ => simp [vvEq] at h
  | .sym i, y, h => by
    cases y with
    | sym j => simp only [vvEq] at h; rw [Nat.eq_of_beq_eq_true h]
    | _ => simp [vvEq] at h
  | .map none, y, h => by
    cases y with
    | map p => cases p with
      | none => rfl
      | some q => simp [vvEq] at h
    | _ => simp [vvEq] at h
  | .map (some a), y, h => by
    cases y with
    | map p => cases p with
      | none => simp [vvEq] at h
      | some q =>
        simp only [vvEq] at h
        have := vaEq_eq h
        simp only [VA.mk.injEq, and_true] at this
        rw [this]
    | _ => simp [vvEq] at h
  | .func f a b, y, h => by
    cases y with
    | func g c d => cases f with
      | func f => cases g with
        | func g =>
          simp only [vvEq] at h
          obtain ⟨h0, h⟩ := andB h
          obtain ⟨h1, h2⟩ := andB h
          rw [Nat.eq_of_beq_eq_true h0, vvsEq_eq a c h1, vvsEq_eq b d h2]
        | _ => simp [vvEq] at h
      | _ => simp [vvEq] at h
    | _ => simp [vvEq] at h
  | .yield i, y, h => by cases y <;> simp [vvEq] at h
  | .nilFunc, y, h => by
    cases y with
    | nilFunc => rfl
    | _ => simp [vvEq] at h
  | .iface t x, y, h => by
    cases y with
    | iface u z =>
      simp only [vvEq] at h
      obtain ⟨h0, h1⟩ := andB h
      rw [Nat.eq_of_beq_eq_true h0, vvEq_eq x z h1]
    | _ => simp [vvEq] at h
  | .nilIface, y, h => by
    cases y with
    | nilIface => rfl
    | _ => simp [vvEq] at h
  | .agg a, y, h => by
    cases y with
    | agg b => simp only [vvEq] at h; rw [vvsEq_eq a b h]
    | _ => simp [vvEq] at h
  | .tuple a, y, h => by
    cases y with
    | tuple b => simp only [vvEq] at h; rw [vvsEq_eq a b h]
    | _ => simp [vvEq] at h
  | .lsl a n k, y, h => by
    cases y with
    | lsl b n' k' =>
      simp only [vvEq] at h
      obtain ⟨h0, h⟩ := andB h
      obtain ⟨h1, h2⟩ := andB h
      rw [Nat.eq_of_beq_eq_true h0, Nat.eq_of_beq_eq_true h1, Nat.eq_of_beq_eq_true h2]
    | _ => simp [vvEq] at h
  | .cat a, y, h => by
    cases y with
    | cat b => simp only [vvEq] at h; rw [vvsEq_eq a b h]
    | _ => simp [vvEq] at h
  | .tsl a p, y, h => by
    cases y with
    | tsl b q =>
      simp only [vvEq] at h
      obtain ⟨h0, h1⟩ := andB h
      rw [Nat.eq_of_beq_eq_true h0, vvsEq_eq p q h1]
    | _ => simp [vvEq] at h
  | .tlen a, y, h => by
    cases y with
    | tlen b => simp only [vvEq] at h; rw [vvsEq_eq a b h]
    | _ => simp [vvEq] at h
theorem vvsEq_eq : ∀ (x y : List VV), vvsEq x y = true → x = y
  | [], y, h => by
    cases y with
    | nil => rfl
    | cons u l => simp [vvsEq] at h
  | x :: a, y, h => by
    cases y with
    | nil => simp [vvsEq] at h
    | cons u l =>
      simp only [vvsEq] at h
      obtain ⟨h0, h1⟩ := andB h
      rw [vvEq_eq x u h0, vvsEq_eq a l h1]
end
theorem still_spec {P : Program} {a : VT} {H : VH} {o : Oper} (h : still P a H o = true) : ∃ v, (evR P o.op a H).get = some v ∧ ∀ d, o.dst = some d → tget a d = v := by
  unfold still at h
  cases hg : (evR P o.op a H).get with
  | none => rw [hg] at h; cases h
  | some v =>
    rw [hg] at h
    refine ⟨v, rfl, fun d hd => ?_⟩
    rw [hd] at h
    exact (vvEq_eq _ _ h).symm
theorem stable_spec {P : Program} {all : List Oper} {mk : List Nat} {e : Nat} {a : VT} {H : VH} : ∀ {l : List Nat}, stable P all mk e a H l = true → ∀ p ∈ l, rch mk p e = false → ∀ o, lget all p = some o → still P a H o = true
  | [], _, p, hp, _, _, _ => by cases hp
  | x :: l, h, p, hp, hr, o, ho => by
    simp only [stable] at h
    obtain ⟨h1, h2⟩ := andB h
    rcases List.mem_cons.1 hp with rfl | hp
    · rw [hr, ho] at h1
      exact h1
    · exact stable_spec h2 p hp hr o ho
theorem keepP_mem {mk : List Nat} {e : Nat} : ∀ {l : List Nat} {p : Nat}, p ∈ l → rch mk p e = false → p ∈ keepP mk e l
  | [], _, hp, _ => by cases hp
  | x :: l, p, hp, hr => by
    simp only [keepP]
    rcases List.mem_cons.1 hp with rfl | hp
    · rw [hr]; simp
    · have := keepP_mem (l := l) hp hr
      cases rch mk x e with
      | true => exact this
      | false => simp [this]
end Go.Ev
