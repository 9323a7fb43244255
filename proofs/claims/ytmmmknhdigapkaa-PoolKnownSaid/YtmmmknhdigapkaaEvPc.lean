/- Engine, part Pc: a deferred closure that recovers, and the calls of functions that defer one, as known calls. -/
import Derived.Test.YtmmmknhdigapkaaEvPb
namespace Go.Ev
noncomputable section
def noFE : FE := ⟨fun _ _ _ => none, fun _ _ _ => none⟩
/-- What recover would find. -/
inductive RM where
  | none
  | live (v : VV)
  | done
def isRec : Op → Bool
  | .call ⟨.builtin .recover, _, _⟩ => true
  | _ => false
def recV : RM → VV
  | .live v => v
  | _ => .nilIface
def recM : RM → RM
  | .live _ => .done
  | m => m
def isNo : Option (Nat × Bool) → Bool | none => true | some _ => false
/-- Operations of the closure, in the order of the text. -/
def rOps (P : Program) (nt : Nat) : List Oper → VT → VH → RM → Option (VT × VH × RM)
  | [], a, H, M => some (a, H, M)
  | o :: l, a, H, M => match isNo o.guard with
    | false => none
    | true => match isRec o.op with
      | true => match putD nt a o.dst (recV M) with
        | some a₁ => rOps P nt l a₁ H (recM M)
        | none => none
      | false => match opRun P noFE o.op a H with
        | some (v, H₁) => match putD nt a o.dst v with
          | some a₁ => rOps P nt l a₁ H₁ M
          | none => none
        | none => none
def hasRec : List Oper → Bool
  | [] => false
  | o :: l => match isRec o.op with | true => true | false => hasRec l
def rC (P : Program) (rc : CE) (n : Nat) : Nat → Code → VT → VH → RM → Option (VX × VT × VH × RM) :=
  Nat.rec (fun _ _ _ _ _ => none) (fun _ ih => fun nt c a H M => match c with
    | .seq x y => match ih nt x a H M with
      | some (.normal, a, H, M) => ih nt y a H M
      | r => r
    | .cond c x y => match evOperand a c with
      | some (.bool b) => match b with
        | true => ih nt x a H M
        | false => ih nt y a H M
      | _ => none
    | .region id ⟨ops⟩ false => match hasRec ops with
      | true => match rOps P nt ops a H M with
        | some (a, H, M) => some (.normal, a, H, M)
        | none => none
      | false => match rc nt (.region id ⟨ops⟩ false) a H with
        | some (x, a, H) => some (x, a, H, M)
        | none => none
    | c => match rc nt c a H with
      | some (x, a, H) => some (x, a, H, M)
      | none => none) n
/-- The deferred closure, called with these, as the frame leaves. -/
def rF (P : Program) (rc : CE) (n : Nat) (g : FuncId) (args : List VV) (H : VH) (M : RM) : Option (VH × RM) := match P.funcs[g]? with
  | some fn => match fn.body with
    | some c => match Nat.ble args.length fn.ntmps, Nat.ble fn.ntmps top with
      | true, true => match rC P rc n fn.ntmps c (listT args 0 .lf) H M with
        | some (.exit _, _, _, _) => none
        | some (_, a, H, M) => match resL P a H fn.results.toList with
          | some _ => some (H, M)
          | none => none
        | none => none
      | _, _ => none
    | none => none
  | none => none

/-! ### soundness -/
def MR (φ : Phi) : RM → FrameMode → Prop
  | .none, u => u = .returning
  | .live v, u => ∃ v', u = .panicking (chain1 v') ∧ VR φ v v'
  | .done, u => ∃ v', u = .panicking [{ v := v', recovered := true }]
theorem MR.mono {φ φ' : Phi} (h : φ.le φ') : ∀ {M : RM} {u : FrameMode}, MR φ M u → MR φ' M u
  | .none, _, k => k
  | .live _, _, ⟨v', k1, k2⟩ => ⟨v', k1, k2.mono h⟩
  | .done, _, k => k
def PostS [Ext] (w0 : World) (φ : Phi) (w : World) (sz : Nat) (H : VH) (c₀ : Frame) (cs : List Frame) (x : VX) (a₁ : VT) (H₁ : VH) (M₁ : RM) (e : Exit) (act' : Act) (cs' : List Frame) (w' : World) : Prop :=
  ∃ φ' u', e = x.real ∧ cs' = { c₀ with mode := u' } :: cs ∧ MR φ' M₁ u' ∧ St φ w φ' w' ∧ TR φ' a₁ act'.tmps ∧ HSim w0 φ' H₁ w' ∧ H₁.base = H.base ∧ act'.tmps.size = sz ∧ act'.defers = []
theorem PostS.trans [Ext] {w0 : World} {φ φ' : Phi} {w w' : World} {sz : Nat} {H H₁ H₂ : VH} {c₀ : Frame} {cs : List Frame} {x : VX} {a₂ : VT} {M₂ : RM} {e : Exit} {act' : Act} {cs' : List Frame} {w'' : World} (hs : St φ w φ' w') (hb : H₁.base = H.base) (h : PostS w0 φ' w' sz H₁ c₀ cs x a₂ H₂ M₂ e act' cs' w'') : PostS w0 φ w sz H c₀ cs x a₂ H₂ M₂ e act' cs' w'' := by
  obtain ⟨ψ, u', h1, h2, h3, h4, h5, h6, h7, h8, h9⟩ := h
  exact ⟨ψ, u', h1, h2, h3, hs.trans h4, h5, h6, h7.trans hb, h8, h9⟩
section
variable {P : Program}
theorem opV_sound [Ext] (hng : NoNG P) {w0 : World} {φ : Phi} {w : World} {a : VT} {act : Act} {H : VH} (ht : TR φ a act.tmps) (hs : HSim w0 φ H w) {o : Oper} {v : VV} {H₁ : VH} (h : opRun P noFE o.op a H = some (v, H₁)) :
    ∃ v' w₁ φ₁, ((execOp act.eval o).run P w = .ok (.value v') w₁ ∨ v' = undef ∧ (execOp act.eval o).run P w = .ok .skip w₁) ∧ St φ w φ₁ w₁ ∧ VR φ₁ v v' ∧ HSim w0 φ₁ H₁ w₁ ∧ H₁.base = H.base := by
  have read : ∀ {u : VV}, (evR P o.op a H).get = some u → some (u, H) = some (v, H₁) → ∃ v' w₁ φ₁, ((execOp act.eval o).run P w = .ok (.value v') w₁ ∨ v' = undef ∧ (execOp act.eval o).run P w = .ok .skip w₁) ∧ St φ w φ₁ w₁ ∧ VR φ₁ v v' ∧ HSim w0 φ₁ H₁ w₁ ∧ H₁.base = H.base := by
    intro u hu he
    simp only [Option.some.injEq, Prod.mk.injEq] at he
    obtain ⟨rfl, rfl⟩ := he
    obtain ⟨v', h1, h2⟩ := RNR_get hu (evR_sound ht hs o)
    exact ⟨v', w, φ, .inl h1, .refl φ w, h2, hs, rfl⟩
  have write : (match (evE P o.op a H).get with
      | .val v H₁ => some (v, H₁)
      | .enter f args => noFE.call f args H
      | .round i args => noFE.round i args H
      | .bad => none) = some (v, H₁) → ∃ v' w₁ φ₁, ((execOp act.eval o).run P w = .ok (.value v') w₁ ∨ v' = undef ∧ (execOp act.eval o).run P w = .ok .skip w₁) ∧ St φ w φ₁ w₁ ∧ VR φ₁ v v' ∧ HSim w0 φ₁ H₁ w₁ ∧ H₁.base = H.base := by
    intro he
    have hg := Out_get (evE_sound hng ht hs o)
    cases hq : (evE P o.op a H).get with
    | val u K' =>
      rw [hq] at he hg
      simp only [Option.some.injEq, Prod.mk.injEq] at he
      obtain ⟨rfl, rfl⟩ := he
      simp only at hg
      rcases hg with ⟨v', w₁, φ₁, h1, h2, h3, h4, h5⟩ | ⟨rfl, w₁, φ₁, h1, h2, h3, h4⟩
      · exact ⟨v', w₁, φ₁, .inl h1, h2, h3, h4, h5⟩
      · exact ⟨undef, w₁, φ₁, .inr ⟨rfl, h1⟩, h2, VR_undef φ₁, h3, h4⟩
    | enter f args => rw [hq] at he; cases he
    | round i args => rw [hq] at he; cases he
    | bad => rw [hq] at he; cases he
  unfold opRun at h
  split at h
  · cases hg : (evR P o.op a H).get with
    | none => rw [hg] at h; cases h
    | some u => rw [hg] at h; exact read hg h
  · cases hg : (evR P o.op a H).get with
    | none => rw [hg] at h; cases h
    | some u => rw [hg] at h; exact read hg h
  · exact write h
theorem run_recover {o : Oper} (h : isRec o.op = true) (ρ : Operand → Value) (w : World) : (execOp ρ o).run P w = .ok .recover w := by
  obtain ⟨dst, op, type, pos, after, guard⟩ := o
  unfold isRec at h
  simp only at h
  split at h
  · rfl
  · cases h
theorem rOps_sound [Ext] (hng : NoNG P) {w0 : World} {nt : Nat} (hb : nt ≤ top) {c₀ : Frame} {cs : List Frame} {all : List Oper} : ∀ (l pre : List Oper) (a : VT) (H : VH) (M : RM) (a₁ : VT) (H₁ : VH) (M₁ : RM), all = pre ++ l → rOps P nt l a H M = some (a₁, H₁, M₁) →
    ∀ (φ : Phi) (act : Act) (w : World) (u : FrameMode), TR φ a act.tmps → HSim w0 φ H w → nt ≤ act.tmps.size → act.defers = [] → MR φ M u → ∀ (Q : Exit → Act → List Frame → World → Prop), (∀ e act' cs' w', PostS w0 φ w act.tmps.size H c₀ cs .normal a₁ H₁ M₁ e act' cs' w' → Q e act' cs' w') →
    wpOpsS P ⟨all⟩ Q (List.range' pre.length l.length) act ({ c₀ with mode := u } :: cs) w := by
  intro l
  induction l with
  | nil =>
    intro pre a H M a₁ H₁ M₁ _ h φ act w u ht hs hn hd hm Q hQ
    simp only [rOps, Option.some.injEq, Prod.mk.injEq] at h
    obtain ⟨rfl, rfl, rfl⟩ := h
    exact hQ _ act _ w ⟨φ, u, rfl, rfl, hm, .refl φ w, ht, hs, rfl, rfl, hd⟩
  | cons o l ih =>
    intro pre a H M a₁ H₁ M₁ hall h φ act w u ht hs hn hd hm Q hQ
    have hget : (⟨all⟩ : Array Oper)[pre.length]? = some o := by simp [hall]
    simp only [List.length_cons, List.range'_succ, wpOpsS, hget]
    have hall' : all = (pre ++ [o]) ++ l := by simp [hall]
    have hlen : (pre ++ [o]).length = pre.length + 1 := by simp
    simp only [rOps] at h
    cases hgo : isNo o.guard with
    | false => rw [hgo] at h; cases h
    | true =>
    rw [hgo] at h
    simp only at h
    have hno : o.guard = none := by cases hg : o.guard with
      | none => rfl
      | some x => rw [hg] at hgo; cases hgo
    rw [if_pos (by simp [Region.wanted, hno])]
    cases hrc : isRec o.op with
    | true =>
      rw [hrc] at h
      simp only at h
      rw [run_recover hrc]
      simp only
      cases hp : putD nt a o.dst (recV M) with
      | none => rw [hp] at h; cases h
      | some a' =>
        rw [hp] at h
        simp only at h
        have go : ∀ (v' : Value) (u' : FrameMode), VR φ (recV M) v' → MR φ (recM M) u' → wpOpsS P ⟨all⟩ Q (List.range' (pre.length + 1) l.length) (act.put o.dst v') ({ c₀ with mode := u' } :: cs) w := by
          intro v' u' hv hm'
          obtain ⟨p1, p2, p3⟩ := putD_sound ht hn hb hv hp
          have := ih (pre ++ [o]) a' H (recM M) a₁ H₁ M₁ hall' h φ (act.put o.dst v') w u' p1 hs (by omega) (by rw [p3]; exact hd) hm' Q (fun e act' cs' w' hp' => hQ e act' cs' w' (by rw [p2] at hp'; exact hp'))
          rwa [hlen] at this
        cases M with
        | none =>
          cases (show u = .returning from hm)
          simp only [recoverD]
          exact go _ _ (by simp [recV, VR]) hm
        | live v =>
          obtain ⟨v', rfl, hv⟩ := hm
          simp only [recoverD, chain1]
          exact go v' _ hv ⟨v', rfl⟩
        | done =>
          obtain ⟨v', rfl⟩ := hm
          simp only [recoverD]
          exact go _ _ (by simp [recV, VR]) ⟨v', rfl⟩
    | false =>
      rw [hrc] at h
      simp only at h
      cases hr : opRun P noFE o.op a H with
      | none => rw [hr] at h; cases h
      | some vh =>
        obtain ⟨v, H'⟩ := vh
        rw [hr] at h
        simp only at h
        cases hp : putD nt a o.dst v with
        | none => rw [hp] at h; cases h
        | some a' =>
          rw [hp] at h
          simp only at h
          obtain ⟨v', w₁, φ₁, hrun, k1, k2, k3, k4⟩ := opV_sound hng ht hs hr
          obtain ⟨p1, p2, p3⟩ := putD_sound (ht.mono k1.le) hn hb k2 hp
          have := ih (pre ++ [o]) a' H' M a₁ H₁ M₁ hall' h φ₁ (act.put o.dst v') w₁ u p1 k3 (by omega) (by rw [p3]; exact hd) (hm.mono k1.le) Q (fun e act' cs' w' hp' => hQ e act' cs' w' (by rw [p2] at hp'; exact PostS.trans k1 k4 hp'))
          rw [hlen] at this
          rcases hrun with hrun | ⟨rfl, hrun⟩
          · rw [hrun]; exact this
          · rw [hrun]; exact this
theorem rC_sound [Ext] (hng : NoNG P) {rc : CE} (hrc : CEokT P False (fun _ => True) rc) {c₀ : Frame} {cs : List Frame} : ∀ n w0 nt c a H M x a₁ H₁ M₁, rC P rc n nt c a H M = some (x, a₁, H₁, M₁) → nt ≤ top → ∀ (φ : Phi) (act : Act) (w : World) (u : FrameMode), TR φ a act.tmps → HSim w0 φ H w → nt ≤ act.tmps.size → act.defers = [] → MR φ M u →
    c.wpS P (PostS w0 φ w act.tmps.size H c₀ cs x a₁ H₁ M₁) act ({ c₀ with mode := u } :: cs) w := by
  intro n
  induction n with
  | zero => intro w0 nt c a H M x a₁ H₁ M₁ h; cases h
  | succ n ih =>
    intro w0 nt c a H M x a₁ H₁ M₁ h hb φ act w u ht hs hn hd hm
    have plain : (match rc nt c a H with | some (x, a, H) => some (x, a, H, M) | none => none) = some (x, a₁, H₁, M₁) → c.wpS P (PostS w0 φ w act.tmps.size H c₀ cs x a₁ H₁ M₁) act ({ c₀ with mode := u } :: cs) w := by
      intro h
      cases hy : rc nt c a H with
      | none => rw [hy] at h; cases h
      | some t =>
        obtain ⟨e, a', H'⟩ := t
        rw [hy] at h
        simp only [Option.some.injEq, Prod.mk.injEq] at h
        obtain ⟨rfl, rfl, rfl, rfl⟩ := h
        have k := hrc w0 nt c a H e a' H' hy hb none trivial φ act w ht hs hn (fun _ => False) (fun h => h.elim) (by rw [hd]; exact .nil)
        refine wpS_of_wp (wpIn_wide.1 (wpIn_mono k ?_))
        rintro e' act' w' ⟨φ', rfl, k2, k3, k4, k5, k6, ⟨rs, m1, m2, m3⟩⟩
        refine ⟨φ', u, rfl, rfl, hm.mono k2.le, k2, k3, k4, k5, k6, ?_⟩
        cases rs with
        | nil => exact m1
        | cons r rs => exact (m3 r (by simp)).1.elim
    have h' : (match (generalizing := false) c with
      | .seq x y => match rC P rc n nt x a H M with
        | some (.normal, a, H, M) => rC P rc n nt y a H M
        | r => r
      | .cond c x y => match evOperand a c with
        | some (.bool b) => match b with
          | true => rC P rc n nt x a H M
          | false => rC P rc n nt y a H M
        | _ => none
      | .region id ⟨ops⟩ false => match hasRec ops with
        | true => match rOps P nt ops a H M with
          | some (a, H, M) => some (.normal, a, H, M)
          | none => none
        | false => match rc nt (.region id ⟨ops⟩ false) a H with
          | some (x, a, H) => some (x, a, H, M)
          | none => none
      | c => match rc nt c a H with
        | some (x, a, H) => some (x, a, H, M)
        | none => none) = some (x, a₁, H₁, M₁) := h
    split at h'
    · rename_i y z
      refine wpS_seq ?_
      cases hy : rC P rc n nt y a H M with
      | none => rw [hy] at h'; cases h'
      | some t =>
        obtain ⟨e, a', H', M'⟩ := t
        rw [hy] at h'
        have k := ih w0 nt y a H M e a' H' M' hy hb φ act w u ht hs hn hd hm
        intro b kk hbk hro
        obtain ⟨e', act', cs', w', hp, harr⟩ := k b kk hbk hro
        refine ⟨e', act', cs', w', ?_, harr⟩
        have stop : some (e, a', H', M') = some (x, a₁, H₁, M₁) → PostS w0 φ w act.tmps.size H c₀ cs x a₁ H₁ M₁ e' act' cs' w' := by
          intro he
          simp only [Option.some.injEq, Prod.mk.injEq] at he
          obtain ⟨rfl, rfl, rfl, rfl⟩ := he
          exact hp
        cases e with
        | normal =>
          simp only at h'
          obtain ⟨φ', u', rfl, rfl, k1, k2, k3, k4, k5, k6, k7⟩ := hp
          have k' := ih w0 nt z a' H' M' x a₁ H₁ M₁ h' hb φ' act' w' u' k3 k4 (by omega) k7 k1
          intro b2 kk2 hb2 hr2
          obtain ⟨e'', act'', cs'', w'', hp', harr'⟩ := k' b2 kk2 hb2 hr2
          rw [k6] at hp'
          exact ⟨e'', act'', cs'', w'', PostS.trans k2 k5 hp', harr'⟩
        | ret =>
          have := stop h'
          obtain ⟨φ', u', rfl, _⟩ := hp
          exact this
        | exit id =>
          have := stop h'
          obtain ⟨φ', u', rfl, _⟩ := hp
          exact this
    · rename_i c y z
      cases hc : evOperand a c with
      | none => rw [hc] at h'; cases h'
      | some v => cases v with
        | bool b =>
          rw [hc] at h'
          have hv := evOperand_sound ht hc
          simp only [VR] at hv
          refine wpS_cond hv ?_
          cases b with
          | true => exact ih w0 nt y a H M x a₁ H₁ M₁ h' hb φ act w u ht hs hn hd hm
          | false => exact ih w0 nt z a H M x a₁ H₁ M₁ h' hb φ act w u ht hs hn hd hm
        | _ => rw [hc] at h'; cases h'
    · rename_i id ops
      cases hh : hasRec ops with
      | true =>
        rw [hh] at h'
        simp only at h'
        cases hr : rOps P nt ops a H M with
        | none => rw [hr] at h'; cases h'
        | some t =>
          obtain ⟨a', H', M'⟩ := t
          rw [hr] at h'
          simp only [Option.some.injEq, Prod.mk.injEq] at h'
          obtain ⟨rfl, rfl, rfl, rfl⟩ := h'
          refine wpS_region ?_
          have e : List.range (⟨ops⟩ : Array Oper).size = List.range' ([] : List Oper).length ops.length := by simp [List.range_eq_range']
          rw [e]
          exact rOps_sound hng hb ops [] a H M a' H' M' rfl hr φ act w u ht hs hn hd hm _ (fun _ _ _ _ k => k)
      | false =>
        rw [hh] at h'
        exact plain h'
    · exact plain h'
/-- The closure, as the frame below leaves. -/
theorem rF_sound [Ext] (hng : NoNG P) {rc : CE} (hrc : CEokT P False (fun _ => True) rc) {n : Nat} {w0 : World} {g : FuncId} {args : List VV} {H H₁ : VH} {M M₁ : RM} (h : rF P rc n g args H M = some (H₁, M₁)) {φ : Phi} {w : World} {args' : List Value} {u : FrameMode} (ha : VRs φ args args') (hs : HSim w0 φ H w) (hm : MR φ M u) :
    CallsD P g ⟨args'⟩ u w fun e u' w' => ∃ v' φ', e = .returned v' ∧ St φ w φ' w' ∧ HSim w0 φ' H₁ w' ∧ H₁.base = H.base ∧ MR φ' M₁ u' := by
  unfold rF at h
  cases hf : P.funcs[g]? with
  | none => rw [hf] at h; cases h
  | some fn =>
    rw [hf] at h
    simp only at h
    cases hb : fn.body with
    | none => rw [hb] at h; cases h
    | some c =>
      rw [hb] at h
      simp only at h
      cases h1 : Nat.ble args.length fn.ntmps with
      | false => rw [h1] at h; cases h
      | true => cases h2 : Nat.ble fn.ntmps top with
        | false => rw [h1, h2] at h; cases h
        | true =>
          rw [h1, h2] at h
          simp only at h
          have h1' : args.length ≤ fn.ntmps := Nat.le_of_ble_eq_true h1
          have h2' : fn.ntmps ≤ top := Nat.le_of_ble_eq_true h2
          have hl := VRs_length _ _ ha
          cases hr : rC P rc n fn.ntmps c (listT args 0 .lf) H M with
          | none => rw [hr] at h; cases h
          | some q =>
            obtain ⟨x, a₁, H', M'⟩ := q
            rw [hr] at h
            have hsz : fn.ntmps ≤ ((⟨args'⟩ : Array Value) ++ Array.replicate (fn.ntmps - (⟨args'⟩ : Array Value).size) undef).size := by simp; omega
            refine callsD_of_wpS hf hb fun c₀ cs hu => ?_
            have hc0 : ({ c₀ with mode := u } : Frame) = c₀ := by subst hu; rfl
            have k := rC_sound hng hrc (c₀ := c₀) (cs := cs) n w0 fn.ntmps c _ H M x a₁ H' M' hr h2' φ { tmps := (⟨args'⟩ : Array Value) ++ Array.replicate (fn.ntmps - (⟨args'⟩ : Array Value).size) undef, defers := [] } w u (args_TR ha h1' h2') hs hsz rfl hm
            rw [hc0] at k
            intro b kk hbk hro
            obtain ⟨e, act', cs', w', hp, harr⟩ := k b kk hbk hro
            refine ⟨e, act', cs', w', ?_, harr⟩
            obtain ⟨φ', u', rfl, rfl, k1, k2, k3, k4, k5, k6, k7⟩ := hp
            have fin : ∀ (_ : (match resL P a₁ H' fn.results.toList with | some _ => some (H', M') | none => none) = some (H₁, M₁)), act'.defers = [] ∧ ∃ u'', { c₀ with mode := u' } :: cs = { c₀ with mode := u'' } :: cs ∧ ∃ v, (results fn act'.tmps).run P w' = .ok v w' ∧ ∃ v' φ', Ending.returned v = .returned v' ∧ St φ w φ' w' ∧ HSim w0 φ' H₁ w' ∧ H₁.base = H.base ∧ MR φ' M₁ u'' := by
              intro hx
              cases hq : resL P a₁ H' fn.results.toList with
              | none => rw [hq] at hx; cases hx
              | some l =>
                rw [hq] at hx
                simp only [Option.some.injEq, Prod.mk.injEq] at hx
                obtain ⟨rfl, rfl⟩ := hx
                obtain ⟨v', r1, r2⟩ := results_sound (P := P) k3 k4 hq
                exact ⟨k7, u', rfl, v', r1, v', φ', rfl, k2, k4, k5, k1⟩
            cases x with
            | normal => exact fin h
            | ret => exact fin h
            | exit id => cases h
end
end
end Go.Ev
