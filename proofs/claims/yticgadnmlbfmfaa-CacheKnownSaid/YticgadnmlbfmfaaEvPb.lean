/- Engine, part Pb: panics: code and calls. -/
import Derived.Test.YticgadnmlbfmfaaEvPa
namespace Go.Ev
noncomputable section
def PLoopOK [Ext] (P : Program) (DD : List Deferred → Prop) (w0 : World) (nt : Nat) (c : Code) (a : VT) (H : VH) (x : PX) (a₁ : VT) (H₁ : VH) : Prop :=
  ∃ m, ∀ (φ : Phi) (act : Act) (w : World), TR φ a act.tmps → HSim w0 φ H w → nt ≤ act.tmps.size → DD act.defers → ∀ Q : Exit → Act → World → Prop, (∀ e act' w', PostD w0 φ w act.tmps.size H act.defers x a₁ H₁ e act' w' → Q e act' w') →
    Code.roundsIn (Fr none) 0 P c Q m act w
section
variable {P : Program} {DD : List Deferred → Prop} {rc : PCE} {fe : FE} {de : DE} {pf : PFE}
theorem PLoopOK.wp [Ext] {w0 : World} {nt : Nat} {c : Code} {a : VT} {H : VH} {x : PX} {a₁ : VT} {H₁ : VH} (h : PLoopOK P DD w0 nt c a H x a₁ H₁) (φ : Phi) (act : Act) (w : World) (ht : TR φ a act.tmps) (hs : HSim w0 φ H w) (hn : nt ≤ act.tmps.size) (hd : DD act.defers) :
    (Code.loop c).wpIn (Fr none) 0 P (PostD w0 φ w act.tmps.size H act.defers x a₁ H₁) act w := by
  obtain ⟨m, hm⟩ := h
  exact wpIn_loop_rounds m (hm φ act w ht hs hn hd _ fun _ _ _ k => k)
theorem stepP_loop [Ext] (hl : ∀ w0 nt c a H x a₁ H₁, rc nt (.loop c) a H = some (x, a₁, H₁) → nt ≤ top → PLoopOK P DD w0 nt c a H x a₁ H₁) (hrc : PCok P DD rc) :
    ∀ w0 nt c a H x a₁ H₁, stepP P de fe rc pf nt (.loop c) a H = some (x, a₁, H₁) → nt ≤ top → PLoopOK P DD w0 nt c a H x a₁ H₁ := by
  intro w0 nt c a H x a₁ H₁ h hb
  simp only [stepP] at h
  cases hy : rc nt c a H with
  | none => rw [hy] at h; cases h
  | some t =>
    obtain ⟨e, a', H'⟩ := t
    rw [hy] at h
    have stop : some (e, a', H') = some (x, a₁, H₁) → (∀ φ e', XR φ e e' → e' ≠ .normal) → PLoopOK P DD w0 nt c a H x a₁ H₁ := by
      intro he hne
      simp only [Option.some.injEq, Prod.mk.injEq] at he
      obtain ⟨rfl, rfl, rfl⟩ := he
      refine ⟨1, fun φ act w ht hs hn hd Q hQ => ?_⟩
      rw [roundsIn_succ]
      refine wpIn_mono (hrc w0 nt c a H _ a' H' hy hb φ act w ht hs hn hd) ?_
      intro e' act' w' hp
      have hne' : e' ≠ .normal := by obtain ⟨φ', he, _⟩ := hp; exact hne φ' e' he
      cases e' with
      | normal => exact absurd rfl hne'
      | _ => exact hQ _ _ _ hp
    cases e with
    | pan v => exact stop h (by rintro φ e' ⟨v', rfl, _⟩; simp)
    | x y =>
      cases y with
      | normal =>
        simp only at h
        obtain ⟨m, hm⟩ := hl w0 nt c a' H' x a₁ H₁ h hb
        refine ⟨m + 1, fun φ act w ht hs hn hd Q hQ => ?_⟩
        rw [roundsIn_succ]
        refine wpIn_mono (hrc w0 nt c a H _ a' H' hy hb φ act w ht hs hn hd) ?_
        intro e act' w' hp
        obtain ⟨φ', rfl, k2, k3, k4, k5, k6, k7⟩ := hp
        refine hm φ' act' w' k3 k4 (by omega) (by rw [k7]; exact hd) Q fun e'' act'' w'' hp' => hQ e'' act'' w'' ?_
        rw [k6, k7] at hp'
        exact PostD.trans k2 k5 hp'
      | ret => exact stop h (by rintro φ e' rfl; simp [VX.real])
      | exit id => exact stop h (by rintro φ e' rfl; simp [VX.real])
theorem stepP_sound [Ext] (hng : NoNG P) (hrc : PCok P DD rc) (hfe : FEok P fe) (hde : PDok P DD de) (hpf : PFok P pf) (hl : ∀ w0 nt c a H x a₁ H₁, rc nt (.loop c) a H = some (x, a₁, H₁) → nt ≤ top → PLoopOK P DD w0 nt c a H x a₁ H₁) : PCok P DD (stepP P de fe rc pf) := by
  intro w0 nt c a H x a₁ H₁ h hb φ act w ht hs hn hd
  have self : ∀ y, PostD w0 φ w act.tmps.size H act.defers (.x y) a H (VX.real y) act w := fun y => ⟨φ, rfl, .refl φ w, ht, hs, rfl, rfl, rfl⟩
  cases c with
  | loop c => exact (stepP_loop hl hrc w0 nt c a H x a₁ H₁ h hb).wp φ act w ht hs hn hd
  | skip =>
    simp only [stepP, Option.some.injEq, Prod.mk.injEq] at h
    obtain ⟨rfl, rfl, rfl⟩ := h
    exact wpIn_skip (self .normal)
  | region id ops draw =>
    obtain ⟨ops⟩ := ops
    cases draw with
    | false =>
      simp only [stepP] at h
      have := pOps_sound hng hfe hpf (w0 := w0) hb ops [] a H x a₁ H₁ rfl h φ act w ht hs hn _ (fun _ _ _ k => k)
      refine wpIn_region ?_
      have e : List.range (⟨ops⟩ : Array Oper).size = List.range' ([] : List Oper).length ops.length := by simp [List.range_eq_range']
      rw [e]
      exact this
    | true =>
      simp only [stepP] at h
      cases hr : de nt ops a H with
      | none => rw [hr] at h; cases h
      | some ah =>
        obtain ⟨a', H'⟩ := ah
        rw [hr] at h
        simp only [Option.some.injEq, Prod.mk.injEq] at h
        obtain ⟨rfl, rfl, rfl⟩ := h
        exact hde w0 nt id ops a H a' H' hr hb φ act w ht hs hn hd
  | seq y z =>
    simp only [stepP] at h
    refine wpIn_seq ?_
    cases hy : rc nt y a H with
    | none => rw [hy] at h; cases h
    | some t =>
      obtain ⟨e, a', H'⟩ := t
      rw [hy] at h
      have k := hrc w0 nt y a H e a' H' hy hb φ act w ht hs hn hd
      refine wpIn_mono k ?_
      intro e' act' w' hp
      have stop : some (e, a', H') = some (x, a₁, H₁) → PostD w0 φ w act.tmps.size H act.defers x a₁ H₁ e' act' w' := by
        intro he
        simp only [Option.some.injEq, Prod.mk.injEq] at he
        obtain ⟨rfl, rfl, rfl⟩ := he
        exact hp
      cases e with
      | pan v =>
        have := stop h
        obtain ⟨φ', ⟨v', rfl, _⟩, _⟩ := hp
        exact this
      | x y =>
        cases y with
        | normal =>
          simp only at h
          obtain ⟨φ', rfl, k2, k3, k4, k5, k6, k7⟩ := hp
          have k' := hrc w0 nt z a' H' x a₁ H₁ h hb φ' act' w' k3 k4 (by omega) (by rw [k7]; exact hd)
          refine wpIn_mono k' ?_
          intro e'' act'' w'' hp'
          rw [k6, k7] at hp'
          exact PostD.trans k2 k5 hp'
        | ret =>
          have := stop h
          obtain ⟨φ', rfl, _⟩ := hp
          exact this
        | exit id =>
          have := stop h
          obtain ⟨φ', rfl, _⟩ := hp
          exact this
  | cond c y z =>
    simp only [stepP] at h
    cases hc : evOperand a c with
    | none => rw [hc] at h; cases h
    | some v => cases v with
      | bool b =>
        rw [hc] at h
        have hv := evOperand_sound ht hc
        simp only [VR] at hv
        refine wpIn_cond hv ?_
        cases b with
        | true => exact hrc w0 nt y a H x a₁ H₁ h hb φ act w ht hs hn hd
        | false => exact hrc w0 nt z a H x a₁ H₁ h hb φ act w ht hs hn hd
      | _ => rw [hc] at h; cases h
  | block id c =>
    simp only [stepP] at h
    refine wpIn_block ?_
    cases hy : rc nt c a H with
    | none => rw [hy] at h; cases h
    | some t =>
      obtain ⟨e, a', H'⟩ := t
      rw [hy] at h
      have k := hrc w0 nt c a H e a' H' hy hb φ act w ht hs hn hd
      refine wpIn_mono k ?_
      intro e' act' w' hp
      have stop : some (e, a', H') = some (x, a₁, H₁) → PostD w0 φ w act.tmps.size H act.defers x a₁ H₁ e' act' w' := by
        intro he
        simp only [Option.some.injEq, Prod.mk.injEq] at he
        obtain ⟨rfl, rfl, rfl⟩ := he
        exact hp
      cases e with
      | pan v =>
        have := stop h
        obtain ⟨φ', ⟨v', rfl, _⟩, _⟩ := hp
        exact this
      | x y =>
        cases y with
        | normal =>
          have := stop h
          obtain ⟨φ', rfl, _⟩ := hp
          exact this
        | ret =>
          have := stop h
          obtain ⟨φ', rfl, _⟩ := hp
          exact this
        | exit j =>
          obtain ⟨φ', rfl, k2⟩ := hp
          simp only at h
          simp only [VX.real, Exit.inBlock]
          cases hj : Nat.beq j id with
          | true =>
            rw [hj] at h
            simp only [Option.some.injEq, Prod.mk.injEq] at h
            obtain ⟨rfl, rfl, rfl⟩ := h
            rw [if_pos (Nat.eq_of_beq_eq_true hj)]
            exact ⟨φ', rfl, k2⟩
          | false =>
            rw [hj] at h
            simp only [Option.some.injEq, Prod.mk.injEq] at h
            obtain ⟨rfl, rfl, rfl⟩ := h
            rw [if_neg (by intro e; rw [e] at hj; simp at hj)]
            exact ⟨φ', rfl, k2⟩
  | exit id =>
    simp only [stepP, Option.some.injEq, Prod.mk.injEq] at h
    obtain ⟨rfl, rfl, rfl⟩ := h
    exact wpIn_exit (self (.exit id))
  | ret =>
    simp only [stepP, Option.some.injEq, Prod.mk.injEq] at h
    obtain ⟨rfl, rfl, rfl⟩ := h
    exact wpIn_ret (self .ret)
  | label l =>
    simp only [stepP, Option.some.injEq, Prod.mk.injEq] at h
    obtain ⟨rfl, rfl, rfl⟩ := h
    exact wpIn_label (self .normal)
  | scope c =>
    simp only [stepP] at h
    refine wpIn_scope (wpIn_mono (hrc w0 nt c a H x a₁ H₁ h hb φ act w ht hs hn hd) ?_)
    intro e act' w' hp
    cases e with
    | goto l =>
      obtain ⟨φ', hx, _⟩ := hp
      cases x with
      | x y => cases y <;> cases hx
      | pan v => obtain ⟨v', hx, _⟩ := hx; cases hx
    | _ => exact hp
  | _ => simp [stepP] at h
/-- The temporaries of a call. -/
theorem args_TR {φ : Phi} {args : List VV} {args' : List Value} (ha : VRs φ args args') {nt : Nat} (h1 : args.length ≤ nt) (h2 : nt ≤ top) : TR φ (listT args 0 .lf) ((⟨args'⟩ : Array Value) ++ Array.replicate (nt - (⟨args'⟩ : Array Value).size) undef) := by
  have hl := VRs_length _ _ ha
  intro t
  rw [listT_get args 0 .lf t (by omega)]
  simp only [Array.getD_eq_getD_getElem?, Array.getElem?_append, List.size_toArray]
  by_cases hk : 0 ≤ t ∧ t < 0 + args.length
  · rw [if_pos hk, if_pos (by omega)]
    obtain ⟨x, hx⟩ : ∃ x, args[t - 0]? = some x := ⟨args[t]'(by omega), by simp [show t < args.length by omega]⟩
    obtain ⟨y, hy1, hy2⟩ := VRs_get _ _ ha _ x hx
    rw [hx]
    simp only [Option.getD_some]
    rw [show ((⟨args'⟩ : Array Value)[t]?) = some y by simpa using hy1]
    exact hy2
  · rw [if_neg hk, if_neg (by omega)]
    have : (Array.replicate (nt - args'.length) undef)[t - args'.length]?.getD undef = undef := by
      rw [Array.getElem?_replicate]
      split <;> rfl
    rw [this]
    exact VR_undef φ
theorem stepPF_sound [Ext] {mp : List FuncId} (hrc : PCok P (· = []) rc) : PFok P (stepPF mp P rc) := by
  intro w0 f args H t v H' h φ w args' ha hs
  unfold stepPF at h
  cases hm : memN f mp with
  | false => rw [hm] at h; cases h
  | true =>
  rw [hm] at h
  simp only at h
  cases hf : P.funcs[f]? with
  | none => rw [hf] at h; cases h
  | some fn =>
    rw [hf] at h
    simp only at h
    cases hb : fn.body with
    | none => rw [hb] at h; cases h
    | some c =>
      rw [hb] at h
      simp only at h
      cases h1 : Nat.ble args.length fn.ntmps with
      | false => rw [h1] at h; cases h
      | true => cases h2 : Nat.ble fn.ntmps top with
        | false => rw [h1, h2] at h; cases h
        | true =>
          rw [h1, h2] at h
          simp only at h
          have h1' : args.length ≤ fn.ntmps := Nat.le_of_ble_eq_true h1
          have h2' : fn.ntmps ≤ top := Nat.le_of_ble_eq_true h2
          have hl := VRs_length _ _ ha
          cases hr : rc fn.ntmps c (listT args 0 .lf) H with
          | none => rw [hr] at h; cases h
          | some q =>
            obtain ⟨x, a₁, H₁⟩ := q
            rw [hr] at h
            have hsz : fn.ntmps ≤ ((⟨args'⟩ : Array Value) ++ Array.replicate (fn.ntmps - (⟨args'⟩ : Array Value).size) undef).size := by simp; omega
            have k := hrc w0 fn.ntmps c _ H x a₁ H₁ hr h2' φ { tmps := (⟨args'⟩ : Array Value) ++ Array.replicate (fn.ntmps - (⟨args'⟩ : Array Value).size) undef, defers := [] } w (args_TR ha h1' h2') hs hsz rfl
            refine calls_of_wp hf hb (wpIn_wide.1 (wpIn_mono k ?_))
            intro e act' w' hp
            obtain ⟨φ', hx, k2, k3, k4, k5, k6, k7⟩ := hp
            have fin : ∀ (_ : (match resL P a₁ H₁ fn.results.toList with | some l => some (true, oneV l, H₁) | none => none) = some (t, v, H')), act'.defers = [] ∧ ∃ u, (results fn act'.tmps).run P w' = .ok u w' ∧ ∃ v' φ', Ending.returned u = endR t v' ∧ St φ w φ' w' ∧ VR φ' v v' ∧ HSim w0 φ' H' w' ∧ H'.base = H.base := by
              intro hx
              cases hq : resL P a₁ H₁ fn.results.toList with
              | none => rw [hq] at hx; cases hx
              | some l =>
                rw [hq] at hx
                simp only [Option.some.injEq, Prod.mk.injEq] at hx
                obtain ⟨rfl, rfl, rfl⟩ := hx
                obtain ⟨v', r1, r2⟩ := results_sound (P := P) k3 k4 hq
                exact ⟨k7, v', r1, v', φ', rfl, k2, r2, k4, k5⟩
            cases x with
            | pan u =>
              simp only [Option.some.injEq, Prod.mk.injEq] at h
              obtain ⟨rfl, rfl, rfl⟩ := h
              obtain ⟨v', rfl, hv⟩ := hx
              exact ⟨k7, v', φ', rfl, k2, hv, k4, k5⟩
            | x y =>
              cases y with
              | normal => cases hx; exact fin h
              | ret => cases hx; exact fin h
              | exit id => cases h
end
theorem pN_sound [Ext] {P : Program} (hng : NoNG P) {de : DE} (hde : DEok P de) {fe : FE} (hfe : FEok P fe) {mp : List FuncId} : ∀ n,
    ((∀ w0 nt c a H x a₁ H₁, (pN P de fe mp n).1 nt (.loop c) a H = some (x, a₁, H₁) → nt ≤ top → PLoopOK P (· = []) w0 nt c a H x a₁ H₁) ∧ PCok P (· = []) (pN P de fe mp n).1) ∧ PFok P (pN P de fe mp n).2 := by
  intro n
  induction n with
  | zero =>
    refine ⟨⟨?_, ?_⟩, ?_⟩
    · intro w0 nt c a H x a₁ H₁ h; cases h
    · intro w0 nt c a H x a₁ H₁ h; cases h
    · intro w0 f args H t v H' h; cases h
  | succ n ih =>
    obtain ⟨⟨i1, i2⟩, i3⟩ := ih
    exact ⟨⟨stepP_loop (de := de) (fe := fe) (pf := (pN P de fe mp n).2) i1 i2, stepP_sound hng i2 hfe (PDok_nil hde) i3 i1⟩, stepPF_sound i2⟩
/-- Code of a function that has deferred a call: nothing is drawn there. -/
def pcN (P : Program) (fe : FE) (pf : PFE) (n : Nat) : PCE := Nat.rec (fun _ _ _ _ => none) (fun _ ih => stepP P (fun _ _ _ _ => none) fe ih pf) n
theorem pcN_sound [Ext] {P : Program} (hng : NoNG P) {fe : FE} (hfe : FEok P fe) {pf : PFE} (hpf : PFok P pf) : ∀ n,
    (∀ w0 nt c a H x a₁ H₁, pcN P fe pf n nt (.loop c) a H = some (x, a₁, H₁) → nt ≤ top → PLoopOK P (fun _ => True) w0 nt c a H x a₁ H₁) ∧ PCok P (fun _ => True) (pcN P fe pf n) := by
  intro n
  induction n with
  | zero =>
    refine ⟨?_, ?_⟩
    · intro w0 nt c a H x a₁ H₁ h; cases h
    · intro w0 nt c a H x a₁ H₁ h; cases h
  | succ n ih => exact ⟨stepP_loop (de := fun _ _ _ _ => none) (fe := fe) (pf := pf) ih.1 ih.2, stepP_sound hng ih.2 hfe PDok_none hpf ih.1⟩
end
end Go.Ev
