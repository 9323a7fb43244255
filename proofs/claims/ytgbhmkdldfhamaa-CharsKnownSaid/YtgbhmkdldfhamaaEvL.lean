/- Engine, part L: code and calls are sound. -/
import Derived.Test.YtgbhmkdldfhamaaEvK
namespace Go.Ev
noncomputable section
abbrev DE := Nat → List Oper → VT → VH → Option (VT × VH)
def CEok (P : Program) (ce : CE) : Prop := ∀ w0 nt c a H x a₁ H₁, ce nt c a H = some (x, a₁, H₁) → nt ≤ top → ∀ (r : Option Nat) (φ : Phi) (act : Act) (w : World), TR φ a act.tmps → HSim w0 φ H w → nt ≤ act.tmps.size → act.defers = [] →
  c.wpIn (Fr r) 0 P (PostC w0 φ w act.tmps.size H x a₁ H₁) act w
def DEok (P : Program) (de : DE) : Prop := ∀ w0 nt id ops a H a₁ H₁, de nt ops a H = some (a₁, H₁) → nt ≤ top → ∀ (r : Option Nat) (φ : Phi) (act : Act) (w : World), TR φ a act.tmps → HSim w0 φ H w → nt ≤ act.tmps.size → act.defers = [] →
  (Code.region id ⟨ops⟩ true).wpIn (Fr r) 0 P (PostC w0 φ w act.tmps.size H .normal a₁ H₁) act w
/-- A loop, so many rounds. -/
def LoopOK (P : Program) (w0 : World) (nt : Nat) (c : Code) (a : VT) (H : VH) (x : VX) (a₁ : VT) (H₁ : VH) : Prop :=
  ∃ m, ∀ (r : Option Nat) (φ : Phi) (act : Act) (w : World), TR φ a act.tmps → HSim w0 φ H w → nt ≤ act.tmps.size → act.defers = [] → ∀ Q : Exit → Act → World → Prop, (∀ e act' w', PostC w0 φ w act.tmps.size H x a₁ H₁ e act' w' → Q e act' w') →
    Code.roundsIn (Fr r) 0 P c Q m act w
theorem VX_real_normal {x : VX} : x.real = .normal ↔ x = .normal := by cases x <;> simp [VX.real]
section
variable {P : Program} {rc : CE} {fe : FE} {de : DE}
/-- The clauses of code but for the loop. -/
theorem stepC_sound (hng : NoNG P) (hrc : CEok P rc) (hfe : FEok P fe) (hde : DEok P de) {w0 : World} {nt : Nat} {c : Code} {a : VT} {H : VH} {x : VX} {a₁ : VT} {H₁ : VH} (h : stepC P de rc fe nt c a H = some (x, a₁, H₁)) (hnl : ∀ b, c ≠ .loop b) (hb : nt ≤ top)
    (r : Option Nat) (φ : Phi) (act : Act) (w : World) (ht : TR φ a act.tmps) (hs : HSim w0 φ H w) (hn : nt ≤ act.tmps.size) (hd : act.defers = []) : c.wpIn (Fr r) 0 P (PostC w0 φ w act.tmps.size H x a₁ H₁) act w := by
  have self : ∀ y, PostC w0 φ w act.tmps.size H y a H (VX.real y) act w := fun y => ⟨φ, rfl, .refl φ w, ht, hs, rfl, rfl, hd⟩
  cases c with
  | skip =>
    simp only [stepC, Option.some.injEq, Prod.mk.injEq] at h
    obtain ⟨rfl, rfl, rfl⟩ := h
    exact wpIn_skip (self .normal)
  | region id ops draw =>
    obtain ⟨ops⟩ := ops
    cases draw with
    | false =>
      simp only [stepC] at h
      cases hr : runOps P fe nt ops ops a H with
      | none => rw [hr] at h; cases h
      | some ah =>
        obtain ⟨a', H'⟩ := ah
        rw [hr] at h
        simp only [Option.some.injEq, Prod.mk.injEq] at h
        obtain ⟨rfl, rfl, rfl⟩ := h
        have := runOps_sound hng hfe (w0 := w0) hb r ops [] a H a' H' rfl hr φ act w ht hs hn hd (PostC w0 φ w act.tmps.size H .normal a' H') (fun _ _ k => k)
        refine wpIn_region ?_
        have e : List.range (⟨ops⟩ : Array Oper).size = List.range' ([] : List Oper).length ops.length := by simp [List.range_eq_range']
        rw [e]
        exact this
    | true =>
      simp only [stepC] at h
      cases hr : de nt ops a H with
      | none => rw [hr] at h; cases h
      | some ah =>
        obtain ⟨a', H'⟩ := ah
        rw [hr] at h
        simp only [Option.some.injEq, Prod.mk.injEq] at h
        obtain ⟨rfl, rfl, rfl⟩ := h
        exact hde w0 nt id ops a H a' H' hr hb r φ act w ht hs hn hd
  | seq y z =>
    simp only [stepC] at h
    refine wpIn_seq ?_
    cases hy : rc nt y a H with
    | none => rw [hy] at h; cases h
    | some t =>
      obtain ⟨e, a', H'⟩ := t
      rw [hy] at h
      have k := hrc w0 nt y a H e a' H' hy hb r φ act w ht hs hn hd
      refine wpIn_mono k ?_
      intro e' act' w' hp
      cases e with
      | normal =>
        simp only at h
        obtain ⟨φ', rfl, k2, k3, k4, k5, k6, k7⟩ := hp
        have k' := hrc w0 nt z a' H' x a₁ H₁ h hb r φ' act' w' k3 k4 (by omega) k7
        refine wpIn_mono k' ?_
        intro e'' act'' w'' hp'
        rw [k6] at hp'
        exact PostC.trans k2 k5 hp'
      | ret =>
        simp only [Option.some.injEq, Prod.mk.injEq] at h
        obtain ⟨rfl, rfl, rfl⟩ := h
        obtain ⟨φ', rfl, k2⟩ := hp
        exact ⟨φ', rfl, k2⟩
      | exit id =>
        simp only [Option.some.injEq, Prod.mk.injEq] at h
        obtain ⟨rfl, rfl, rfl⟩ := h
        obtain ⟨φ', rfl, k2⟩ := hp
        exact ⟨φ', rfl, k2⟩
  | cond c y z =>
    simp only [stepC] at h
    cases hc : evOperand a c with
    | none => rw [hc] at h; cases h
    | some v => cases v with
      | bool b =>
        rw [hc] at h
        have hv := evOperand_sound ht hc
        simp only [VR] at hv
        refine wpIn_cond hv ?_
        cases b with
        | true => exact hrc w0 nt y a H x a₁ H₁ h hb r φ act w ht hs hn hd
        | false => exact hrc w0 nt z a H x a₁ H₁ h hb r φ act w ht hs hn hd
      | _ => rw [hc] at h; cases h
  | block id c =>
    simp only [stepC] at h
    refine wpIn_block ?_
    cases hy : rc nt c a H with
    | none => rw [hy] at h; cases h
    | some t =>
      obtain ⟨e, a', H'⟩ := t
      rw [hy] at h
      have k := hrc w0 nt c a H e a' H' hy hb r φ act w ht hs hn hd
      refine wpIn_mono k ?_
      intro e' act' w' hp
      cases e with
      | normal =>
        simp only [Option.some.injEq, Prod.mk.injEq] at h
        obtain ⟨rfl, rfl, rfl⟩ := h
        obtain ⟨φ', rfl, k2⟩ := hp
        exact ⟨φ', rfl, k2⟩
      | ret =>
        simp only [Option.some.injEq, Prod.mk.injEq] at h
        obtain ⟨rfl, rfl, rfl⟩ := h
        obtain ⟨φ', rfl, k2⟩ := hp
        exact ⟨φ', rfl, k2⟩
      | exit j =>
        obtain ⟨φ', rfl, k2⟩ := hp
        simp only at h
        simp only [VX.real, Exit.inBlock]
        cases hj : Nat.beq j id with
        | true =>
          rw [hj] at h
          simp only [Option.some.injEq, Prod.mk.injEq] at h
          obtain ⟨rfl, rfl, rfl⟩ := h
          rw [if_pos (Nat.eq_of_beq_eq_true hj)]
          exact ⟨φ', rfl, k2⟩
        | false =>
          rw [hj] at h
          simp only [Option.some.injEq, Prod.mk.injEq] at h
          obtain ⟨rfl, rfl, rfl⟩ := h
          rw [if_neg (by intro e; rw [e] at hj; simp at hj)]
          exact ⟨φ', rfl, k2⟩
  | loop c => exact absurd rfl (hnl c)
  | exit id =>
    simp only [stepC, Option.some.injEq, Prod.mk.injEq] at h
    obtain ⟨rfl, rfl, rfl⟩ := h
    exact wpIn_exit (self (.exit id))
  | ret =>
    simp only [stepC, Option.some.injEq, Prod.mk.injEq] at h
    obtain ⟨rfl, rfl, rfl⟩ := h
    exact wpIn_ret (self .ret)
  | _ => simp [stepC] at h
end
/-! ### the results of a call -/
def resSem (tmps : Array Value) : ResultVar → Sem Value
  | .tmp t => pure (tmps.getD t undef)
  | .cell a t => do loadVar t (← asAddr (tmps.getD a undef))
theorem results_eq (fn : Func) (tmps : Array Value) : results fn tmps = (do
    let vs ← fn.results.mapM (resSem tmps)
    pure (if h : vs.size = 1 then vs[0] else .tuple vs)) := by
  unfold results
  congr 1
theorem resL_sound {P : Program} {w0 : World} {φ : Phi} {H : VH} {w : World} {a : VT} {tmps : Array Value} (ht : TR φ a tmps) (hs : HSim w0 φ H w) : ∀ (l : List ResultVar) (vs : List VV), resL P a H l = some vs →
    ∃ vs', (l.mapM (resSem tmps)).run P w = .ok vs' w ∧ VRs φ vs vs'
  | [], vs, h => by simp only [resL, Option.some.injEq] at h; subst h; exact ⟨[], rfl, by simp [VRs]⟩
  | .tmp t :: l, vs, h => by
    simp only [resL] at h
    cases hr : resL P a H l with
    | none => rw [hr] at h; cases h
    | some us =>
      rw [hr] at h
      simp only [Option.some.injEq] at h
      subst h
      obtain ⟨us', h1, h2⟩ := resL_sound ht hs l us hr
      refine ⟨tmps.getD t undef :: us', ?_, by simp only [VRs]; exact ⟨_, _, rfl, ht t, h2⟩⟩
      simp only [List.mapM_cons, Sem.run_bind, resSem, Sem.run_pure, Result.andThen_ok, h1]
  | .cell x t :: l, vs, h => by
    simp only [resL] at h
    have hx := ht x
    cases hv : tget a x with
    | ptr p => cases p with
      | none => rw [hv] at h; cases h
      | some ad =>
        rw [hv] at h hx
        simp only at h
        cases hl : loadT P H t ad with
        | none => rw [hl] at h; cases h
        | some v => cases hr : resL P a H l with
          | none => rw [hl, hr] at h; cases h
          | some us =>
            rw [hl, hr] at h
            simp only [Option.some.injEq] at h
            subst h
            simp only [VR] at hx
            obtain ⟨a', s, ha, he⟩ := hx
            obtain ⟨v', l1, l2⟩ := loadT_sound (P := P) hs ha hl
            obtain ⟨us', h1, h2⟩ := resL_sound ht hs l us hr
            refine ⟨v' :: us', ?_, by simp only [VRs]; exact ⟨_, _, rfl, l2, h2⟩⟩
            simp only [List.mapM_cons, Sem.run_bind, resSem, he, asAddr, Sem.run_pure, Result.andThen_ok, l1, h1]
    | _ => rw [hv] at h; cases h
theorem results_sound {P : Program} {w0 : World} {φ : Phi} {H : VH} {w : World} {a : VT} {tmps : Array Value} (ht : TR φ a tmps) (hs : HSim w0 φ H w) {fn : Func} {vs : List VV} (h : resL P a H fn.results.toList = some vs) :
    ∃ v', (results fn tmps).run P w = .ok v' w ∧ VR φ (oneV vs) v' := by
  obtain ⟨vs', h1, h2⟩ := resL_sound (P := P) ht hs fn.results.toList vs h
  have hl := VRs_length _ _ h2
  refine ⟨if h : vs'.toArray.size = 1 then vs'.toArray[0] else .tuple vs'.toArray, ?_, ?_⟩
  · rw [results_eq]
    simp only [Array.mapM_eq_mapM_toList, Sem.run_bind, Sem.run_map, h1, Result.andThen_ok, Sem.run_pure]
  · unfold oneV
    cases vs with
    | nil =>
      simp only [VRs] at h2
      subst h2
      exact VR_unit φ
    | cons v vs => cases vs with
      | nil =>
        simp only [VRs] at h2
        obtain ⟨y, ys, rfl, h3, rfl⟩ := h2
        simpa using h3
      | cons u vs =>
        rw [dif_neg (by simp only [List.size_toArray, ← hl, List.length_cons]; omega)]
        simp only [VR]
        exact ⟨vs', h2, rfl⟩
theorem listT_get : ∀ (l : List VV) (i : Nat) (t : VT) (k : Nat), i + l.length ≤ top → tget (listT l i t) k = if i ≤ k ∧ k < i + l.length then (l[k - i]?).getD vundef else tget t k
  | [], i, t, k, _ => by rw [if_neg (by simp)]; rfl
  | x :: l, i, t, k, h => by
    simp only [List.length_cons] at h
    simp only [listT]
    rw [listT_get l (i + 1) _ k (by omega)]
    by_cases hk : i + 1 ≤ k ∧ k < i + 1 + l.length
    · rw [if_pos hk, if_pos ⟨by omega, by simp only [List.length_cons]; omega⟩]
      rw [show k - i = (k - (i + 1)) + 1 by omega]
      simp
    · rw [if_neg hk]
      by_cases he : k = i
      · subst he
        rw [if_pos ⟨by omega, by simp only [List.length_cons]; omega⟩]
        simp [tget, TT.get_put_same t k x (by omega)]
      · rw [if_neg (by simp only [List.length_cons]; omega)]
        simp [tget, TT.get_put_other t i k x he]
theorem stepF_sound {P : Program} {rc : CE} (hrc : CEok P rc) : FEok P (stepF P rc) := by
  intro w0 f args H v H' h φ w args' ha hs
  unfold stepF at h
  cases hf : P.funcs[f]? with
  | none => rw [hf] at h; cases h
  | some fn =>
    rw [hf] at h
    simp only at h
    cases hb : fn.body with
    | none => rw [hb] at h; cases h
    | some c =>
      rw [hb] at h
      simp only at h
      cases h1 : Nat.ble args.length fn.ntmps with
      | false => rw [h1] at h; cases h
      | true => cases h2 : Nat.ble fn.ntmps top with
        | false => rw [h1, h2] at h; cases h
        | true =>
          rw [h1, h2] at h
          simp only at h
          have h1' : args.length ≤ fn.ntmps := Nat.le_of_ble_eq_true h1
          have h2' : fn.ntmps ≤ top := Nat.le_of_ble_eq_true h2
          have hl := VRs_length _ _ ha
          have ht : TR φ (listT args 0 .lf) ((⟨args'⟩ : Array Value) ++ Array.replicate (fn.ntmps - (⟨args'⟩ : Array Value).size) undef) := by
            intro t
            rw [listT_get args 0 .lf t (by omega)]
            simp only [Array.getD_eq_getD_getElem?, Array.getElem?_append, List.size_toArray]
            by_cases hk : 0 ≤ t ∧ t < 0 + args.length
            · rw [if_pos hk, if_pos (by omega)]
              obtain ⟨x, hx⟩ : ∃ x, args[t - 0]? = some x := ⟨args[t]'(by omega), by simp [show t < args.length by omega]⟩
              obtain ⟨y, hy1, hy2⟩ := VRs_get _ _ ha _ x hx
              rw [hx]
              simp only [Option.getD_some]
              rw [show ((⟨args'⟩ : Array Value)[t]?) = some y by simpa using hy1]
              exact hy2
            · rw [if_neg hk, if_neg (by omega)]
              have : (Array.replicate (fn.ntmps - args'.length) undef)[t - args'.length]?.getD undef = undef := by
                rw [Array.getElem?_replicate]
                split <;> rfl
              rw [this]
              exact VR_undef φ
          cases hr : rc fn.ntmps c (listT args 0 .lf) H with
          | none => rw [hr] at h; cases h
          | some t =>
            obtain ⟨x, a₁, H₁⟩ := t
            rw [hr] at h
            have hsz : fn.ntmps ≤ ((⟨args'⟩ : Array Value) ++ Array.replicate (fn.ntmps - (⟨args'⟩ : Array Value).size) undef).size := by simp; omega
            have k := hrc w0 fn.ntmps c _ H x a₁ H₁ hr h2' none φ { tmps := (⟨args'⟩ : Array Value) ++ Array.replicate (fn.ntmps - (⟨args'⟩ : Array Value).size) undef, defers := [] } w ht hs hsz rfl
            refine (callsIn_wide (n := 0)).1 (callsIn_of_wp hf hb trivial (wpIn_mono k ?_))
            intro e act' w' hp
            obtain ⟨φ', rfl, k2, k3, k4, k5, k6, k7⟩ := hp
            have fin : ∀ (hx : (match resL P a₁ H₁ fn.results.toList with | some l => some (oneV l, H₁) | none => none) = some (v, H')), act'.defers = [] ∧ ∃ v', (results fn act'.tmps).run P w' = .ok v' w' ∧ ∃ u u' φ'' H'', Ending.returned v' = Ending.returned u' ∧ St φ w φ'' w' ∧ VR φ'' u u' ∧ HSim w0 φ'' H'' w' ∧ H''.base = H.base ∧ (u = v ∧ H'' = H') := by
              intro hx
              cases hq : resL P a₁ H₁ fn.results.toList with
              | none => rw [hq] at hx; cases hx
              | some l =>
                rw [hq] at hx
                simp only [Option.some.injEq, Prod.mk.injEq] at hx
                obtain ⟨rfl, rfl⟩ := hx
                obtain ⟨v', r1, r2⟩ := results_sound k3 k4 hq
                exact ⟨k7, v', r1, oneV l, v', φ', H₁, rfl, k2, r2, k4, k5, rfl, rfl⟩
            cases x with
            | normal => exact fin h
            | ret => exact fin h
            | exit id => cases h
end
end Go.Ev
