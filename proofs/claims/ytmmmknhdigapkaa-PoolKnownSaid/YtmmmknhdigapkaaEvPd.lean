/- Engine, part Pd: calls of functions that defer a closure that recovers, as known calls; closed runs with them. -/
import Derived.Test.YtmmmknhdigapkaaEvPc
namespace Go.Ev
noncomputable section
open Go.RowKit
/-- A deferred call: a function, what it is called with, what it has captured. -/
abbrev VD := FuncId × List VV × List VV
def dOf (op : Op) (a : VT) : Option VD := match op with
  | .defer ⟨.value f, xs, _⟩ => match evOperand a f, evOperands a xs.toList with
    | some (.func (.func g) first cap), some vs => some (g, first ++ vs, cap)
    | _, _ => none
  | _ => none
/-- Operations in the order of the text, one of which defers. -/
def qOps (P : Program) (nt : Nat) : List Oper → VT → VH → Option VD → Option (VT × VH × Option VD)
  | [], a, H, D => some (a, H, D)
  | o :: l, a, H, D => match isNo o.guard with
    | false => none
    | true => match dOf o.op a with
      | some d => match D with
        | none => match putD nt a o.dst vundef with
          | some a₁ => qOps P nt l a₁ H (some d)
          | none => none
        | some _ => none
      | none => match opRun P noFE o.op a H with
        | some (v, H₁) => match putD nt a o.dst v with
          | some a₁ => qOps P nt l a₁ H₁ D
          | none => none
        | none => none
def isDef : Op → Bool | .defer _ => true | _ => false
def hasDef : List Oper → Bool
  | [] => false
  | o :: l => match isDef o.op with | true => true | false => hasDef l
def qC (P : Program) (rc : PCE) (n : Nat) : Nat → Code → VT → VH → Option VD → Option (PX × VT × VH × Option VD) :=
  Nat.rec (fun _ _ _ _ _ => none) (fun _ ih => fun nt c a H D => match c with
    | .seq x y => match ih nt x a H D with
      | some (.x .normal, a, H, D) => ih nt y a H D
      | r => r
    | .region id ⟨ops⟩ false => match hasDef ops with
      | true => match qOps P nt ops a H D with
        | some (a, H, D) => some (.x .normal, a, H, D)
        | none => none
      | false => match rc nt (.region id ⟨ops⟩ false) a H with
        | some (x, a, H) => some (x, a, H, D)
        | none => none
    | c => match rc nt c a H with
      | some (x, a, H) => some (x, a, H, D)
      | none => none) n
/-- How the frame leaves. -/
def modeX : PX → Option RM
  | .x .normal | .x .ret => some .none
  | .x (.exit _) => none
  | .pan v => some (.live v)
def notLive : RM → Bool | .live _ => false | _ => true
def catchF (P : Program) (n : Nat) (rc : CE) (pc : PCE) : KN := fun f args H => match P.funcs[f]? with
  | some fn => match fn.body with
    | some c => match Nat.ble args.length fn.ntmps, Nat.ble fn.ntmps top with
      | true, true => match qC P pc n fn.ntmps c (listT args 0 .lf) H none with
        | some (x, a, H₁, some (g, xs, cap)) => match modeX x, P.funcs[g]? with
          | some M, some gn => match gn.body with
            | some _ => match rF P rc n g (xs ++ cap) H₁ M with
              | some (H₂, M₂) => match notLive M₂ with
                | true => match resL P a H₂ fn.results.toList with
                  | some l => some (oneV l, H₂)
                  | none => none
                | false => none
              | none => none
            | none => none
          | _, _ => none
        | _ => none
      | _, _ => none
    | none => none
  | none => none
def catchK (P : Program) (n : Nat) (cat : List FuncId) (rc : CE) (pc : PCE) : KN := fun f args H => match memN f cat with
  | true => catchF P n rc pc f args H
  | false => none
/-- Known calls: those of functions that recover, so deep. -/
def knC (P : Program) (n : Nat) (cat mp : List FuncId) (k : Nat) : KN :=
  Nat.rec (fun _ _ _ => none) (fun _ ih => catchK P n cat (evN P (drawRun P) ih n).1.2 (pcN P (evN P (drawRun P) ih n).2 (pN P (drawRun P (evN P (drawRun P) ih n).2) (evN P (drawRun P) ih n).2 mp n).2 n)) k

/-! ### soundness -/
def DR (φ : Phi) : Option VD → List Deferred → Prop
  | none, ds => ds = []
  | some (g, xs, cap), ds => ∃ xs' cap', ds = [{ target := .fn (.func g) ⟨cap'⟩, args := ⟨xs'⟩ }] ∧ VRs φ xs xs' ∧ VRs φ cap cap'
theorem DR.mono {φ φ' : Phi} (h : φ.le φ') : ∀ {D : Option VD} {ds : List Deferred}, DR φ D ds → DR φ' D ds
  | none, _, k => k
  | some (_, _, _), _, ⟨xs', cap', k1, k2, k3⟩ => ⟨xs', cap', k1, k2.mono h, k3.mono h⟩
def PostQ [Ext] (w0 : World) (φ : Phi) (w : World) (sz : Nat) (H : VH) (x : PX) (a₁ : VT) (H₁ : VH) (D₁ : Option VD) (e : Exit) (act' : Act) (w' : World) : Prop :=
  ∃ φ', XR φ' x e ∧ St φ w φ' w' ∧ TR φ' a₁ act'.tmps ∧ HSim w0 φ' H₁ w' ∧ H₁.base = H.base ∧ act'.tmps.size = sz ∧ DR φ' D₁ act'.defers
theorem PostQ.trans [Ext] {w0 : World} {φ φ' : Phi} {w w' : World} {sz : Nat} {H H₁ H₂ : VH} {x : PX} {a₂ : VT} {D₂ : Option VD} {e : Exit} {act' : Act} {w'' : World} (hs : St φ w φ' w') (hb : H₁.base = H.base) (h : PostQ w0 φ' w' sz H₁ x a₂ H₂ D₂ e act' w'') : PostQ w0 φ w sz H x a₂ H₂ D₂ e act' w'' := by
  obtain ⟨ψ, h1, h2, h3, h4, h5, h6, h7⟩ := h
  exact ⟨ψ, h1, hs.trans h2, h3, h4, h5.trans hb, h6, h7⟩
section
variable {P : Program}
theorem run_deferOp {a : VT} {φ : Phi} {act : Act} (ht : TR φ a act.tmps) {o : Oper} {g : FuncId} {xs cap : List VV} (h : dOf o.op a = some (g, xs, cap)) (w : World) :
    ∃ xs' cap', (execOp act.eval o).run P w = .ok (.defer { target := .fn (.func g) ⟨cap'⟩, args := ⟨xs'⟩ }) w ∧ VRs φ xs xs' ∧ VRs φ cap cap' := by
  obtain ⟨dst, op, type, pos, after, guard⟩ := o
  unfold dOf at h
  simp only at h
  split at h
  · rename_i f ys ts
    split at h
    · rename_i g' first cap0 vs hf hv
      simp only [Option.some.injEq, Prod.mk.injEq] at h
      obtain ⟨rfl, rfl, rfl⟩ := h
      have h1 := evOperand_sound ht hf
      simp only [VR] at h1
      obtain ⟨first', cap', _, k1, k2, k3⟩ := h1
      have h2 := evOperands_sound ht _ _ hv
      refine ⟨first' ++ ys.toList.map act.eval, cap', ?_, ?_, k2⟩
      · simp only [execOp, resolve, k3, Deferred.ofValue, Sem.run_bind, Sem.run_pure, Result.andThen_ok]
        congr 3
        apply Array.ext'
        simp
      · exact VRs_append k1 h2
    · cases h
  · cases h
theorem qOps_sound [Ext] (hng : NoNG P) {w0 : World} {nt : Nat} (hb : nt ≤ top) {all : List Oper} : ∀ (l pre : List Oper) (a : VT) (H : VH) (D : Option VD) (a₁ : VT) (H₁ : VH) (D₁ : Option VD), all = pre ++ l → qOps P nt l a H D = some (a₁, H₁, D₁) →
    ∀ (φ : Phi) (act : Act) (w : World), TR φ a act.tmps → HSim w0 φ H w → nt ≤ act.tmps.size → DR φ D act.defers → ∀ (Q : Exit → Act → World → Prop), (∀ e act' w', PostQ w0 φ w act.tmps.size H (.x .normal) a₁ H₁ D₁ e act' w' → Q e act' w') →
    wpOpsIn (Fr none) 0 P ⟨all⟩ Q (List.range' pre.length l.length) act w := by
  intro l
  induction l with
  | nil =>
    intro pre a H D a₁ H₁ D₁ _ h φ act w ht hs hn hd Q hQ
    simp only [qOps, Option.some.injEq, Prod.mk.injEq] at h
    obtain ⟨rfl, rfl, rfl⟩ := h
    exact hQ _ act w ⟨φ, rfl, .refl φ w, ht, hs, rfl, rfl, hd⟩
  | cons o l ih =>
    intro pre a H D a₁ H₁ D₁ hall h φ act w ht hs hn hd Q hQ
    have hget : (⟨all⟩ : Array Oper)[pre.length]? = some o := by simp [hall]
    simp only [List.length_cons, List.range'_succ, wpOpsIn, hget]
    have hall' : all = (pre ++ [o]) ++ l := by simp [hall]
    have hlen : (pre ++ [o]).length = pre.length + 1 := by simp
    simp only [qOps] at h
    cases hgo : isNo o.guard with
    | false => rw [hgo] at h; cases h
    | true =>
    rw [hgo] at h
    simp only at h
    have hno : o.guard = none := by cases hg : o.guard with
      | none => rfl
      | some x => rw [hg] at hgo; cases hgo
    rw [if_pos (by simp [Region.wanted, hno])]
    cases hdf : dOf o.op a with
    | some d =>
      obtain ⟨g, xs, cap⟩ := d
      rw [hdf] at h
      simp only at h
      cases D with
      | some _ => cases h
      | none =>
        simp only at h
        cases hp : putD nt a o.dst vundef with
        | none => rw [hp] at h; cases h
        | some a' =>
          rw [hp] at h
          simp only at h
          obtain ⟨xs', cap', hrun, k1, k2⟩ := run_deferOp (P := P) ht hdf w
          refine ⟨fun _ _ => trivial, ?_⟩
          rw [show (Fr none).round = none from rfl, Oper.semAt_none, hrun]
          simp only [Oper.uponIn]
          have hd0 : act.defers = [] := hd
          obtain ⟨p1, p2, p3⟩ := putD_sound (act := { act with defers := { target := .fn (.func g) ⟨cap'⟩, args := ⟨xs'⟩ } :: act.defers }) ht hn hb (VR_undef φ) hp
          have := ih (pre ++ [o]) a' H (some (g, xs, cap)) a₁ H₁ D₁ hall' h φ (Act.put { act with defers := { target := .fn (.func g) ⟨cap'⟩, args := ⟨xs'⟩ } :: act.defers } o.dst undef) w p1 hs (by rw [p2]; exact hn) (by rw [p3, hd0]; exact ⟨xs', cap', rfl, k1, k2⟩) Q (fun e act' w' hp' => hQ e act' w' (by rw [p2] at hp'; exact hp'))
          rwa [hlen] at this
    | none =>
      rw [hdf] at h
      simp only at h
      cases hr : opRun P noFE o.op a H with
      | none => rw [hr] at h; cases h
      | some vh =>
        obtain ⟨v, H'⟩ := vh
        rw [hr] at h
        simp only at h
        cases hp : putD nt a o.dst v with
        | none => rw [hp] at h; cases h
        | some a' =>
          rw [hp] at h
          simp only at h
          obtain ⟨v', w₁, φ₁, hrun, k1, k2, k3, k4⟩ := opV_sound hng ht hs hr
          obtain ⟨p1, p2, p3⟩ := putD_sound (ht.mono k1.le) hn hb k2 hp
          have := ih (pre ++ [o]) a' H' D a₁ H₁ D₁ hall' h φ₁ (act.put o.dst v') w₁ p1 k3 (by omega) (by rw [p3]; exact hd.mono k1.le) Q (fun e act' w' hp' => hQ e act' w' (by rw [p2] at hp'; exact PostQ.trans k1 k4 hp'))
          rw [hlen] at this
          refine ⟨fun _ _ => trivial, ?_⟩
          rw [show (Fr none).round = none from rfl, Oper.semAt_none]
          rcases hrun with hrun | ⟨rfl, hrun⟩
          · rw [hrun]; exact this
          · rw [hrun]; exact this
theorem qC_sound [Ext] (hng : NoNG P) {rc : PCE} (hrc : PCok P (fun _ => True) rc) : ∀ n w0 nt c a H D x a₁ H₁ D₁, qC P rc n nt c a H D = some (x, a₁, H₁, D₁) → nt ≤ top → ∀ (φ : Phi) (act : Act) (w : World), TR φ a act.tmps → HSim w0 φ H w → nt ≤ act.tmps.size → DR φ D act.defers →
    c.wpIn (Fr none) 0 P (PostQ w0 φ w act.tmps.size H x a₁ H₁ D₁) act w := by
  intro n
  induction n with
  | zero => intro w0 nt c a H D x a₁ H₁ D₁ h; cases h
  | succ n ih =>
    intro w0 nt c a H D x a₁ H₁ D₁ h hb φ act w ht hs hn hd
    have plain : (match rc nt c a H with | some (x, a, H) => some (x, a, H, D) | none => none) = some (x, a₁, H₁, D₁) → c.wpIn (Fr none) 0 P (PostQ w0 φ w act.tmps.size H x a₁ H₁ D₁) act w := by
      intro h
      cases hy : rc nt c a H with
      | none => rw [hy] at h; cases h
      | some t =>
        obtain ⟨e, a', H'⟩ := t
        rw [hy] at h
        simp only [Option.some.injEq, Prod.mk.injEq] at h
        obtain ⟨rfl, rfl, rfl, rfl⟩ := h
        refine wpIn_mono (hrc w0 nt c a H e a' H' hy hb φ act w ht hs hn trivial) ?_
        rintro e' act' w' ⟨φ', k1, k2, k3, k4, k5, k6, k7⟩
        exact ⟨φ', k1, k2, k3, k4, k5, k6, by rw [k7]; exact hd.mono k2.le⟩
    have h' : (match (generalizing := false) c with
      | .seq x y => match qC P rc n nt x a H D with
        | some (.x .normal, a, H, D) => qC P rc n nt y a H D
        | r => r
      | .region id ⟨ops⟩ false => match hasDef ops with
        | true => match qOps P nt ops a H D with
          | some (a, H, D) => some (.x .normal, a, H, D)
          | none => none
        | false => match rc nt (.region id ⟨ops⟩ false) a H with
          | some (x, a, H) => some (x, a, H, D)
          | none => none
      | c => match rc nt c a H with
        | some (x, a, H) => some (x, a, H, D)
        | none => none) = some (x, a₁, H₁, D₁) := h
    split at h'
    · rename_i y z
      refine wpIn_seq ?_
      cases hy : qC P rc n nt y a H D with
      | none => rw [hy] at h'; cases h'
      | some t =>
        obtain ⟨e, a', H', D'⟩ := t
        rw [hy] at h'
        refine wpIn_mono (ih w0 nt y a H D e a' H' D' hy hb φ act w ht hs hn hd) ?_
        intro e' act' w' hp
        have stop : some (e, a', H', D') = some (x, a₁, H₁, D₁) → PostQ w0 φ w act.tmps.size H x a₁ H₁ D₁ e' act' w' := by
          intro he
          simp only [Option.some.injEq, Prod.mk.injEq] at he
          obtain ⟨rfl, rfl, rfl, rfl⟩ := he
          exact hp
        cases e with
        | pan v =>
          have := stop h'
          obtain ⟨φ', ⟨v', rfl, _⟩, _⟩ := hp
          exact this
        | x y =>
          cases y with
          | normal =>
            simp only at h'
            obtain ⟨φ', rfl, k2, k3, k4, k5, k6, k7⟩ := hp
            refine wpIn_mono (ih w0 nt z a' H' D' x a₁ H₁ D₁ h' hb φ' act' w' k3 k4 (by omega) k7) ?_
            intro e'' act'' w'' hp'
            rw [k6] at hp'
            exact PostQ.trans k2 k5 hp'
          | ret =>
            have := stop h'
            obtain ⟨φ', rfl, _⟩ := hp
            exact this
          | exit id =>
            have := stop h'
            obtain ⟨φ', rfl, _⟩ := hp
            exact this
    · rename_i id ops
      cases hh : hasDef ops with
      | true =>
        rw [hh] at h'
        simp only at h'
        cases hr : qOps P nt ops a H D with
        | none => rw [hr] at h'; cases h'
        | some t =>
          obtain ⟨a', H', D'⟩ := t
          rw [hr] at h'
          simp only [Option.some.injEq, Prod.mk.injEq] at h'
          obtain ⟨rfl, rfl, rfl, rfl⟩ := h'
          refine wpIn_region ?_
          have e : List.range (⟨ops⟩ : Array Oper).size = List.range' ([] : List Oper).length ops.length := by simp [List.range_eq_range']
          rw [e]
          exact qOps_sound hng hb ops [] a H D a' H' D' rfl hr φ act w ht hs hn hd _ (fun _ _ _ k => k)
      | false =>
        rw [hh] at h'
        exact plain h'
    · exact plain h'
theorem catchF_sound [Ext] (hng : NoNG P) {n : Nat} {rc : CE} (hrc : CEokT P False (fun _ => True) rc) {pc : PCE} (hpc : PCok P (fun _ => True) pc) : KnOK P (catchF P n rc pc) := by
  intro w0 f args H v H' h φ w args' ha hs
  unfold catchF at h
  cases hf : P.funcs[f]? with
  | none => rw [hf] at h; cases h
  | some fn =>
    rw [hf] at h
    simp only at h
    cases hb : fn.body with
    | none => rw [hb] at h; cases h
    | some c =>
      rw [hb] at h
      simp only at h
      cases h1 : Nat.ble args.length fn.ntmps with
      | false => rw [h1] at h; cases h
      | true => cases h2 : Nat.ble fn.ntmps top with
        | false => rw [h1, h2] at h; cases h
        | true =>
          rw [h1, h2] at h
          simp only at h
          have h1' : args.length ≤ fn.ntmps := Nat.le_of_ble_eq_true h1
          have h2' : fn.ntmps ≤ top := Nat.le_of_ble_eq_true h2
          have hl := VRs_length _ _ ha
          split at h
          · rename_i x a₁ H₁ g xs cap hr
            split at h
            · rename_i M gn hM hg
              split at h
              · rename_i cg hbg
                split at h
                · rename_i H₂ M₂ hrf
                  split at h
                  · rename_i hnl
                    split at h
                    · rename_i l hq
                      simp only [Option.some.injEq, Prod.mk.injEq] at h
                      obtain ⟨rfl, rfl⟩ := h
                      have hsz : fn.ntmps ≤ ((⟨args'⟩ : Array Value) ++ Array.replicate (fn.ntmps - (⟨args'⟩ : Array Value).size) undef).size := by simp; omega
                      have k := qC_sound hng hpc n w0 fn.ntmps c _ H none x a₁ H₁ _ hr h2' φ { tmps := (⟨args'⟩ : Array Value) ++ Array.replicate (fn.ntmps - (⟨args'⟩ : Array Value).size) undef, defers := [] } w (args_TR ha h1' h2') hs hsz rfl
                      refine calls_of_wp_defers hf hb (wpIn_wide.1 (wpIn_mono k ?_))
                      intro e act' w' hp
                      obtain ⟨φ', hx, k2, k3, k4, k5, k6, ⟨xs', cap', k7, k8, k9⟩⟩ := hp
                      have leave : ∀ u, u ≠ .run → MR φ' M u → Leaves P fn act'.tmps (fun e w' => ∃ u u' φ'' H'', e = Ending.returned u' ∧ St φ w φ'' w' ∧ VR φ'' u u' ∧ HSim w0 φ'' H'' w' ∧ H''.base = H.base ∧ (u = oneV l ∧ H'' = H₂)) act'.defers u w' := by
                        intro u hu hm
                        rw [k7]
                        have hinv : (invoke (.fn (.func g) ⟨cap'⟩) ⟨xs'⟩).run P w' = .ok (.enter g ⟨xs' ++ cap'⟩) w' := by
                          have hn := hng g gn hg
                          simp only [invoke, callFunc, Sem.run_bind, run_program, Result.andThen_ok, hg, hn, hbg]
                          simp
                        refine leaves_cons hu hinv ((rF_sound hng hrc hrf (VRs_append k8 k9) k4 hm).mono ?_)
                        rintro e u' w'' ⟨v', φ'', rfl, j1, j2, j3, j4⟩
                        simp only
                        have hset : settle u' = .returning := by
                          cases M₂ with
                          | none => cases (show u' = .returning from j4); rfl
                          | live v => cases hnl
                          | done => obtain ⟨v', rfl⟩ := j4; rfl
                        rw [hset]
                        obtain ⟨r', r1, r2⟩ := results_sound (P := P) (k3.mono j1.le) j2 hq
                        exact ⟨r', r1, oneV l, r', φ'', H₂, rfl, k2.trans j1, r2, j2, j3.trans k5, rfl, rfl⟩
                      cases x with
                      | pan u =>
                        cases hM
                        obtain ⟨v', rfl, hv⟩ := hx
                        exact leave _ (by simp) ⟨v', rfl, hv⟩
                      | x y =>
                        cases y with
                        | normal => cases hM; cases hx; exact leave _ (by simp) rfl
                        | ret => cases hM; cases hx; exact leave _ (by simp) rfl
                        | exit id => cases hM
                    · cases h
                  · cases h
                · cases h
              · cases h
            · cases h
          · cases h
theorem knC_sound [Ext] (hng : NoNG P) (hm : P.follows .mixedOrders = true) {n : Nat} {cat mp : List FuncId} : ∀ k, KnOK P (knC P n cat mp k) := by
  intro k
  induction k with
  | zero => intro w0 f args H v H' h; cases h
  | succ k ih =>
    intro w0 f args H v H' h
    have h' : catchK P n cat (evN P (drawRun P) (knC P n cat mp k) n).1.2 (pcN P (evN P (drawRun P) (knC P n cat mp k) n).2 (pN P (drawRun P (evN P (drawRun P) (knC P n cat mp k) n).2) (evN P (drawRun P) (knC P n cat mp k) n).2 mp n).2 n) f args H = some (v, H') := h
    unfold catchK at h'
    have hdr := fun fe (hfe : FEok P fe) => drawRun_sound hng hm hfe
    have hev := evN_sound hng hdr ih n
    split at h'
    · exact catchF_sound hng hev.2.1.2 (pcN_sound hng hev.2.2 (pN_sound hng (hdr _ hev.2.2) hev.2.2 n).2 n).2 w0 f args H v H' h'
    · cases h'
end
/-- A closed run: does it tell true? -/
def runC (P : Program) (cat mp : List FuncId) (k n : Nat) (f : FuncId) : Bool := match (evN P (drawRun P) (knC P n cat mp k) n).2.call f [] ⟨Env.none, .lf, 0⟩ with
  | some (.bool b, _) => b
  | _ => false
theorem runC_calls {P : Program} (hng : NoNG P) (hm : P.follows .mixedOrders = true) {cat mp : List FuncId} {k n : Nat} {f : FuncId} (h : runC P cat mp k n f = true) (w : World) :
    Calls P f #[] w fun e w' => e = .returned (.bool true) ∧ Below w.heap.size w w' := by
  unfold runC at h
  cases hr : (evN P (drawRun P) (knC P n cat mp k) n).2.call f [] ⟨Env.none, .lf, 0⟩ with
  | none => rw [hr] at h; cases h
  | some vh =>
    obtain ⟨v, H'⟩ := vh
    rw [hr] at h
    have hc := (evF_ok hng hm (knC_sound hng hm k) n).call w f [] ⟨Env.none, .lf, 0⟩ v H' hr phi0 w [] (by simp [VRs]) (HSim.start w)
    refine hc.mono ?_
    rintro e w' ⟨u, v', φ', H'', rfl, k1, k2, k3, _, rfl, rfl⟩
    cases u with
    | bool b =>
      have hb : b = true := h
      subst hb
      simp only [VR] at k2
      subst k2
      exact ⟨rfl, below_of k1 k3⟩
    | _ => cases h
/-- The same, with functions of which is known that they tell true. -/
def runCK (P : Program) (K : List FuncId) (cat mp : List FuncId) (k n : Nat) (f : FuncId) : Bool := match (evN P (drawRun P) (stepK (knT K) (knC P n cat mp k)) n).2.call f [] ⟨Env.none, .lf, 0⟩ with
  | some (.bool b, _) => b
  | _ => false
theorem runCK_calls {P : Program} (hng : NoNG P) (hm : P.follows .mixedOrders = true) {K : List FuncId} (hK : ∀ f ∈ K, ∀ w : World, Calls P f #[] w fun e w' => e = .returned (.bool true) ∧ Below w.heap.size w w') {cat mp : List FuncId} {k n : Nat} {f : FuncId} (h : runCK P K cat mp k n f = true) (w : World) :
    Calls P f #[] w fun e w' => e = .returned (.bool true) ∧ Below w.heap.size w w' := by
  unfold runCK at h
  cases hr : (evN P (drawRun P) (stepK (knT K) (knC P n cat mp k)) n).2.call f [] ⟨Env.none, .lf, 0⟩ with
  | none => rw [hr] at h; cases h
  | some vh =>
    obtain ⟨v, H'⟩ := vh
    rw [hr] at h
    have hc := (evF_ok hng hm (stepK_sound (knT_ok hK) (knC_sound hng hm k)) n).call w f [] ⟨Env.none, .lf, 0⟩ v H' hr phi0 w [] (by simp [VRs]) (HSim.start w)
    refine hc.mono ?_
    rintro e w' ⟨u, v', φ', H'', rfl, k1, k2, k3, _, rfl, rfl⟩
    cases u with
    | bool b =>
      have hb : b = true := h
      subst hb
      simp only [VR] at k2
      subst k2
      exact ⟨rfl, below_of k1 k3⟩
    | _ => cases h
end
end Go.Ev
