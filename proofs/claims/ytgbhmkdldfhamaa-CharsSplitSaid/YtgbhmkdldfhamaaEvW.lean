/- Engine, part T: what the evaluator says holds of the program. -/
import Derived.Test.YtgbhmkdldfhamaaEvS
import Derived.Below
import Derived.ProofKit
import Derived.OpenShut
import Derived.Lib.LaidU8
namespace Go.Ev
open Go.RowKit
noncomputable section
section
theorem evF_ok [Ext] {P : Program} (hng : NoNG P) (hm : P.follows .mixedOrders = true) {kn : KN} (hk : KnOK P kn) (n : Nat) : FEok P (evN P (drawRun P) kn n).2 :=
  (evN_sound hng (fun _ h => drawRun_sound hng hm h) hk n).2.2
theorem kn0_ok [Ext] (P : Program) : KnOK P kn0 := fun _ _ _ _ _ _ h => by cases h
/-- What leaves the world below as it was. -/
theorem HSim.below [Ext] {w0 : World} {φ : Phi} {H : VH} {w w' : World} (h : HSim w0 φ H w) (hb : Below w.heap.size w w') : HSim w0 φ H w' := by
  have same := hb.block
  have hsz := h.oldSize
  refine ⟨h.env, fun r b hr => ?_, fun k hk => ?_, h.own, h.small, fun i o hi => ?_, h.inj, h.fresh, fun i inf hi => ?_⟩
  · obtain ⟨o, h1, h2⟩ := h.base r b hr
    exact ⟨o, by rw [same r (Array.getElem?_eq_some_iff.1 h1).1]; exact h1, h2⟩
  · rw [same k (by omega)]; exact h.old k hk
  · obtain ⟨inf, o', h1, h2, h3, h4⟩ := h.live i o hi
    exact ⟨inf, o', h1, by rw [same _ (h.bound i inf h1)]; exact h2, h3, h4⟩
  · have := h.bound i inf hi; have := hb.size; omega
theorem St.below {φ : Phi} {w w' : World} (hb : Below w.heap.size w w') : St φ w φ w' :=
  ⟨φ.le_refl, ⟨hb.os, hb.tape, hb.output, hb.size⟩, fun k hk _ => hb.block k hk, fun i inf hi => .inl ⟨i, inf, hi, rfl⟩⟩
theorem knT_ok [Ext] {P : Program} {K : List FuncId} (hK : ∀ f ∈ K, ∀ w : World, Calls P f #[] w fun e w' => e = .returned (.bool true) ∧ Below w.heap.size w w') : KnOK P (knT K) := by
  intro w0 f args H v H' h
  unfold knT at h
  split at h
  · rename_i hm
    cases h
    intro φ w args' ha hs
    simp only [VRs] at ha
    subst ha
    refine (hK f (memN_iff.1 hm) w).mono ?_
    rintro e w' ⟨rfl, hb⟩
    exact ⟨.bool true, .bool true, φ, H, rfl, St.below hb, by simp [VR], hs.below hb, rfl, rfl, rfl⟩
  · cases h
end
def rho0 : Rho := ⟨fun _ => 0, fun _ => .nilIface, fun _ => 0, fun _ => 0, fun _ => rfl, fun _ => [], fun _ _ h => by cases h⟩
def phi0 : Phi := ⟨fun _ => none, rho0⟩
/-- Where nothing is said besides. -/
instance extNone : Ext := ⟨fun _ _ => True⟩
section
theorem HSim.startE [Ext] {w : World} {ρ : Rho} {E : Env} (h : EnvOK E ⟨fun _ => none, ρ⟩ w) (hb : ∀ r b, E.blk r = some b → ∃ o, w.heap[r]? = some o ∧ BOR b o) : HSim w ⟨fun _ => none, ρ⟩ ⟨E, .lf, 0⟩ w :=
  ⟨h, hb, (fun _ _ => rfl), (fun i inf h => by cases h), Nat.zero_le _, (fun i o h => by cases h), (fun i j oi oj inf jnf h => by cases h), (fun _ _ => rfl), (fun i inf h => by cases h)⟩
theorem below_of [Ext] {w w' : World} {φ φ' : Phi} {H : VH} (hs : St φ w φ' w') (h : HSim w φ' H w') : Below w.heap.size w w' :=
  ⟨hs.wk.os, hs.wk.tape, hs.wk.output, hs.wk.size, h.old⟩
end
theorem HSim.start (w : World) : HSim w phi0 ⟨Env.none, .lf, 0⟩ w :=
  HSim.startE ⟨trivial, fun _ => ⟨Int.le_refl _, Int.le_refl _⟩, (fun f h => by cases h), (fun i c h => by cases h)⟩ (fun r b h => by cases h)
theorem runV_calls {P : Program} (hng : NoNG P) (hm : P.follows .mixedOrders = true) {n : Nat} {f : FuncId} (h : runV P n f = true) (w : World) :
    Calls P f #[] w fun e w' => e = .returned (.bool true) ∧ Below w.heap.size w w' := by
  unfold runV at h
  cases hr : (evN P (drawRun P) kn0 n).2.call f [] ⟨Env.none, .lf, 0⟩ with
  | none => rw [hr] at h; cases h
  | some vh =>
    obtain ⟨v, H'⟩ := vh
    rw [hr] at h
    have hc := (evF_ok hng hm (kn0_ok P) n).call w f [] ⟨Env.none, .lf, 0⟩ v H' hr phi0 w [] (by simp [VRs]) (HSim.start w)
    refine hc.mono ?_
    rintro e w' ⟨u, v', φ', H'', rfl, k1, k2, k3, _, rfl, rfl⟩
    cases u with
    | bool b =>
      have hb : b = true := h
      subst hb
      simp only [VR] at k2
      subst k2
      exact ⟨rfl, below_of k1 k3⟩
    | _ => cases h
theorem runK_calls {P : Program} (hng : NoNG P) (hm : P.follows .mixedOrders = true) {K : List FuncId} (hK : ∀ f ∈ K, ∀ w : World, Calls P f #[] w fun e w' => e = .returned (.bool true) ∧ Below w.heap.size w w') {n : Nat} {f : FuncId} (h : runK P K n f = true) (w : World) :
    Calls P f #[] w fun e w' => e = .returned (.bool true) ∧ Below w.heap.size w w' := by
  unfold runK at h
  cases hr : (evN P (drawRun P) (knT K) n).2.call f [] ⟨Env.none, .lf, 0⟩ with
  | none => rw [hr] at h; cases h
  | some vh =>
    obtain ⟨v, H'⟩ := vh
    rw [hr] at h
    have hc := (evF_ok hng hm (knT_ok hK) n).call w f [] ⟨Env.none, .lf, 0⟩ v H' hr phi0 w [] (by simp [VRs]) (HSim.start w)
    refine hc.mono ?_
    rintro e w' ⟨u, v', φ', H'', rfl, k1, k2, k3, _, rfl, rfl⟩
    cases u with
    | bool b =>
      have hb : b = true := h
      subst hb
      simp only [VR] at k2
      subst k2
      exact ⟨rfl, below_of k1 k3⟩
    | _ => cases h
/-- No function asks how many goroutines there are: as the kernel can reckon it. -/
def noNGb (P : Program) : Bool := P.funcs.toList.all fun fn => !(fn.name == "runtime.NumGoroutine")
theorem noNG_of {P : Program} (h : noNGb P = true) : NoNG P := by
  intro g fn hg
  have := List.all_eq_true.1 h fn (by
    have := Array.mem_of_getElem? hg
    simpa using this)
  simpa using this
/-- What a row asks behind a call that was given no memory. -/
theorem post_of_below {H : Type} {enc : TypeId × Value → H} {P : Program} {f : Func} {s : ChangeSpec} {apart fresh handsOn again : Bool} {W W' : World} {args : Array Value} {v : Value} {ds gs : List (DataW H)}
    (hW : DataW.Whole enc P f.params.toList s.vars apart W args.toList ds gs [])
    (hres : ∀ (b : Nat) (sp : Nat → Bool) (hd : Bool), DataW.TrodAll enc P W' b sp hd f.resultTypes.toList (v.resultList f.resultTypes.size) (s.fn H (ds ++ gs)).results [])
    (hargs : ∀ sp : Nat → Bool, DataW.TrodAll enc P W' 0 sp true f.params.toList args.toList (s.fn H (ds ++ gs)).args [])
    (hvars : ∀ sp : Nat → Bool, DataW.TrodVars enc P W' sp s.vars (s.fn H (ds ++ gs)).vars [])
    (hb : Below W.heap.size W W')
    (hok : ∀ (j : Nat) (t : TypeId) (r : Value), f.resultTypes[j]? = some t → (v.resultList f.resultTypes.size)[j]? = some r → Value.okWide P W' .any 0 t r) :
    s.post enc P f apart fresh handsOn again W args v W' :=
  ⟨ds, gs, [], [], [], [], hW, hres _ _ _, hargs _, hvars _, hb.frame _, fun _ => ⟨hok, _, _, [], ⟨[], [], ChangeShapes.trodAll_append (hargs _) (hres _ _ _), hvars _, rfl, (fun b off hp => by cases hp), fun _ => List.nodup_nil⟩, fun p hp _ => by cases hp⟩⟩
end
end Go.Ev
namespace Go.Ev
noncomputable section
open Go.RowKit
section
/-! ### tries, side by side -/
def TT.allV {α : Type} (p : Option α → Bool) : TT α → Bool
  | .lf => true
  | .nd l v r => match p v with
    | true => match TT.allV p l with
      | true => TT.allV p r
      | false => false
    | false => false
def TT.all2 {α β : Type} (p : Option α → Option β → Bool) : TT α → TT β → Bool
  | .lf, b => TT.allV (p none) b
  | .nd l v r, b => match b with
    | .lf => TT.allV (fun x => p x none) (.nd l v r)
    | .nd l' v' r' => match p v v' with
      | true => match TT.all2 p l l' with
        | true => TT.all2 p r r'
        | false => false
      | false => false
theorem TT.allV_get {α : Type} {p : Option α → Bool} (h0 : p none = true) : ∀ {t : TT α}, TT.allV p t = true → ∀ n, p (t.get n) = true
  | .lf, _, n => h0
  | .nd l v r, h, n => by
    simp only [TT.allV] at h
    split at h
    · rename_i h1
      split at h
      · rename_i h2
        rw [TT.get_nd]
        split
        · exact h1
        · split
          · exact TT.allV_get h0 h2 _
          · exact TT.allV_get h0 h _
      · cases h
    · cases h
theorem TT.all2_get {α β : Type} {p : Option α → Option β → Bool} (h0 : p none none = true) : ∀ {a : TT α} {b : TT β}, TT.all2 p a b = true → ∀ n, p (a.get n) (b.get n) = true
  | .lf, b, h, n => TT.allV_get h0 (by simpa only [TT.all2] using h) n
  | .nd l v r, .lf, h, n => TT.allV_get (p := fun x => p x none) h0 (by simpa only [TT.all2] using h) n
  | .nd l v r, .nd l' v' r', h, n => by
    simp only [TT.all2] at h
    split at h
    · rename_i h1
      split at h
      · rename_i h2
        rw [TT.get_nd, TT.get_nd]
        split
        · exact h1
        · split
          · exact TT.all2_get h0 h2 _
          · exact TT.all2_get h0 h _
      · cases h
    · cases h
/-! ### a state, of which less is said -/
def okT : Option VV → Option VV → Bool
  | none, none => true
  | some x, some y => match y with
    | .any => true
    | y => vvEq x y
  | none, some y => match y with
    | .any => true
    | _ => false
  | some _, none => false
def optNEq : Option Nat → Option Nat → Bool
  | none, none => true
  | some a, some b => Nat.beq a b
  | _, _ => false
def esEq : List (VV × VV × Nat) → List (VV × VV × Nat) → Bool
  | [], [] => true
  | (k, v, n) :: a, (k', v', n') :: b => match vvEq k k', vvEq v v', Nat.beq n n' with
    | true, true, true => esEq a b
    | _, _, _ => false
  | _, _ => false
def esuEq : List (VV × VV) → List (VV × VV) → Bool
  | [], [] => true
  | (k, v) :: a, (k', v') :: b => match vvEq k k', vvEq v v' with
    | true, true => esuEq a b
    | _, _ => false
  | _, _ => false
def voEq : VO → VO → Bool
  | .cells c g ro et, .cells c' g' ro' et' => match vvsEq c c', optNEq g g', Nat.beq ro ro', optNEq et et' with
    | true, true, true, true => true
    | _, _, _, _ => false
  | .map es c, .map es' c' => match esEq es es', Nat.beq c c' with
    | true, true => true
    | _, _ => false
  | .mapU es, .mapU es' => esuEq es es'
  | .list j n sz l et, .list j' n' sz' l' et' => match Nat.beq j j', Nat.beq n n', Nat.beq sz sz', vvsEq l l', optNEq et et' with
    | true, true, true, true, true => true
    | _, _, _, _, _ => false
  | _, _ => false
def okL : Option VO → Option VO → Bool
  | _, none => true
  | some o, some o' => voEq o o'
  | none, some _ => false
def wkB (a : VT) (H : VH) (a' : VT) (H' : VH) : Bool := match Nat.beq H.next H'.next, TT.all2 okT a a' with
  | true, true => TT.all2 okL H.locs H'.locs
  | _, _ => false
theorem optNEq_eq {a b : Option Nat} (h : optNEq a b = true) : a = b := by
  cases a <;> cases b <;> simp [optNEq] at h ⊢
  exact h
theorem esEq_eq : ∀ {a b : List (VV × VV × Nat)}, esEq a b = true → a = b
  | [], [], _ => rfl
  | [], _ :: _, h => by simp [esEq] at h
  | _ :: _, [], h => by simp [esEq] at h
  | (k, v, n) :: a, (k', v', n') :: b, h => by
    simp only [esEq] at h
    split at h
    · rename_i h1 h2 h3
      rw [vvEq_eq _ _ h1, vvEq_eq _ _ h2, Nat.eq_of_beq_eq_true h3, esEq_eq h]
    · cases h
theorem esuEq_eq : ∀ {a b : List (VV × VV)}, esuEq a b = true → a = b
  | [], [], _ => rfl
  | [], _ :: _, h => by simp [esuEq] at h
  | _ :: _, [], h => by simp [esuEq] at h
  | (k, v) :: a, (k', v') :: b, h => by
    simp only [esuEq] at h
    split at h
    · rename_i h1 h2
      rw [vvEq_eq _ _ h1, vvEq_eq _ _ h2, esuEq_eq h]
    · cases h
theorem voEq_eq {a b : VO} (h : voEq a b = true) : a = b := by
  unfold voEq at h
  split at h
  · split at h
    · rename_i h1 h2 h3 h4
      rw [vvsEq_eq _ _ h1, optNEq_eq h2, Nat.eq_of_beq_eq_true h3, optNEq_eq h4]
    · cases h
  · split at h
    · rename_i h1 h2
      rw [esEq_eq h1, Nat.eq_of_beq_eq_true h2]
    · cases h
  · rw [esuEq_eq h]
  · split at h
    · rename_i h1 h2 h3 h4 h5
      rw [Nat.eq_of_beq_eq_true h1, Nat.eq_of_beq_eq_true h2, Nat.eq_of_beq_eq_true h3, vvsEq_eq _ _ h4, optNEq_eq h5]
    · cases h
  · cases h
theorem wkB_tr {a a' : VT} {H H' : VH} (h : wkB a H a' H' = true) {φ : Phi} {tmps : Array Value} (k : TR φ a tmps) : TR φ a' tmps := by
  unfold wkB at h
  split at h
  · rename_i _ h2
    intro t
    have := TT.all2_get (p := okT) rfl h2 t
    have kt := k t
    unfold tget at kt ⊢
    revert this kt
    generalize a.get t = x
    generalize a'.get t = y
    intro this kt
    cases x with
    | none => cases y with
      | none => exact kt
      | some y => cases y <;> first | (simp only [VR]; done) | (simp [okT] at this)
    | some x => cases y with
      | none => simp [okT] at this
      | some y =>
        simp only
        have hy : y = .any ∨ vvEq x y = true := by
          cases y <;> first | exact .inl rfl | exact .inr (by simpa only [okT] using this)
        rcases hy with rfl | hy
        · simp only [VR]
        · rw [← vvEq_eq _ _ hy]; exact kt
  · cases h
theorem wkB_sim [Ext] {a a' : VT} {H H' : VH} (h : wkB a H a' H' = true) (hb : H'.base = H.base) {w0 : World} {φ : Phi} {w : World} (k : HSim w0 φ H w) : HSim w0 φ H' w := by
  unfold wkB at h
  split at h
  · rename_i h1 _
    have hn : H.next = H'.next := Nat.eq_of_beq_eq_true h1
    have sub : ∀ i o, H'.locs.get i = some o → H.locs.get i = some o := by
      intro i o hi
      have := TT.all2_get (p := okL) rfl h i
      rw [hi] at this
      cases hx : H.locs.get i with
      | none => rw [hx] at this; simp [okL] at this
      | some x =>
        rw [hx] at this
        simp only [okL] at this
        rw [voEq_eq this]
    refine ⟨by rw [hb]; exact k.env, by rw [hb]; exact k.base, k.old, k.own, by rw [← hn]; exact k.small, fun i o hi => ?_, fun i j oi oj inf jnf hi hj => k.inj i j oi oj inf jnf (sub i oi hi) (sub j oj hj), by rw [← hn]; exact k.fresh, k.bound⟩
    rw [hb]
    exact k.live i o (sub i o hi)
  · cases h
/-! ### pieces of code -/
/-- What a piece of code does, from a state to a state. -/
def CS [Ext] (P : Program) (nt : Nat) (c : Code) (a : VT) (H : VH) (x : VX) (a₁ : VT) (H₁ : VH) : Prop :=
  nt ≤ top → ∀ (w0 : World) (φ : Phi) (act : Act) (w : World), TR φ a act.tmps → HSim w0 φ H w → nt ≤ act.tmps.size → ∀ b : Nat → Prop, (True → ∀ r, w.heap.size ≤ r → b r) → MarksOK b w0 φ H w act.defers → c.wpIn (Fr none) 0 P (PostC b w0 φ w act.tmps.size H x a₁ H₁) act w
/-- The same of a loop's rounds. -/
def LS [Ext] (P : Program) (nt : Nat) (c : Code) (a : VT) (H : VH) (x : VX) (a₁ : VT) (H₁ : VH) : Prop :=
  nt ≤ top → ∀ w0, LoopOK P (· = none) w0 nt c a H x a₁ H₁
def vxEq : VX → VX → Bool
  | .normal, .normal => true
  | .ret, .ret => true
  | .exit i, .exit j => Nat.beq i j
  | _, _ => false
theorem vxEq_eq {a b : VX} (h : vxEq a b = true) : a = b := by
  unfold vxEq at h
  split at h
  · rfl
  · rfl
  · rw [Nat.eq_of_beq_eq_true h]
  · cases h
def chkC (P : Program) (kn : KN) (n nt : Nat) (c : Code) (a : VT) (H : VH) (x : VX) (a₁ : VT) (H₁ : VH) : Bool :=
  match (evN P (drawRun P) kn n).1.1 nt c a H with
  | some (x', a', H') => match vxEq x' x with
    | true => wkB a' H' a₁ H₁
    | false => false
  | none => false
theorem PostC.weaken [Ext] {b : Nat → Prop} {w0 : World} {φ : Phi} {w : World} {sz : Nat} {H H₁ H₂ : VH} {x : VX} {a₁ a₂ : VT} (h : wkB a₁ H₁ a₂ H₂ = true) (hb : H₂.base = H.base) {e : Exit} {act' : Act} {w' : World} (k : PostC b w0 φ w sz H x a₁ H₁ e act' w') : PostC b w0 φ w sz H x a₂ H₂ e act' w' := by
  obtain ⟨φ', h1, h2, h3, h4, h5, h6, h7⟩ := k
  have hb' : H₂.base = H₁.base := hb.trans h5.symm
  exact ⟨φ', h1, h2, wkB_tr h h3, wkB_sim h hb' h4, hb, h6, h7.step (.refl φ' w') hb'⟩
section
variable {P : Program} {nt : Nat} {a a₁ a₂ : VT} {H H₁ H₂ : VH} {x : VX}
theorem CS.of_chk [Ext] (hng : NoNG P) (hm : P.follows .mixedOrders = true) {kn : KN} (hK : KnOK P kn) {n : Nat} {c : Code} (h : chkC P kn n nt c a H x a₁ H₁ = true) (hb : H₁.base = H.base) : CS P nt c a H x a₁ H₁ := by
  unfold chkC at h
  split at h
  · rename_i x' a' H' hr
    split at h
    · rename_i hx
      have := vxEq_eq hx
      subst this
      intro hnt w0 φ act w ht hs hn b hbs hd
      have := (evN_sound hng (fun _ h => drawRun_sound hng hm h) hK n).1.2 w0 nt c a H x' a' H' hr hnt none rfl φ act w ht hs hn b hbs hd
      exact wpIn_mono this fun e act' w' hp => hp.weaken h hb
    · cases h
  · cases h
theorem LS.of_chk [Ext] (hng : NoNG P) (hm : P.follows .mixedOrders = true) {kn : KN} (hK : KnOK P kn) {n : Nat} {c : Code} (h : chkC P kn n nt (.loop c) a H x a₁ H₁ = true) (hb : H₁.base = H.base) : LS P nt c a H x a₁ H₁ := by
  unfold chkC at h
  split at h
  · rename_i x' a' H' hr
    split at h
    · rename_i hx
      have := vxEq_eq hx
      subst this
      intro hnt w0
      obtain ⟨m, hm⟩ := (evN_sound hng (fun _ h => drawRun_sound hng hm h) hK n).1.1 w0 nt c a H x' a' H' hr hnt
      exact ⟨m, fun r hR φ act w ht hs hn b hbs hd Q hQ => hm r hR φ act w ht hs hn b hbs hd Q fun e act' w' hp => hQ _ _ _ (hp.weaken h hb)⟩
    · cases h
  · cases h
theorem CS.seq [Ext] {y z : Code} (h1 : CS P nt y a H .normal a₁ H₁) (h2 : CS P nt z a₁ H₁ x a₂ H₂) : CS P nt (.seq y z) a H x a₂ H₂ := by
  intro hnt w0 φ act w ht hs hn b hbs hd
  refine wpIn_seq ?_
  refine wpIn_mono (h1 hnt w0 φ act w ht hs hn b hbs hd) ?_
  intro e' act' w' hp
  obtain ⟨φ', rfl, k2, k3, k4, k5, k6, k7⟩ := hp
  have k' := h2 hnt w0 φ' act' w' k3 k4 (by omega) b (fun t r hr => hbs t r (by have := k2.wk.size; omega)) k7
  refine wpIn_mono k' ?_
  intro e'' act'' w'' hp'
  rw [k6] at hp'
  exact PostC.trans k2 k5 hp'
theorem CS.seqX [Ext] {y z : Code} (h1 : CS P nt y a H x a₁ H₁) (hx : x ≠ .normal) : CS P nt (.seq y z) a H x a₁ H₁ := by
  intro hnt w0 φ act w ht hs hn b hbs hd
  refine wpIn_seq ?_
  refine wpIn_mono (h1 hnt w0 φ act w ht hs hn b hbs hd) ?_
  intro e' act' w' hp
  cases x with
  | normal => exact absurd rfl hx
  | ret => obtain ⟨φ', rfl, k2⟩ := hp; exact ⟨φ', rfl, k2⟩
  | exit id => obtain ⟨φ', rfl, k2⟩ := hp; exact ⟨φ', rfl, k2⟩
theorem CS.cond [Ext] {o : Operand} {y z : Code} {v : Bool} (hc : evOperand a o = some (.bool v)) (h : CS P nt (match v with | true => y | false => z) a H x a₁ H₁) : CS P nt (.cond o y z) a H x a₁ H₁ := by
  intro hnt w0 φ act w ht hs hn b hbs hd
  have hv := evOperand_sound ht hc
  simp only [VR] at hv
  refine wpIn_cond hv ?_
  cases v with
  | true => exact h hnt w0 φ act w ht hs hn b hbs hd
  | false => exact h hnt w0 φ act w ht hs hn b hbs hd
def outB (id : Nat) : VX → VX
  | .exit j => match Nat.beq j id with
    | true => .normal
    | false => .exit j
  | x => x
theorem CS.block [Ext] {id : Nat} {c : Code} (h : CS P nt c a H x a₁ H₁) : CS P nt (.block id c) a H (outB id x) a₁ H₁ := by
  intro hnt w0 φ act w ht hs hn b hbs hd
  refine wpIn_block ?_
  refine wpIn_mono (h hnt w0 φ act w ht hs hn b hbs hd) ?_
  intro e' act' w' hp
  cases x with
  | normal => obtain ⟨φ', rfl, k2⟩ := hp; exact ⟨φ', rfl, k2⟩
  | ret => obtain ⟨φ', rfl, k2⟩ := hp; exact ⟨φ', rfl, k2⟩
  | exit j =>
    obtain ⟨φ', rfl, k2⟩ := hp
    simp only [VX.real, Exit.inBlock, outB]
    cases hj : Nat.beq j id with
    | true => rw [if_pos (Nat.eq_of_beq_eq_true hj)]; exact ⟨φ', rfl, k2⟩
    | false => rw [if_neg (by intro e; rw [e] at hj; simp at hj)]; exact ⟨φ', rfl, k2⟩
theorem LS.next [Ext] {c : Code} (h1 : CS P nt c a H .normal a₁ H₁) (h2 : LS P nt c a₁ H₁ x a₂ H₂) : LS P nt c a H x a₂ H₂ := by
  intro hnt w0
  obtain ⟨m, hm⟩ := h2 hnt w0
  refine ⟨m + 1, fun r hR φ act w ht hs hn b hbs hd Q hQ => ?_⟩
  rw [roundsIn_succ]
  subst hR
  refine wpIn_mono (h1 hnt w0 φ act w ht hs hn b hbs hd) ?_
  intro e act' w' hp
  obtain ⟨φ', rfl, k2, k3, k4, k5, k6, k7⟩ := hp
  refine hm none rfl φ' act' w' k3 k4 (by omega) b (fun t r hr => hbs t r (by have := k2.wk.size; omega)) k7 Q fun e'' act'' w'' hp' => hQ e'' act'' w'' ?_
  rw [k6] at hp'
  exact PostC.trans k2 k5 hp'
theorem CS.loop [Ext] {c : Code} (h : LS P nt c a H x a₁ H₁) : CS P nt (.loop c) a H x a₁ H₁ := by
  intro hnt w0 φ act w ht hs hn b hbs hd
  exact (h hnt w0).wp none rfl φ act w ht hs hn b hbs hd
/-- A call, of its body. -/
theorem CS.call [Ext] {f : FuncId} {fn : Func} {c : Code} {args : List VV} {l : List VV} (hf : P.funcs[f]? = some fn) (hc : fn.body = some c) (h1 : Nat.ble args.length fn.ntmps = true) (h2 : Nat.ble fn.ntmps top = true) (h : CS P fn.ntmps c (listT args 0 .lf) H x a₁ H₁) (hx : ∀ id, x ≠ .exit id) (hr : resL P a₁ H₁ fn.results.toList = some l) (w0 : World) :
    CallOK P w0 f args H fun u K => u = oneV l ∧ K = H₁ := by
  classical
  let rc : CE := fun nt' c' a' H' => if nt' = fn.ntmps ∧ c' = c ∧ a' = listT args 0 .lf ∧ H' = H then some (x, a₁, H₁) else none
  have hrc : CEok P (· = none) rc := by
    intro w0 nt' c' a' H' x' a₁' H₁' hq hb r hR φ act w ht hs hn b hbs hd
    by_cases hk : nt' = fn.ntmps ∧ c' = c ∧ a' = listT args 0 .lf ∧ H' = H
    · simp only [rc, if_pos hk, Option.some.injEq, Prod.mk.injEq] at hq
      obtain ⟨rfl, rfl, rfl⟩ := hq
      obtain ⟨rfl, rfl, rfl, rfl⟩ := hk
      subst hR
      exact h hb w0 φ act w ht hs hn b hbs hd
    · simp only [rc, if_neg hk] at hq
      cases hq
  refine stepF_sound (R := (· = none)) rfl hrc w0 f args H (oneV l) H₁ ?_
  unfold stepF
  simp only [hf, hc, h1, h2, rc, if_true, and_self, hr]
end
/-! ### the parts of a code, one behind the other -/
def dropSeq : Nat → Code → Code
  | 0, c => c
  | n + 1, c => match c with
    | .seq _ y => dropSeq n y
    | c => c
/-- The first parts. -/
def spineE (rc : CE) (nt : Nat) : Nat → Code → VT → VH → Option (VT × VH)
  | 0, _, a, H => some (a, H)
  | n + 1, c, a, H => match c with
    | .seq x y => match rc nt x a H with
      | some (.normal, a₁, H₁) => spineE rc nt n y a₁ H₁
      | _ => none
    | _ => none
def chkS (P : Program) (kn : KN) (n nt k : Nat) (c : Code) (a : VT) (H : VH) (a₁ : VT) (H₁ : VH) : Bool :=
  match spineE (evN P (drawRun P) kn n).1.1 nt k c a H with
  | some (a', H') => wkB a' H' a₁ H₁
  | none => false
section
variable {P : Program} {nt : Nat}
theorem spine_sound [Ext] {rc : CE} (hrc : CEok P (· = none) rc) {x : VX} {a₂ : VT} {H₂ : VH} : ∀ {k : Nat} {c : Code} {a : VT} {H : VH} {a₁ : VT} {H₁ : VH}, spineE rc nt k c a H = some (a₁, H₁) → (H₁.base = H.base → CS P nt (dropSeq k c) a₁ H₁ x a₂ H₂) → CS P nt c a H x a₂ H₂
  | 0, c, a, H, a₁, H₁, h, k2 => by
    simp only [spineE, Option.some.injEq, Prod.mk.injEq] at h
    obtain ⟨rfl, rfl⟩ := h
    exact k2 rfl
  | k + 1, c, a, H, a₁, H₁, h, k2 => by
    cases c with
    | seq y z =>
      simp only [spineE] at h
      split at h
      · rename_i a' H' hy
        intro hnt w0 φ act w ht hs hn b hbs hd
        refine wpIn_seq ?_
        refine wpIn_mono (hrc w0 nt y a H .normal a' H' hy hnt none rfl φ act w ht hs hn b hbs hd) ?_
        intro e' act' w' hp
        obtain ⟨φ', rfl, q2, q3, q4, q5, q6, q7⟩ := hp
        have := spine_sound hrc h (fun e => k2 (e.trans q5)) hnt w0 φ' act' w' q3 q4 (by omega) b (fun t r hr => hbs t r (by have := q2.wk.size; omega)) q7
        refine wpIn_mono this ?_
        intro e'' act'' w'' hp'
        rw [q6] at hp'
        exact PostC.trans q2 q5 hp'
      · cases h
    | _ => simp [spineE] at h
theorem CS.pre [Ext] {c : Code} {a a' : VT} {H H' : VH} {x : VX} {a₁ : VT} {H₁ : VH} (h : wkB a H a' H' = true) (hb : H'.base = H.base) (k : CS P nt c a' H' x a₁ H₁) : CS P nt c a H x a₁ H₁ := by
  intro hnt w0 φ act w ht hs hn b hbs hd
  refine wpIn_mono (k hnt w0 φ act w (wkB_tr h ht) (wkB_sim h hb hs) hn b hbs (hd.step (.refl φ w) hb)) ?_
  intro e act' w' hp
  obtain ⟨φ', h1, h2, h3, h4, h5, h6, h7⟩ := hp
  exact ⟨φ', h1, h2, h3, h4, h5.trans hb, h6, h7⟩
/-- The first parts in one run; the others behind it. -/
theorem CS.spine [Ext] (hng : NoNG P) (hm : P.follows .mixedOrders = true) {kn : KN} (hK : KnOK P kn) {n k : Nat} {c : Code} {a a₁ a₂ : VT} {H H₁ H₂ : VH} {x : VX}
    (h : chkS P kn n nt k c a H a₁ H₁ = true) (hb : H₁.base = H.base) (h2 : CS P nt (dropSeq k c) a₁ H₁ x a₂ H₂) : CS P nt c a H x a₂ H₂ := by
  unfold chkS at h
  split at h
  · rename_i a' H' hs
    exact spine_sound (evN_sound hng (fun _ h => drawRun_sound hng hm h) hK n).1.2 hs fun e => CS.pre h (hb.trans e.symm) h2
  · cases h
end
end
/-! ### the parts of a code by their places -/
def seqL : Code → Code
  | .seq x _ => x
  | c => c
def isSeq : Code → Bool
  | .seq _ _ => true
  | _ => false
def blockC : Code → Code
  | .block _ c => c
  | c => c
def isBlock (id : Nat) : Code → Bool
  | .block j _ => Nat.beq j id
  | _ => false
def loopC : Code → Code
  | .loop c => c
  | c => c
def isLoop : Code → Bool
  | .loop _ => true
  | _ => false
def condC (v : Bool) : Code → Code
  | .cond _ y z => match v with
    | true => y
    | false => z
  | c => c
def isCond (a : VT) (v : Bool) : Code → Bool
  | .cond o _ _ => match evOperand a o with
    | some (.bool u) => bEq u v
    | _ => false
  | _ => false
/-- So many rounds. -/
def roundsE (rc : CE) (nt : Nat) : Nat → Code → VT → VH → Option (VT × VH)
  | 0, _, a, H => some (a, H)
  | n + 1, c, a, H => match rc nt c a H with
    | some (.normal, a₁, H₁) => roundsE rc nt n c a₁ H₁
    | _ => none
def chkR (P : Program) (kn : KN) (n nt k : Nat) (c : Code) (a : VT) (H : VH) (a₁ : VT) (H₁ : VH) : Bool :=
  match roundsE (evN P (drawRun P) kn n).1.1 nt k c a H with
  | some (a', H') => wkB a' H' a₁ H₁
  | none => false
section
variable {P : Program} {nt : Nat} {a a₁ a₂ : VT} {H H₁ H₂ : VH} {x : VX}
theorem CS.seqAt [Ext] {c : Code} (h : isSeq c = true) (h1 : CS P nt (seqL c) a H .normal a₁ H₁) (h2 : CS P nt (dropSeq 1 c) a₁ H₁ x a₂ H₂) : CS P nt c a H x a₂ H₂ := by
  cases c <;> simp [isSeq] at h
  exact CS.seq h1 h2
theorem CS.seqXAt [Ext] {c : Code} (h : isSeq c = true) (h1 : CS P nt (seqL c) a H x a₁ H₁) (hx : x ≠ .normal) : CS P nt c a H x a₁ H₁ := by
  cases c <;> simp [isSeq] at h
  exact CS.seqX h1 hx
theorem CS.blockAt [Ext] {c : Code} {id : Nat} (h : isBlock id c = true) (h1 : CS P nt (blockC c) a H x a₁ H₁) : CS P nt c a H (outB id x) a₁ H₁ := by
  cases c <;> simp [isBlock] at h
  subst h
  exact CS.block h1
theorem CS.loopAt [Ext] {c : Code} (h : isLoop c = true) (h1 : LS P nt (loopC c) a H x a₁ H₁) : CS P nt c a H x a₁ H₁ := by
  cases c <;> simp [isLoop] at h
  exact CS.loop h1
theorem CS.condAt [Ext] {c : Code} {v : Bool} (h : isCond a v c = true) (h1 : CS P nt (condC v c) a H x a₁ H₁) : CS P nt c a H x a₁ H₁ := by
  cases c with
  | cond o y z =>
    simp only [isCond] at h
    split at h
    · rename_i u hu
      have := bEq_eq h
      subst this
      refine CS.cond hu ?_
      cases u <;> exact h1
    · cases h
  | _ => simp [isCond] at h
def LSm [Ext] (P : Program) (nt : Nat) (w0 : World) (m : Nat) (c : Code) (a : VT) (H : VH) (x : VX) (a₁ : VT) (H₁ : VH) : Prop :=
  ∀ (r : Option Nat), r = none → ∀ (φ : Phi) (act : Act) (w : World), TR φ a act.tmps → HSim w0 φ H w → nt ≤ act.tmps.size → ∀ b : Nat → Prop, (True → ∀ r, w.heap.size ≤ r → b r) → MarksOK b w0 φ H w act.defers → ∀ Q : Exit → Act → World → Prop, (∀ e act' w', PostC b w0 φ w act.tmps.size H x a₁ H₁ e act' w' → Q e act' w') →
    Code.roundsIn (Fr r) 0 P c Q m act w
theorem rounds_sound [Ext] {rc : CE} (hrc : CEok P (· = none) rc) (hnt : nt ≤ top) {w0 : World} {m : Nat} {c : Code} (h2 : LSm P nt w0 m c a₁ H₁ x a₂ H₂) : ∀ {k : Nat} {a : VT} {H : VH} {a' : VT} {H' : VH}, roundsE rc nt k c a H = some (a', H') → wkB a' H' a₁ H₁ = true → H₁.base = H.base → LSm P nt w0 (m + k) c a H x a₂ H₂
  | 0, a, H, a', H', h, hw, hb => by
    simp only [roundsE, Option.some.injEq, Prod.mk.injEq] at h
    obtain ⟨rfl, rfl⟩ := h
    refine fun r hR φ act w ht hs hn b hbs hd Q hQ => h2 r hR φ act w (wkB_tr hw ht) (wkB_sim hw hb hs) hn b hbs (hd.step (.refl φ w) hb) Q fun e act' w' hp => hQ e act' w' ?_
    obtain ⟨φ', h1, h2, h3, h4, h5, h6, h7⟩ := hp
    exact ⟨φ', h1, h2, h3, h4, h5.trans hb, h6, h7⟩
  | k + 1, a, H, a', H', h, hw, hb => by
    simp only [roundsE] at h
    split at h
    · rename_i a3 H3 hy
      intro r hR φ act w ht hs hn b hbs hd Q hQ
      subst hR
      rw [← Nat.add_assoc, roundsIn_succ]
      refine wpIn_mono (hrc w0 nt c a H .normal a3 H3 hy hnt none rfl φ act w ht hs hn b hbs hd) ?_
      intro e act' w' hp
      obtain ⟨φ', rfl, q2, q3, q4, q5, q6, q7⟩ := hp
      refine rounds_sound hrc hnt h2 h hw (hb.trans q5.symm) none rfl φ' act' w' q3 q4 (by omega) b (fun t r hr => hbs t r (by have := q2.wk.size; omega)) q7 Q fun e'' act'' w'' hp' => hQ e'' act'' w'' ?_
      rw [q6] at hp'
      exact PostC.trans q2 q5 hp'
    · cases h
/-- The first rounds in one run; the others behind them. -/
theorem LS.rounds [Ext] (hng : NoNG P) (hm : P.follows .mixedOrders = true) {kn : KN} (hK : KnOK P kn) {n k : Nat} {c : Code}
    (h : chkR P kn n nt k c a H a₁ H₁ = true) (hb : H₁.base = H.base) (h2 : LS P nt c a₁ H₁ x a₂ H₂) : LS P nt c a H x a₂ H₂ := by
  unfold chkR at h
  split at h
  · rename_i a' H' hs
    intro hnt w0
    obtain ⟨m, hm'⟩ := h2 hnt w0
    exact ⟨m + k, rounds_sound (evN_sound hng (fun _ h => drawRun_sound hng hm h) hK n).1.2 hnt hm' hs h hb⟩
  · cases h
end
/-- A closed law, of its body. -/
theorem cs_calls {P : Program} {f : FuncId} {fn : Func} {c : Code} {x : VX} {a₁ : VT} {H₁ : VH} (hf : P.funcs[f]? = some fn) (hc : fn.body = some c) (h2 : Nat.ble fn.ntmps top = true) (h : CS P fn.ntmps c .lf ⟨Env.none, .lf, 0⟩ x a₁ H₁) (hx : ∀ id, x ≠ .exit id) (hr : resL P a₁ H₁ fn.results.toList = some [.bool true]) (w : World) :
    Calls P f #[] w fun e w' => e = .returned (.bool true) ∧ Below w.heap.size w w' := by
  have hc' := h.call hf hc (args := []) rfl h2 hx hr w phi0 w [] (by simp [VRs]) (HSim.start w)
  refine hc'.mono ?_
  rintro e w' ⟨u, v', φ', H'', rfl, k1, k2, k3, _, rfl, rfl⟩
  simp only [oneV, VR] at k2
  subst k2
  exact ⟨rfl, below_of k1 k3⟩
end
end Go.Ev
namespace Go.Ev
noncomputable section
open Go.RowKit
/-! ### calls of which is said what they tell -/
/-- A call: of a function, with these arguments, where these blocks are so: it tells this, and leaves all below as it was. -/
structure KE where
  f : FuncId
  xs : List VV
  pre : List (Nat × VO)
  r : VV
def preB (H : VH) : List (Nat × VO) → Bool
  | [] => true
  | (i, o) :: l => match H.locs.get i with
    | some o' => match voEq o' o with
      | true => preB H l
      | false => false
    | none => false
def findE (f : FuncId) (args : List VV) (H : VH) : List KE → Option VV
  | [] => none
  | e :: l => match Nat.beq e.f f with
    | true => match vvsEq e.xs args with
      | true => match preB H e.pre with
        | true => some e.r
        | false => findE f args H l
      | false => findE f args H l
    | false => findE f args H l
def knL (KT : List KE) : KN := fun f args H => match findE f args H KT with
  | some r => some (r, H)
  | none => none
def preOK (φ : Phi) (pre : List (Nat × VO)) (w : World) : Prop := ∀ p ∈ pre, ∃ inf o', φ p.1 = some inf ∧ w.heap[inf.blk]? = some o' ∧ OR φ inf p.2 o'
def KEok (P : Program) (ρ : Rho) (w0 : World) (e : KE) : Prop :=
  ∀ (φ : Phi) (vs : List Value) (w : World), φ.ρ = ρ → w0.heap.size ≤ w.heap.size → (∀ k, k < w0.heap.size → w.heap[k]? = w0.heap[k]?) → VRs φ e.xs vs → preOK φ e.pre w →
    Calls P e.f ⟨vs⟩ w fun en w' => ∃ v, en = .returned v ∧ VR φ e.r v ∧ Below w.heap.size w w'
theorem findE_some {f : FuncId} {args : List VV} {H : VH} {r : VV} : ∀ {l : List KE}, findE f args H l = some r → ∃ e ∈ l, e.f = f ∧ e.xs = args ∧ preB H e.pre = true ∧ e.r = r
  | [], h => by simp [findE] at h
  | e :: l, h => by
    have next : findE f args H l = some r → ∃ e' ∈ e :: l, e'.f = f ∧ e'.xs = args ∧ preB H e'.pre = true ∧ e'.r = r := fun k => by
      obtain ⟨e', h1, h2⟩ := findE_some k
      exact ⟨e', by simp [h1], h2⟩
    simp only [findE] at h
    split at h
    · rename_i h1
      split at h
      · rename_i h2
        split at h
        · rename_i h3
          simp only [Option.some.injEq] at h
          exact ⟨e, by simp, Nat.eq_of_beq_eq_true h1, vvsEq_eq _ _ h2, h3, h⟩
        · exact next h
      · exact next h
    · exact next h
theorem preB_ok [Ext] {w0 : World} {φ : Phi} {H : VH} {w : World} (hs : HSim w0 φ H w) : ∀ {l : List (Nat × VO)}, preB H l = true → preOK φ l w
  | [], _ => fun p hp => by cases hp
  | (i, o) :: l, h => by
    simp only [preB] at h
    split at h
    · rename_i o' ho
      split at h
      · rename_i hv
        have := voEq_eq hv
        subst this
        intro p hp
        rcases List.mem_cons.1 hp with rfl | hp
        · obtain ⟨inf, o'', h1, h2, h3, _⟩ := hs.live i _ ho
          exact ⟨inf, o'', h1, h2, h3⟩
        · exact preB_ok hs h p hp
      · cases h
    · cases h
theorem knL_ok [Ext] {P : Program} {KT : List KE} (hx : ∀ ρ w0, Ext.ok ρ w0 → ∀ e ∈ KT, KEok P ρ w0 e) : KnOK P (knL KT) := by
  intro w0 f args H v H' h
  unfold knL at h
  split at h
  · rename_i r hr
    simp only [Option.some.injEq, Prod.mk.injEq] at h
    obtain ⟨rfl, rfl⟩ := h
    obtain ⟨e, he, rfl, rfl, h3, rfl⟩ := findE_some hr
    intro φ w args' ha hs
    refine (hx φ.ρ w0 hs.env.ext e he φ args' w rfl hs.oldSize hs.old ha (preB_ok hs h3)).mono ?_
    rintro en w' ⟨v', rfl, hv, hb⟩
    exact ⟨e.r, v', φ, H, rfl, St.below hb, hv, hs.below hb, rfl, rfl, rfl⟩
  · cases h
/-! ### a run under assumptions -/
def runE (P : Program) (kn : KN) (n : Nat) (f : FuncId) (xs : List VV) (E : Env) : Option (VV × VH) := (evN P (drawRun P) kn n).2.call f xs ⟨E, .lf, 0⟩
theorem runE_calls [Ext] {P : Program} (hng : NoNG P) (hm : P.follows .mixedOrders = true) {kn : KN} (hk : KnOK P kn) {n : Nat} {f : FuncId} {xs : List VV} {E : Env} {v : VV} {H' : VH} (h : runE P kn n f xs E = some (v, H')) {w : World} {ρ : Rho}
    (hE : EnvOK E ⟨fun _ => none, ρ⟩ w) (hb : ∀ r b, E.blk r = some b → ∃ o, w.heap[r]? = some o ∧ BOR b o) {args : List Value} (ha : VRs ⟨fun _ => none, ρ⟩ xs args) :
    Calls P f ⟨args⟩ w fun e w' => ∃ v' φ', e = .returned v' ∧ φ'.ρ = ρ ∧ VR φ' v v' ∧ Below w.heap.size w w' := by
  have hc := (evF_ok hng hm hk n).call w f xs ⟨E, .lf, 0⟩ v H' h ⟨fun _ => none, ρ⟩ w args ha (HSim.startE hE hb)
  refine hc.mono ?_
  rintro e w' ⟨u, v', φ', H'', rfl, k1, k2, k3, _, rfl, rfl⟩
  exact ⟨v', φ', rfl, k1.le.2, k2, below_of k1 k3⟩
/-! ### forks -/
abbrev Ivs := List (Int × Int)
/-- A symbol that is not listed is any number of 64 bits. -/
def ivAt (l : Ivs) (i : Nat) : Int × Int := match lget l i with
  | some p => p
  | none => (-9223372036854775808, 9223372036854775807)
def ivHi : Ivs → Nat → Int → Ivs
  | [], _, _ => []
  | (a, b) :: l, 0, c => (a, match decide (b ≤ c) with | true => b | false => c) :: l
  | p :: l, n + 1, c => p :: ivHi l n c
def ivLo : Ivs → Nat → Int → Ivs
  | [], _, _ => []
  | (a, b) :: l, 0, c => (match decide (c ≤ a) with | true => a | false => c, b) :: l
  | p :: l, n + 1, c => p :: ivLo l n c
inductive Tr where
  | leaf
  | cut (i : Nat) (c : Int) (l r : Tr)
  | rel (k : IntKind) (i j : Nat) (l r : Tr)
/-- All leaves pass. -/
def chkT (lc : Ivs → List Fact → Bool) : Tr → Ivs → List Fact → Bool
  | .leaf, iv, fs => lc iv fs
  | .cut i c l r, iv, fs => match chkT lc l (ivHi iv i c) fs with
    | true => chkT lc r (ivLo iv i (c + 1)) fs
    | false => false
  | .rel k i j l r, iv, fs => match chkT lc l iv (.bin .lss (.sint k i) (.sint k j) (.bool true) :: fs) with
    | true => chkT lc r iv (.bin .lss (.sint k i) (.sint k j) (.bool false) :: fs)
    | false => false
def IvOK (iv : Ivs) (ρ : Rho) : Prop := ∀ i, (ivAt iv i).1 ≤ ρ.int i ∧ ρ.int i ≤ (ivAt iv i).2
def FsOK (fs : List Fact) (ρ : Rho) : Prop := ∀ f ∈ fs, FactOK ρ f
theorem ivAt_hi : ∀ (iv : Ivs) (i : Nat) (c : Int) (j : Nat), ivAt (ivHi iv i c) j = ivAt iv j ∨ (j = i ∧ ivAt (ivHi iv i c) j = ((ivAt iv j).1, c))
  | [], i, c, j => .inl (by simp [ivHi])
  | (a, b) :: l, 0, c, 0 => by
    simp only [ivHi, ivAt, lget]
    cases h : decide (b ≤ c) with
    | true => exact .inl rfl
    | false => exact .inr (by simp)
  | (a, b) :: l, 0, c, j + 1 => .inl (by simp [ivHi, ivAt, lget])
  | p :: l, n + 1, c, 0 => .inl (by simp [ivHi, ivAt, lget])
  | p :: l, n + 1, c, j + 1 => by
    rcases ivAt_hi l n c j with h | ⟨h1, h2⟩
    · exact .inl (by simpa [ivHi, ivAt, lget] using h)
    · exact .inr ⟨by omega, by simpa [ivHi, ivAt, lget] using h2⟩
theorem ivAt_lo : ∀ (iv : Ivs) (i : Nat) (c : Int) (j : Nat), ivAt (ivLo iv i c) j = ivAt iv j ∨ (j = i ∧ ivAt (ivLo iv i c) j = (c, (ivAt iv j).2))
  | [], i, c, j => .inl (by simp [ivLo])
  | (a, b) :: l, 0, c, 0 => by
    simp only [ivLo, ivAt, lget]
    cases h : decide (c ≤ a) with
    | true => exact .inl rfl
    | false => exact .inr (by simp)
  | (a, b) :: l, 0, c, j + 1 => .inl (by simp [ivLo, ivAt, lget])
  | p :: l, n + 1, c, 0 => .inl (by simp [ivLo, ivAt, lget])
  | p :: l, n + 1, c, j + 1 => by
    rcases ivAt_lo l n c j with h | ⟨h1, h2⟩
    · exact .inl (by simpa [ivLo, ivAt, lget] using h)
    · exact .inr ⟨by omega, by simpa [ivLo, ivAt, lget] using h2⟩
theorem IvOK.hi {iv : Ivs} {ρ : Rho} (h : IvOK iv ρ) {i : Nat} {c : Int} (hc : ρ.int i ≤ c) : IvOK (ivHi iv i c) ρ := by
  intro j
  rcases ivAt_hi iv i c j with e | ⟨rfl, e⟩
  · rw [e]; exact h j
  · rw [e]; exact ⟨(h j).1, hc⟩
theorem IvOK.lo {iv : Ivs} {ρ : Rho} (h : IvOK iv ρ) {i : Nat} {c : Int} (hc : c ≤ ρ.int i) : IvOK (ivLo iv i c) ρ := by
  intro j
  rcases ivAt_lo iv i c j with e | ⟨rfl, e⟩
  · rw [e]; exact h j
  · rw [e]; exact ⟨hc, (h j).2⟩
theorem factLss {ρ : Rho} {k : IntKind} {i j : Nat} {b : Bool} (h : decide (ρ.int i < ρ.int j) = b) : FactOK ρ (.bin .lss (.sint k i) (.sint k j) (.bool b)) := by
  refine ⟨_, _, _, rfl, rfl, rfl, by simp, by simp, fun P t w => ?_⟩
  simp [binOp, Op.intCmp, h]
/-- The leaf at which a choice of numbers ends. -/
def leafOf : Tr → (Nat → Int) → Ivs → List Fact → Ivs × List Fact
  | .leaf, _, iv, fs => (iv, fs)
  | .cut i c l r, v, iv, fs => if v i ≤ c then leafOf l v (ivHi iv i c) fs else leafOf r v (ivLo iv i (c + 1)) fs
  | .rel k i j l r, v, iv, fs => if v i < v j then leafOf l v iv (.bin .lss (.sint k i) (.sint k j) (.bool true) :: fs) else leafOf r v iv (.bin .lss (.sint k i) (.sint k j) (.bool false) :: fs)
/-- What holds at each leaf holds. -/
theorem leafOf_ok {lc : Ivs → List Fact → Bool} {ρ : Rho} {v : Nat → Int} (hv : ρ.int = v) : ∀ {t : Tr} {iv : Ivs} {fs : List Fact}, chkT lc t iv fs = true → IvOK iv ρ → FsOK fs ρ → lc (leafOf t v iv fs).1 (leafOf t v iv fs).2 = true ∧ IvOK (leafOf t v iv fs).1 ρ ∧ FsOK (leafOf t v iv fs).2 ρ
  | .leaf, iv, fs, h, hi, hf => ⟨h, hi, hf⟩
  | .cut i c l r, iv, fs, h, hi, hf => by
    simp only [chkT] at h
    split at h
    · rename_i h1
      by_cases hc : v i ≤ c
      · simp only [leafOf, if_pos hc]
        exact leafOf_ok hv h1 (hi.hi (by rw [hv]; exact hc)) hf
      · simp only [leafOf, if_neg hc]
        exact leafOf_ok hv h (hi.lo (by rw [hv]; omega)) hf
    · cases h
  | .rel k i j l r, iv, fs, h, hi, hf => by
    simp only [chkT] at h
    split at h
    · rename_i h1
      by_cases hc : v i < v j
      · simp only [leafOf, if_pos hc]
        refine leafOf_ok hv h1 hi fun f hf' => ?_
        rcases List.mem_cons.1 hf' with rfl | k
        · exact factLss (by rw [hv]; exact decide_eq_true hc)
        · exact hf f k
      · simp only [leafOf, if_neg hc]
        refine leafOf_ok hv h hi fun f hf' => ?_
        rcases List.mem_cons.1 hf' with rfl | k
        · exact factLss (by rw [hv]; exact decide_eq_false hc)
        · exact hf f k
    · cases h
/-- Only symbols below this one are asked. -/
def trLow (m : Nat) : Tr → Bool
  | .leaf => true
  | .cut i _ l r => match Nat.blt i m, trLow m l with
    | true, true => trLow m r
    | _, _ => false
  | .rel _ i j l r => match Nat.blt i m, Nat.blt j m, trLow m l with
    | true, true, true => trLow m r
    | _, _, _ => false
theorem leafOf_congr {m : Nat} {v v' : Nat → Int} (hv : ∀ i, i < m → v i = v' i) : ∀ {t : Tr} {iv : Ivs} {fs : List Fact}, trLow m t = true → leafOf t v iv fs = leafOf t v' iv fs
  | .leaf, iv, fs, _ => rfl
  | .cut i c l r, iv, fs, h => by
    simp only [trLow] at h
    split at h
    · rename_i h1 h2
      simp only [leafOf, hv i (lt_of_blt h1), leafOf_congr hv h2, leafOf_congr hv h]
    · cases h
  | .rel k i j l r, iv, fs, h => by
    simp only [trLow] at h
    split at h
    · rename_i h1 h2 h3
      simp only [leafOf, hv i (lt_of_blt h1), hv j (lt_of_blt h2), leafOf_congr hv h3, leafOf_congr hv h]
    · cases h
/-- A symbol, or its only value. -/
def sv (iv : Ivs) (k : IntKind) (i : Nat) : VV := match ivAt iv i with
  | (l, h) => match decide (l = h) with
    | true => .int k l
    | false => .sint k i
theorem VR_sv {iv : Ivs} {φ : Phi} (h : IvOK iv φ.ρ) (k : IntKind) (i : Nat) : VR φ (sv iv k i) (.int k (φ.ρ.int i)) := by
  unfold sv
  have hi := h i
  split
  rename_i l h' e
  rw [e] at hi
  simp only at hi
  split
  · rename_i hd
    have := of_decide_eq_true hd
    subst this
    simp only [VR]
    congr 1
    omega
  · simp only [VR]
end
end Go.Ev
namespace Go.Ev
noncomputable section
open Go.RowKit
/-- Blocks, and what cells they have. -/
abbrev Tabs := List (Nat × List Value)
def tabsAt : Tabs → Nat → Option BO
  | [], _ => none
  | (g, c) :: l, r => match Nat.beq g r with
    | true => some (.cells c)
    | false => tabsAt l r
def tabEnv (l : Tabs) : Env := ⟨tabsAt l, fun _ => (0, 0), [], fun _ => none⟩
def TabsOK (l : Tabs) (w : World) : Prop := ∀ g c, tabsAt l g = some (.cells c) → ∃ c' e fr, w.heap[g]? = some (.cells c' e fr) ∧ c'.toList = c
theorem tabsAt_cells : ∀ {l : Tabs} {r : Nat} {b : BO}, tabsAt l r = some b → ∃ c, b = .cells c
  | [], _, _, h => by cases h
  | (g, c) :: l, r, b, h => by
    simp only [tabsAt] at h
    split at h
    · cases h; exact ⟨c, rfl⟩
    · exact tabsAt_cells h
theorem TabsOK.lt {l : Tabs} {w : World} (h : TabsOK l w) {g : Nat} {c : List Value} (k : tabsAt l g = some (.cells c)) : g < w.heap.size := by
  obtain ⟨c', e, fr, h1, _⟩ := h g c k
  exact (Array.getElem?_eq_some_iff.1 h1).1
theorem TabsOK.of_old {l : Tabs} {w0 w : World} (h : TabsOK l w0) (ho : ∀ k, k < w0.heap.size → w.heap[k]? = w0.heap[k]?) : TabsOK l w := by
  intro g c k
  rw [ho g (h.lt k)]
  exact h g c k
theorem TabsOK.base {l : Tabs} {w : World} (h : TabsOK l w) : ∀ r b, (tabEnv l).blk r = some b → ∃ o, w.heap[r]? = some o ∧ BOR b o := by
  intro r b hb
  obtain ⟨c, rfl⟩ := tabsAt_cells hb
  obtain ⟨c', e, fr, h1, h2⟩ := h r c hb
  exact ⟨_, h1, c', e, fr, rfl, h2⟩
theorem tabsOK_cons {g : Nat} {c : List Value} {l : Tabs} {w : World} (h : ∃ c' e fr, w.heap[g]? = some (.cells c' e fr) ∧ c'.toList = c) (k : TabsOK l w) : TabsOK ((g, c) :: l) w := by
  intro r d hr
  simp only [tabsAt] at hr
  split at hr
  · rename_i he
    cases hr
    rw [← Nat.eq_of_beq_eq_true he]
    exact h
  · exact k r d hr
theorem tabsOK_nil (w : World) : TabsOK [] w := fun g c h => by cases h
/-- A listed array of integers, as a block. -/
theorem tab_of_reads {P : Program} {w : World} {n : String} {k : IntKind} {zs : List Int} (h : Go.Lib.VarReads P w n (Go.Lib.tabData k zs)) {g t e m : Nat} (hg : P.globalNamed n = some g) (ht : (P.globals[g]?).map (·.type) = some t)
    (hu : P.underlying t = some (.array m e)) (he : P.underlying e = some (.int k)) (hce : P.cellsOf e = 1) (hct : P.cellsOf t = m) : ∃ c' e fr, w.heap[g]? = some (.cells c' e fr) ∧ c'.toList = zs.map fun z => Value.int k z := by
  obtain ⟨g', t', cs, fuel, p, h1, h2, h3, h4⟩ := h
  obtain rfl := Option.some.inj (hg.symm.trans h1)
  obtain rfl := Option.some.inj (ht.symm.trans h2)
  have := Go.Lib.cells_of_tab hu he hce hct h4
  simp only [World.var?, hg, Option.bind_some] at h3
  split at h3
  · rename_i cs' t'' fr hh
    simp only [Option.some.injEq] at h3
    subst h3
    exact ⟨_, _, _, hh, this⟩
  · cases h3
theorem tabStart [Ext] {l : Tabs} {w : World} (hx : Ext.ok rho0 w) (h : TabsOK l w) : HSim w phi0 ⟨tabEnv l, .lf, 0⟩ w :=
  HSim.startE ⟨hx, fun _ => ⟨Int.le_refl _, Int.le_refl _⟩, (fun f h => by cases h), (fun i c h => by cases h)⟩ h.base
/-- Functions without arguments that tell true wherever the tables lie. -/
def knTabs (K : List FuncId) : KN := knL (K.map fun f => ⟨f, [], [], .bool true⟩)
theorem knTabs_ok [Ext] {P : Program} {l : Tabs} {K : List FuncId} (hx : ∀ ρ w, Ext.ok ρ w → TabsOK l w) (hK : ∀ f ∈ K, ∀ w : World, TabsOK l w → Calls P f #[] w fun e w' => e = .returned (.bool true) ∧ Below w.heap.size w w') : KnOK P (knTabs K) := by
  refine knL_ok fun ρ w0 h e he => ?_
  obtain ⟨f, hf, rfl⟩ := List.mem_map.1 he
  intro φ vs w _ _ ho hv _
  simp only [VRs] at hv
  subst hv
  refine (hK f hf w ((hx ρ w0 h).of_old ho)).mono ?_
  rintro en w' ⟨rfl, hb⟩
  exact ⟨_, rfl, by simp [VR], hb⟩
/-- A closed law over tables, of its body. -/
theorem cs_callsT [Ext] {P : Program} {l : Tabs} {f : FuncId} {fn : Func} {c : Code} {x : VX} {a₁ : VT} {H₁ : VH} (hf : P.funcs[f]? = some fn) (hc : fn.body = some c) (h2 : Nat.ble fn.ntmps top = true) (h : CS P fn.ntmps c .lf ⟨tabEnv l, .lf, 0⟩ x a₁ H₁) (hx : ∀ id, x ≠ .exit id) (hr : resL P a₁ H₁ fn.results.toList = some [.bool true]) (w : World) (he : Ext.ok rho0 w) (ht : TabsOK l w) :
    Calls P f #[] w fun e w' => e = .returned (.bool true) ∧ Below w.heap.size w w' := by
  have hc' := h.call hf hc (args := []) rfl h2 hx hr w phi0 w [] (by simp [VRs]) (tabStart he ht)
  refine hc'.mono ?_
  rintro e w' ⟨u, v', φ', H'', rfl, k1, k2, k3, _, rfl, rfl⟩
  simp only [oneV, VR] at k2
  subst k2
  exact ⟨rfl, below_of k1 k3⟩
/-- .. run in one piece. -/
def runT (P : Program) (l : Tabs) (K : List FuncId) (n : Nat) (f : FuncId) : Bool := match runE P (knTabs K) n f [] (tabEnv l) with
  | some (.bool b, _) => b
  | _ => false
theorem runT_calls [Ext] {P : Program} (hng : NoNG P) (hm : P.follows .mixedOrders = true) {l : Tabs} {K : List FuncId} (hx : ∀ ρ w, Ext.ok ρ w → TabsOK l w) (hK : ∀ f ∈ K, ∀ w : World, TabsOK l w → Calls P f #[] w fun e w' => e = .returned (.bool true) ∧ Below w.heap.size w w')
    {n : Nat} {f : FuncId} (h : runT P l K n f = true) (w : World) (he : Ext.ok rho0 w) (ht : TabsOK l w) : Calls P f #[] w fun e w' => e = .returned (.bool true) ∧ Below w.heap.size w w' := by
  unfold runT at h
  split at h
  · rename_i b H' hr
    subst h
    refine (runE_calls hng hm (knTabs_ok hx hK) hr (ρ := rho0) ⟨he, fun _ => ⟨Int.le_refl _, Int.le_refl _⟩, (fun f h => by cases h), (fun i c h => by cases h)⟩ ht.base (args := []) (by simp [VRs])).mono ?_
    rintro e w' ⟨v', φ', rfl, _, hv, hb⟩
    simp only [VR] at hv
    subst hv
    exact ⟨rfl, hb⟩
  · cases h
end
end Go.Ev
