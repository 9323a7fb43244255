/- Engine, part T: what the evaluator says holds of the program. -/
import Derived.Test.YtgbpkilegbechaaEvS
import Derived.Below
import Derived.ProofKit
import Derived.OpenShut
import Derived.Lib.LaidU8
namespace Go.Ev
open Go.RowKit
noncomputable section
section
theorem evF_ok [Ext] {P : Program} (hng : NoNG P) (hm : P.follows .mixedOrders = true) {kn : KN} (hk : KnOK P kn) (n : Nat) : FEok P (evN P (drawRun P) kn n).2 :=
  (evN_sound hng (fun _ h => drawRun_sound hng hm h) hk n).2.2
theorem kn0_ok [Ext] (P : Program) : KnOK P kn0 := fun _ _ _ _ _ _ h => by cases h
/-- What leaves the world below as it was. -/
theorem HSim.below [Ext] {w0 : World} {φ : Phi} {H : VH} {w w' : World} (h : HSim w0 φ H w) (hb : Below w.heap.size w w') : HSim w0 φ H w' := by
  have same := hb.block
  have hsz := h.oldSize
  refine ⟨h.env, fun r b hr => ?_, h.old.next hb.size fun k hk _ => same k (by omega), h.own, h.small, fun i o hi => ?_, h.inj, h.fresh, fun i inf hi => ?_⟩
  · obtain ⟨o, h1, h2⟩ := h.base r b hr
    exact ⟨o, by rw [same r (Array.getElem?_eq_some_iff.1 h1).1]; exact h1, h2⟩
  · obtain ⟨inf, o', h1, h2, h3, h4⟩ := h.live i o hi
    exact ⟨inf, o', h1, by rw [same _ (h.bound i inf h1)]; exact h2, h3, h4⟩
  · have := h.bound i inf hi; have := hb.size; omega
theorem St.below {φ : Phi} {w w' : World} (hb : Below w.heap.size w w') : St φ w φ w' :=
  ⟨φ.le_refl, ⟨hb.os, hb.tape, hb.output, hb.size⟩, fun k hk _ => hb.block k hk, fun i inf hi => .inl ⟨i, inf, hi, rfl⟩⟩
end
def rho0 : Rho := ⟨fun _ => 0, fun _ => .nilIface, fun _ => 0, fun _ => 0, fun _ => rfl, fun _ => [], fun _ _ h => by cases h⟩
def phi0 : Phi := ⟨fun _ => none, rho0⟩
/-- Where nothing is said besides. -/
instance extNone : Ext := ⟨fun _ _ => True, fun _ => False⟩
section
theorem HSim.startE [Ext] {w : World} {ρ : Rho} {E : Env} (h : EnvOK E ⟨fun _ => none, ρ⟩ w) (hb : ∀ r b, E.blk r = some b → ∃ o, w.heap[r]? = some o ∧ BOR b o) (hno : ∀ k, ¬ Ext.own k := by intro k h; exact h) : HSim w ⟨fun _ => none, ρ⟩ ⟨E, .lf, 0⟩ w :=
  ⟨h, hb, ⟨Nat.le_refl _, (fun _ _ _ => rfl), fun _ _ _ => hno _⟩, (fun i inf h => by cases h), Nat.zero_le _, (fun i o h => by cases h), (fun i j oi oj inf jnf h => by cases h), (fun _ _ => rfl), (fun i inf h => by cases h)⟩
theorem below_of [Ext] {w w' : World} {φ φ' : Phi} {H : VH} (hs : St φ w φ' w') (h : HSim w φ' H w') (hno : ∀ k, ¬ Ext.own k := by intro k h; exact h) : Below w.heap.size w w' :=
  ⟨hs.wk.os, hs.wk.tape, hs.wk.output, hs.wk.size, fun k hk => h.old.same k hk (hno k)⟩
end
theorem HSim.start (w : World) : HSim w phi0 ⟨Env.none, .lf, 0⟩ w :=
  HSim.startE ⟨trivial, fun _ => ⟨Int.le_refl _, Int.le_refl _⟩, (fun f h => by cases h), (fun i c h => by cases h)⟩ (fun r b h => by cases h)
theorem runV_calls {P : Program} (hng : NoNG P) (hm : P.follows .mixedOrders = true) {n : Nat} {f : FuncId} (h : runV P n f = true) (w : World) :
    Calls P f #[] w fun e w' => e = .returned (.bool true) ∧ Below w.heap.size w w' := by
  unfold runV at h
  cases hr : (evN P (drawRun P) kn0 n).2.call f [] ⟨Env.none, .lf, 0⟩ with
  | none => rw [hr] at h; cases h
  | some vh =>
    obtain ⟨v, H'⟩ := vh
    rw [hr] at h
    have hc := (evF_ok hng hm (kn0_ok P) n).call w f [] ⟨Env.none, .lf, 0⟩ v H' hr phi0 w [] (by simp [VRs]) (HSim.start w)
    refine hc.mono ?_
    rintro e w' ⟨u, v', φ', H'', rfl, k1, k2, k3, _, rfl, rfl⟩
    cases u with
    | bool b =>
      have hb : b = true := h
      subst hb
      simp only [VR] at k2
      subst k2
      exact ⟨rfl, below_of k1 k3⟩
    | _ => cases h
/-- No function asks how many goroutines there are: as the kernel can reckon it. -/
def noNGb (P : Program) : Bool := P.funcs.toList.all fun fn => !(fn.name == "runtime.NumGoroutine")
theorem noNG_of {P : Program} (h : noNGb P = true) : NoNG P := by
  intro g fn hg
  have := List.all_eq_true.1 h fn (by
    have := Array.mem_of_getElem? hg
    simpa using this)
  simpa using this
end
end Go.Ev
namespace Go.Ev
noncomputable section
open Go.RowKit
section
/-! ### tries, side by side -/
def TT.allV {α : Type} (p : Option α → Bool) : TT α → Bool
  | .lf => true
  | .nd l v r => match p v with
    | true => match TT.allV p l with
      | true => TT.allV p r
      | false => false
    | false => false
def TT.all2 {α β : Type} (p : Option α → Option β → Bool) : TT α → TT β → Bool
  | .lf, b => TT.allV (p none) b
  | .nd l v r, b => match b with
    | .lf => TT.allV (fun x => p x none) (.nd l v r)
    | .nd l' v' r' => match p v v' with
      | true => match TT.all2 p l l' with
        | true => TT.all2 p r r'
        | false => false
      | false => false
theorem TT.allV_get {α : Type} {p : Option α → Bool} (h0 : p none = true) : ∀ {t : TT α}, TT.allV p t = true → ∀ n, p (t.get n) = true
  | .lf, _, n => h0
  | .nd l v r, h, n => by
    simp only [TT.allV] at h
    split at h
    · rename_i h1
      split at h
      · rename_i h2
        rw [TT.get_nd]
        split
        · exact h1
        · split
          · exact TT.allV_get h0 h2 _
          · exact TT.allV_get h0 h _
      · cases h
    · cases h
theorem TT.all2_get {α β : Type} {p : Option α → Option β → Bool} (h0 : p none none = true) : ∀ {a : TT α} {b : TT β}, TT.all2 p a b = true → ∀ n, p (a.get n) (b.get n) = true
  | .lf, b, h, n => TT.allV_get h0 (by simpa only [TT.all2] using h) n
  | .nd l v r, .lf, h, n => TT.allV_get (p := fun x => p x none) h0 (by simpa only [TT.all2] using h) n
  | .nd l v r, .nd l' v' r', h, n => by
    simp only [TT.all2] at h
    split at h
    · rename_i h1
      split at h
      · rename_i h2
        rw [TT.get_nd, TT.get_nd]
        split
        · exact h1
        · split
          · exact TT.all2_get h0 h2 _
          · exact TT.all2_get h0 h _
      · cases h
    · cases h
/-! ### a state, of which less is said -/
def okT : Option VV → Option VV → Bool
  | none, none => true
  | some x, some y => match y with
    | .any => true
    | y => vvEq x y
  | none, some y => match y with
    | .any => true
    | _ => false
  | some _, none => false
def optNEq : Option Nat → Option Nat → Bool
  | none, none => true
  | some a, some b => Nat.beq a b
  | _, _ => false
def esEq : List (VV × VV × Nat) → List (VV × VV × Nat) → Bool
  | [], [] => true
  | (k, v, n) :: a, (k', v', n') :: b => match vvEq k k', vvEq v v', Nat.beq n n' with
    | true, true, true => esEq a b
    | _, _, _ => false
  | _, _ => false
def esuEq : List (VV × VV) → List (VV × VV) → Bool
  | [], [] => true
  | (k, v) :: a, (k', v') :: b => match vvEq k k', vvEq v v' with
    | true, true => esuEq a b
    | _, _ => false
  | _, _ => false
def voEq : VO → VO → Bool
  | .cells c g ro et, .cells c' g' ro' et' => match vvsEq c c', optNEq g g', Nat.beq ro ro', optNEq et et' with
    | true, true, true, true => true
    | _, _, _, _ => false
  | .map es c, .map es' c' => match esEq es es', Nat.beq c c' with
    | true, true => true
    | _, _ => false
  | .mapU es, .mapU es' => esuEq es es'
  | .list j n sz l et, .list j' n' sz' l' et' => match Nat.beq j j', Nat.beq n n', Nat.beq sz sz', vvsEq l l', optNEq et et' with
    | true, true, true, true, true => true
    | _, _, _, _, _ => false
  | _, _ => false
def okL : Option VO → Option VO → Bool
  | _, none => true
  | some o, some o' => voEq o o'
  | none, some _ => false
def wkB (a : VT) (H : VH) (a' : VT) (H' : VH) : Bool := match Nat.beq H.next H'.next, TT.all2 okT a a' with
  | true, true => TT.all2 okL H.locs H'.locs
  | _, _ => false
theorem optNEq_eq {a b : Option Nat} (h : optNEq a b = true) : a = b := by
  cases a <;> cases b <;> simp [optNEq] at h ⊢
  exact h
theorem esEq_eq : ∀ {a b : List (VV × VV × Nat)}, esEq a b = true → a = b
  | [], [], _ => rfl
  | [], _ :: _, h => by simp [esEq] at h
  | _ :: _, [], h => by simp [esEq] at h
  | (k, v, n) :: a, (k', v', n') :: b, h => by
    simp only [esEq] at h
    split at h
    · rename_i h1 h2 h3
      rw [vvEq_eq _ _ h1, vvEq_eq _ _ h2, Nat.eq_of_beq_eq_true h3, esEq_eq h]
    · cases h
theorem esuEq_eq : ∀ {a b : List (VV × VV)}, esuEq a b = true → a = b
  | [], [], _ => rfl
  | [], _ :: _, h => by simp [esuEq] at h
  | _ :: _, [], h => by simp [esuEq] at h
  | (k, v) :: a, (k', v') :: b, h => by
    simp only [esuEq] at h
    split at h
    · rename_i h1 h2
      rw [vvEq_eq _ _ h1, vvEq_eq _ _ h2, esuEq_eq h]
    · cases h
theorem voEq_eq {a b : VO} (h : voEq a b = true) : a = b := by
  unfold voEq at h
  split at h
  · split at h
    · rename_i h1 h2 h3 h4
      rw [vvsEq_eq _ _ h1, optNEq_eq h2, Nat.eq_of_beq_eq_true h3, optNEq_eq h4]
    · cases h
  · split at h
    · rename_i h1 h2
      rw [esEq_eq h1, Nat.eq_of_beq_eq_true h2]
    · cases h
  · rw [esuEq_eq h]
  · split at h
    · rename_i h1 h2 h3 h4 h5
      rw [Nat.eq_of_beq_eq_true h1, Nat.eq_of_beq_eq_true h2, Nat.eq_of_beq_eq_true h3, vvsEq_eq _ _ h4, optNEq_eq h5]
    · cases h
  · cases h
theorem wkB_tr {a a' : VT} {H H' : VH} (h : wkB a H a' H' = true) {φ : Phi} {tmps : Array Value} (k : TR φ a tmps) : TR φ a' tmps := by
  unfold wkB at h
  split at h
  · rename_i _ h2
    intro t
    have := TT.all2_get (p := okT) rfl h2 t
    have kt := k t
    unfold tget at kt ⊢
    revert this kt
    generalize a.get t = x
    generalize a'.get t = y
    intro this kt
    cases x with
    | none => cases y with
      | none => exact kt
      | some y => cases y <;> first | (simp only [VR]; done) | (simp [okT] at this)
    | some x => cases y with
      | none => simp [okT] at this
      | some y =>
        simp only
        have hy : y = .any ∨ vvEq x y = true := by
          cases y <;> first | exact .inl rfl | exact .inr (by simpa only [okT] using this)
        rcases hy with rfl | hy
        · simp only [VR]
        · rw [← vvEq_eq _ _ hy]; exact kt
  · cases h
theorem wkB_sim [Ext] {a a' : VT} {H H' : VH} (h : wkB a H a' H' = true) (hb : H'.base = H.base) {w0 : World} {φ : Phi} {w : World} (k : HSim w0 φ H w) : HSim w0 φ H' w := by
  unfold wkB at h
  split at h
  · rename_i h1 _
    have hn : H.next = H'.next := Nat.eq_of_beq_eq_true h1
    have sub : ∀ i o, H'.locs.get i = some o → H.locs.get i = some o := by
      intro i o hi
      have := TT.all2_get (p := okL) rfl h i
      rw [hi] at this
      cases hx : H.locs.get i with
      | none => rw [hx] at this; simp [okL] at this
      | some x =>
        rw [hx] at this
        simp only [okL] at this
        rw [voEq_eq this]
    refine ⟨by rw [hb]; exact k.env, by rw [hb]; exact k.base, k.old, k.own, by rw [← hn]; exact k.small, fun i o hi => ?_, fun i j oi oj inf jnf hi hj => k.inj i j oi oj inf jnf (sub i oi hi) (sub j oj hj), by rw [← hn]; exact k.fresh, k.bound⟩
    rw [hb]
    exact k.live i o (sub i o hi)
  · cases h
/-! ### pieces of code -/
/-- What a piece of code does, from a state to a state. -/
def CS [Ext] (P : Program) (nt : Nat) (c : Code) (a : VT) (H : VH) (x : VX) (a₁ : VT) (H₁ : VH) : Prop :=
  nt ≤ top → ∀ (w0 : World) (φ : Phi) (act : Act) (w : World), TR φ a act.tmps → HSim w0 φ H w → nt ≤ act.tmps.size → ∀ b : Nat → Prop, (True → ∀ r, w.heap.size ≤ r → b r) → MarksOK b w0 φ H w act.defers → c.wpIn (Fr none) 0 P (PostC b w0 φ w act.tmps.size H x a₁ H₁) act w
/-- The same of a loop's rounds. -/
def LS [Ext] (P : Program) (nt : Nat) (c : Code) (a : VT) (H : VH) (x : VX) (a₁ : VT) (H₁ : VH) : Prop :=
  nt ≤ top → ∀ w0, LoopOK P (· = none) w0 nt c a H x a₁ H₁
section
variable {P : Program} {nt : Nat} {a a₁ a₂ : VT} {H H₁ H₂ : VH} {x : VX}
theorem CS.seq [Ext] {y z : Code} (h1 : CS P nt y a H .normal a₁ H₁) (h2 : CS P nt z a₁ H₁ x a₂ H₂) : CS P nt (.seq y z) a H x a₂ H₂ := by
  intro hnt w0 φ act w ht hs hn b hbs hd
  refine wpIn_seq ?_
  refine wpIn_mono (h1 hnt w0 φ act w ht hs hn b hbs hd) ?_
  intro e' act' w' hp
  obtain ⟨φ', rfl, k2, k3, k4, k5, k6, k7⟩ := hp
  have k' := h2 hnt w0 φ' act' w' k3 k4 (by omega) b (fun t r hr => hbs t r (by have := k2.wk.size; omega)) k7
  refine wpIn_mono k' ?_
  intro e'' act'' w'' hp'
  rw [k6] at hp'
  exact PostC.trans k2 k5 hp'
theorem CS.cond [Ext] {o : Operand} {y z : Code} {v : Bool} (hc : evOperand a o = some (.bool v)) (h : CS P nt (match v with | true => y | false => z) a H x a₁ H₁) : CS P nt (.cond o y z) a H x a₁ H₁ := by
  intro hnt w0 φ act w ht hs hn b hbs hd
  have hv := evOperand_sound ht hc
  simp only [VR] at hv
  refine wpIn_cond hv ?_
  cases v with
  | true => exact h hnt w0 φ act w ht hs hn b hbs hd
  | false => exact h hnt w0 φ act w ht hs hn b hbs hd
def outB (id : Nat) : VX → VX
  | .exit j => match Nat.beq j id with
    | true => .normal
    | false => .exit j
  | x => x
theorem CS.block [Ext] {id : Nat} {c : Code} (h : CS P nt c a H x a₁ H₁) : CS P nt (.block id c) a H (outB id x) a₁ H₁ := by
  intro hnt w0 φ act w ht hs hn b hbs hd
  refine wpIn_block ?_
  refine wpIn_mono (h hnt w0 φ act w ht hs hn b hbs hd) ?_
  intro e' act' w' hp
  cases x with
  | normal => obtain ⟨φ', rfl, k2⟩ := hp; exact ⟨φ', rfl, k2⟩
  | ret => obtain ⟨φ', rfl, k2⟩ := hp; exact ⟨φ', rfl, k2⟩
  | exit j =>
    obtain ⟨φ', rfl, k2⟩ := hp
    simp only [VX.real, Exit.inBlock, outB]
    cases hj : Nat.beq j id with
    | true => rw [if_pos (Nat.eq_of_beq_eq_true hj)]; exact ⟨φ', rfl, k2⟩
    | false => rw [if_neg (by intro e; rw [e] at hj; simp at hj)]; exact ⟨φ', rfl, k2⟩
theorem LS.next [Ext] {c : Code} (h1 : CS P nt c a H .normal a₁ H₁) (h2 : LS P nt c a₁ H₁ x a₂ H₂) : LS P nt c a H x a₂ H₂ := by
  intro hnt w0
  obtain ⟨m, hm⟩ := h2 hnt w0
  refine ⟨m + 1, fun r hR φ act w ht hs hn b hbs hd Q hQ => ?_⟩
  rw [roundsIn_succ]
  subst hR
  refine wpIn_mono (h1 hnt w0 φ act w ht hs hn b hbs hd) ?_
  intro e act' w' hp
  obtain ⟨φ', rfl, k2, k3, k4, k5, k6, k7⟩ := hp
  refine hm none rfl φ' act' w' k3 k4 (by omega) b (fun t r hr => hbs t r (by have := k2.wk.size; omega)) k7 Q fun e'' act'' w'' hp' => hQ e'' act'' w'' ?_
  rw [k6] at hp'
  exact PostC.trans k2 k5 hp'
theorem CS.loop [Ext] {c : Code} (h : LS P nt c a H x a₁ H₁) : CS P nt (.loop c) a H x a₁ H₁ := by
  intro hnt w0 φ act w ht hs hn b hbs hd
  exact (h hnt w0).wp none rfl φ act w ht hs hn b hbs hd
/-- A call, of its body. -/
theorem CS.call [Ext] {f : FuncId} {fn : Func} {c : Code} {args : List VV} {l : List VV} (hf : P.funcs[f]? = some fn) (hc : fn.body = some c) (h1 : Nat.ble args.length fn.ntmps = true) (h2 : Nat.ble fn.ntmps top = true) (h : CS P fn.ntmps c (listT args 0 .lf) H x a₁ H₁) (hx : ∀ id, x ≠ .exit id) (hr : resL P a₁ H₁ fn.results.toList = some l) (w0 : World) :
    CallOK P w0 f args H fun u K => u = oneV l ∧ K = H₁ := by
  classical
  let rc : CE := fun nt' c' a' H' => if nt' = fn.ntmps ∧ c' = c ∧ a' = listT args 0 .lf ∧ H' = H then some (x, a₁, H₁) else none
  have hrc : CEok P (· = none) rc := by
    intro w0 nt' c' a' H' x' a₁' H₁' hq hb r hR φ act w ht hs hn b hbs hd
    by_cases hk : nt' = fn.ntmps ∧ c' = c ∧ a' = listT args 0 .lf ∧ H' = H
    · simp only [rc, if_pos hk, Option.some.injEq, Prod.mk.injEq] at hq
      obtain ⟨rfl, rfl, rfl⟩ := hq
      obtain ⟨rfl, rfl, rfl, rfl⟩ := hk
      subst hR
      exact h hb w0 φ act w ht hs hn b hbs hd
    · simp only [rc, if_neg hk] at hq
      cases hq
  refine stepF_sound (R := (· = none)) rfl hrc w0 f args H (oneV l) H₁ ?_
  unfold stepF
  simp only [hf, hc, h1, h2, rc, if_true, and_self, hr]
end
/-! ### the parts of a code, one behind the other -/
section
variable {P : Program} {nt : Nat}
theorem CS.pre [Ext] {c : Code} {a a' : VT} {H H' : VH} {x : VX} {a₁ : VT} {H₁ : VH} (h : wkB a H a' H' = true) (hb : H'.base = H.base) (k : CS P nt c a' H' x a₁ H₁) : CS P nt c a H x a₁ H₁ := by
  intro hnt w0 φ act w ht hs hn b hbs hd
  refine wpIn_mono (k hnt w0 φ act w (wkB_tr h ht) (wkB_sim h hb hs) hn b hbs (hd.step (.refl φ w) hb)) ?_
  intro e act' w' hp
  obtain ⟨φ', h1, h2, h3, h4, h5, h6, h7⟩ := hp
  exact ⟨φ', h1, h2, h3, h4, h5.trans hb, h6, h7⟩
end
end
/-! ### the parts of a code by their places -/
section
variable {P : Program} {nt : Nat} {a a₁ a₂ : VT} {H H₁ H₂ : VH} {x : VX}
end
end
end Go.Ev
namespace Go.Ev
noncomputable section
open Go.RowKit
/-! ### calls of which is said what they tell -/
/-- A call: of a function, with these arguments, where these blocks are so: it tells this, and leaves all below as it was. -/
structure KE where
  f : FuncId
  xs : List VV
  pre : List (Nat × VO)
  r : VV
def preB (H : VH) : List (Nat × VO) → Bool
  | [] => true
  | (i, o) :: l => match H.locs.get i with
    | some o' => match voEq o' o with
      | true => preB H l
      | false => false
    | none => false
def findE (f : FuncId) (args : List VV) (H : VH) : List KE → Option VV
  | [] => none
  | e :: l => match Nat.beq e.f f with
    | true => match vvsEq e.xs args with
      | true => match preB H e.pre with
        | true => some e.r
        | false => findE f args H l
      | false => findE f args H l
    | false => findE f args H l
def knL (KT : List KE) : KN := fun f args H => match findE f args H KT with
  | some r => some (r, H)
  | none => none
def preOK (φ : Phi) (pre : List (Nat × VO)) (w : World) : Prop := ∀ p ∈ pre, ∃ inf o', φ p.1 = some inf ∧ w.heap[inf.blk]? = some o' ∧ OR φ inf p.2 o'
def KEok (P : Program) (ρ : Rho) (w0 : World) (e : KE) (S : Nat → Prop := fun _ => False) : Prop :=
  ∀ (φ : Phi) (vs : List Value) (w : World), φ.ρ = ρ → w0.heap.size ≤ w.heap.size → (∀ k, k < w0.heap.size → ¬ S k → w.heap[k]? = w0.heap[k]?) → VRs φ e.xs vs → preOK φ e.pre w →
    Calls P e.f ⟨vs⟩ w fun en w' => ∃ v, en = .returned v ∧ VR φ e.r v ∧ Below w.heap.size w w'
theorem findE_some {f : FuncId} {args : List VV} {H : VH} {r : VV} : ∀ {l : List KE}, findE f args H l = some r → ∃ e ∈ l, e.f = f ∧ e.xs = args ∧ preB H e.pre = true ∧ e.r = r
  | [], h => by simp [findE] at h
  | e :: l, h => by
    have next : findE f args H l = some r → ∃ e' ∈ e :: l, e'.f = f ∧ e'.xs = args ∧ preB H e'.pre = true ∧ e'.r = r := fun k => by
      obtain ⟨e', h1, h2⟩ := findE_some k
      exact ⟨e', by simp [h1], h2⟩
    simp only [findE] at h
    split at h
    · rename_i h1
      split at h
      · rename_i h2
        split at h
        · rename_i h3
          simp only [Option.some.injEq] at h
          exact ⟨e, by simp, Nat.eq_of_beq_eq_true h1, vvsEq_eq _ _ h2, h3, h⟩
        · exact next h
      · exact next h
    · exact next h
theorem preB_ok [Ext] {w0 : World} {φ : Phi} {H : VH} {w : World} (hs : HSim w0 φ H w) : ∀ {l : List (Nat × VO)}, preB H l = true → preOK φ l w
  | [], _ => fun p hp => by cases hp
  | (i, o) :: l, h => by
    simp only [preB] at h
    split at h
    · rename_i o' ho
      split at h
      · rename_i hv
        have := voEq_eq hv
        subst this
        intro p hp
        rcases List.mem_cons.1 hp with rfl | hp
        · obtain ⟨inf, o'', h1, h2, h3, _⟩ := hs.live i _ ho
          exact ⟨inf, o'', h1, h2, h3⟩
        · exact preB_ok hs h p hp
      · cases h
    · cases h
theorem knL_ok [Ext] {P : Program} {KT : List KE} (hx : ∀ ρ w0, Ext.ok ρ w0 → ∀ e ∈ KT, KEok P ρ w0 e Ext.own) : KnOK P (knL KT) := by
  intro w0 f args H v H' h
  unfold knL at h
  split at h
  · rename_i r hr
    simp only [Option.some.injEq, Prod.mk.injEq] at h
    obtain ⟨rfl, rfl⟩ := h
    obtain ⟨e, he, rfl, rfl, h3, rfl⟩ := findE_some hr
    intro φ w args' ha hs
    refine (hx φ.ρ w0 hs.env.ext e he φ args' w rfl hs.oldSize hs.old.same ha (preB_ok hs h3)).mono ?_
    rintro en w' ⟨v', rfl, hv, hb⟩
    exact ⟨e.r, v', φ, H, rfl, St.below hb, hv, hs.below hb, rfl, rfl, rfl⟩
  · cases h
/-! ### a run under assumptions -/
/-! ### forks -/
abbrev Ivs := List (Int × Int)
/-- A symbol that is not listed is any number of 64 bits. -/
def ivAt (l : Ivs) (i : Nat) : Int × Int := match lget l i with
  | some p => p
  | none => (-9223372036854775808, 9223372036854775807)
def ivHi : Ivs → Nat → Int → Ivs
  | [], _, _ => []
  | (a, b) :: l, 0, c => (a, match decide (b ≤ c) with | true => b | false => c) :: l
  | p :: l, n + 1, c => p :: ivHi l n c
def ivLo : Ivs → Nat → Int → Ivs
  | [], _, _ => []
  | (a, b) :: l, 0, c => (match decide (c ≤ a) with | true => a | false => c, b) :: l
  | p :: l, n + 1, c => p :: ivLo l n c
inductive Tr where
  | leaf
  | cut (i : Nat) (c : Int) (l r : Tr)
  | rel (k : IntKind) (i j : Nat) (l r : Tr)
def IvOK (iv : Ivs) (ρ : Rho) : Prop := ∀ i, (ivAt iv i).1 ≤ ρ.int i ∧ ρ.int i ≤ (ivAt iv i).2
def FsOK (fs : List Fact) (ρ : Rho) : Prop := ∀ f ∈ fs, FactOK ρ f
theorem ivAt_hi : ∀ (iv : Ivs) (i : Nat) (c : Int) (j : Nat), ivAt (ivHi iv i c) j = ivAt iv j ∨ (j = i ∧ ivAt (ivHi iv i c) j = ((ivAt iv j).1, c))
  | [], i, c, j => .inl (by simp [ivHi])
  | (a, b) :: l, 0, c, 0 => by
    simp only [ivHi, ivAt, lget]
    cases h : decide (b ≤ c) with
    | true => exact .inl rfl
    | false => exact .inr (by simp)
  | (a, b) :: l, 0, c, j + 1 => .inl (by simp [ivHi, ivAt, lget])
  | p :: l, n + 1, c, 0 => .inl (by simp [ivHi, ivAt, lget])
  | p :: l, n + 1, c, j + 1 => by
    rcases ivAt_hi l n c j with h | ⟨h1, h2⟩
    · exact .inl (by simpa [ivHi, ivAt, lget] using h)
    · exact .inr ⟨by omega, by simpa [ivHi, ivAt, lget] using h2⟩
theorem ivAt_lo : ∀ (iv : Ivs) (i : Nat) (c : Int) (j : Nat), ivAt (ivLo iv i c) j = ivAt iv j ∨ (j = i ∧ ivAt (ivLo iv i c) j = (c, (ivAt iv j).2))
  | [], i, c, j => .inl (by simp [ivLo])
  | (a, b) :: l, 0, c, 0 => by
    simp only [ivLo, ivAt, lget]
    cases h : decide (c ≤ a) with
    | true => exact .inl rfl
    | false => exact .inr (by simp)
  | (a, b) :: l, 0, c, j + 1 => .inl (by simp [ivLo, ivAt, lget])
  | p :: l, n + 1, c, 0 => .inl (by simp [ivLo, ivAt, lget])
  | p :: l, n + 1, c, j + 1 => by
    rcases ivAt_lo l n c j with h | ⟨h1, h2⟩
    · exact .inl (by simpa [ivLo, ivAt, lget] using h)
    · exact .inr ⟨by omega, by simpa [ivLo, ivAt, lget] using h2⟩
theorem IvOK.hi {iv : Ivs} {ρ : Rho} (h : IvOK iv ρ) {i : Nat} {c : Int} (hc : ρ.int i ≤ c) : IvOK (ivHi iv i c) ρ := by
  intro j
  rcases ivAt_hi iv i c j with e | ⟨rfl, e⟩
  · rw [e]; exact h j
  · rw [e]; exact ⟨(h j).1, hc⟩
theorem IvOK.lo {iv : Ivs} {ρ : Rho} (h : IvOK iv ρ) {i : Nat} {c : Int} (hc : c ≤ ρ.int i) : IvOK (ivLo iv i c) ρ := by
  intro j
  rcases ivAt_lo iv i c j with e | ⟨rfl, e⟩
  · rw [e]; exact h j
  · rw [e]; exact ⟨hc, (h j).2⟩
theorem factLss {ρ : Rho} {k : IntKind} {i j : Nat} {b : Bool} (h : decide (ρ.int i < ρ.int j) = b) : FactOK ρ (.bin .lss (.sint k i) (.sint k j) (.bool b)) := by
  refine ⟨_, _, _, rfl, rfl, rfl, by simp, by simp, fun P t w => ?_⟩
  simp [binOp, Op.intCmp, h]
/-- The leaf at which a choice of numbers ends. -/
def leafOf : Tr → (Nat → Int) → Ivs → List Fact → Ivs × List Fact
  | .leaf, _, iv, fs => (iv, fs)
  | .cut i c l r, v, iv, fs => if v i ≤ c then leafOf l v (ivHi iv i c) fs else leafOf r v (ivLo iv i (c + 1)) fs
  | .rel k i j l r, v, iv, fs => if v i < v j then leafOf l v iv (.bin .lss (.sint k i) (.sint k j) (.bool true) :: fs) else leafOf r v iv (.bin .lss (.sint k i) (.sint k j) (.bool false) :: fs)
/-- A symbol, or its only value. -/
def sv (iv : Ivs) (k : IntKind) (i : Nat) : VV := match ivAt iv i with
  | (l, h) => match decide (l = h) with
    | true => .int k l
    | false => .sint k i
theorem VR_sv {iv : Ivs} {φ : Phi} (h : IvOK iv φ.ρ) (k : IntKind) (i : Nat) : VR φ (sv iv k i) (.int k (φ.ρ.int i)) := by
  unfold sv
  have hi := h i
  split
  rename_i l h' e
  rw [e] at hi
  simp only at hi
  split
  · rename_i hd
    have := of_decide_eq_true hd
    subst this
    simp only [VR]
    congr 1
    omega
  · simp only [VR]
end
end Go.Ev
namespace Go.Ev
noncomputable section
open Go.RowKit
/-- Blocks, and what cells they have. -/
abbrev Tabs := List (Nat × List Value)
def tabsAt : Tabs → Nat → Option BO
  | [], _ => none
  | (g, c) :: l, r => match Nat.beq g r with
    | true => some (.cells c)
    | false => tabsAt l r
def tabEnv (l : Tabs) : Env := ⟨tabsAt l, fun _ => (0, 0), [], fun _ => none⟩
def TabsOK (l : Tabs) (w : World) : Prop := ∀ g c, tabsAt l g = some (.cells c) → ∃ c' e fr, w.heap[g]? = some (.cells c' e fr) ∧ c'.toList = c
theorem tabsAt_cells : ∀ {l : Tabs} {r : Nat} {b : BO}, tabsAt l r = some b → ∃ c, b = .cells c
  | [], _, _, h => by cases h
  | (g, c) :: l, r, b, h => by
    simp only [tabsAt] at h
    split at h
    · cases h; exact ⟨c, rfl⟩
    · exact tabsAt_cells h
theorem TabsOK.lt {l : Tabs} {w : World} (h : TabsOK l w) {g : Nat} {c : List Value} (k : tabsAt l g = some (.cells c)) : g < w.heap.size := by
  obtain ⟨c', e, fr, h1, _⟩ := h g c k
  exact (Array.getElem?_eq_some_iff.1 h1).1
theorem TabsOK.base {l : Tabs} {w : World} (h : TabsOK l w) : ∀ r b, (tabEnv l).blk r = some b → ∃ o, w.heap[r]? = some o ∧ BOR b o := by
  intro r b hb
  obtain ⟨c, rfl⟩ := tabsAt_cells hb
  obtain ⟨c', e, fr, h1, h2⟩ := h r c hb
  exact ⟨_, h1, c', e, fr, rfl, h2⟩
end
end Go.Ev
