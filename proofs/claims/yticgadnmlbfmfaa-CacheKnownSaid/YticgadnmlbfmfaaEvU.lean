/- Engine, part U: runs that are put together of parts; tables that are laid. -/
import Derived.Test.YticgadnmlbfmfaaEvT
namespace Go.Ev
noncomputable section
open Go.RowKit
section
/-! ### tries, side by side -/
def TT.allV {α : Type} (p : Option α → Bool) : TT α → Bool
  | .lf => true
  | .nd l v r => match p v with
    | true => match TT.allV p l with
      | true => TT.allV p r
      | false => false
    | false => false
def TT.all2 {α β : Type} (p : Option α → Option β → Bool) : TT α → TT β → Bool
  | .lf, b => TT.allV (p none) b
  | .nd l v r, b => match b with
    | .lf => TT.allV (fun x => p x none) (.nd l v r)
    | .nd l' v' r' => match p v v' with
      | true => match TT.all2 p l l' with
        | true => TT.all2 p r r'
        | false => false
      | false => false
theorem TT.allV_get {α : Type} {p : Option α → Bool} (h0 : p none = true) : ∀ {t : TT α}, TT.allV p t = true → ∀ n, p (t.get n) = true
  | .lf, _, n => h0
  | .nd l v r, h, n => by
    simp only [TT.allV] at h
    split at h
    · rename_i h1
      split at h
      · rename_i h2
        rw [TT.get_nd]
        split
        · exact h1
        · split
          · exact TT.allV_get h0 h2 _
          · exact TT.allV_get h0 h _
      · cases h
    · cases h
theorem TT.all2_get {α β : Type} {p : Option α → Option β → Bool} (h0 : p none none = true) : ∀ {a : TT α} {b : TT β}, TT.all2 p a b = true → ∀ n, p (a.get n) (b.get n) = true
  | .lf, b, h, n => TT.allV_get h0 (by simpa only [TT.all2] using h) n
  | .nd l v r, .lf, h, n => TT.allV_get (p := fun x => p x none) h0 (by simpa only [TT.all2] using h) n
  | .nd l v r, .nd l' v' r', h, n => by
    simp only [TT.all2] at h
    split at h
    · rename_i h1
      split at h
      · rename_i h2
        rw [TT.get_nd, TT.get_nd]
        split
        · exact h1
        · split
          · exact TT.all2_get h0 h2 _
          · exact TT.all2_get h0 h _
      · cases h
    · cases h
/-! ### a state, of which less is said -/
def okT : Option VV → Option VV → Bool
  | none, none => true
  | some x, some y => match y with
    | .any => true
    | y => vvEq x y
  | none, some y => match y with
    | .any => true
    | _ => false
  | some _, none => false
def optNEq : Option Nat → Option Nat → Bool
  | none, none => true
  | some a, some b => Nat.beq a b
  | _, _ => false
def esEq : List (VV × VV × Nat) → List (VV × VV × Nat) → Bool
  | [], [] => true
  | (k, v, n) :: a, (k', v', n') :: b => match vvEq k k', vvEq v v', Nat.beq n n' with
    | true, true, true => esEq a b
    | _, _, _ => false
  | _, _ => false
def esuEq : List (VV × VV) → List (VV × VV) → Bool
  | [], [] => true
  | (k, v) :: a, (k', v') :: b => match vvEq k k', vvEq v v' with
    | true, true => esuEq a b
    | _, _ => false
  | _, _ => false
def voEq : VO → VO → Bool
  | .cells c g ro et, .cells c' g' ro' et' => match vvsEq c c', optNEq g g', Nat.beq ro ro', optNEq et et' with
    | true, true, true, true => true
    | _, _, _, _ => false
  | .map es c, .map es' c' => match esEq es es', Nat.beq c c' with
    | true, true => true
    | _, _ => false
  | .mapU es, .mapU es' => esuEq es es'
  | .list j n sz l et, .list j' n' sz' l' et' => match Nat.beq j j', Nat.beq n n', Nat.beq sz sz', vvsEq l l', optNEq et et' with
    | true, true, true, true, true => true
    | _, _, _, _, _ => false
  | _, _ => false
def okL : Option VO → Option VO → Bool
  | _, none => true
  | some o, some o' => voEq o o'
  | none, some _ => false
def wkB (a : VT) (H : VH) (a' : VT) (H' : VH) : Bool := match Nat.beq H.next H'.next, TT.all2 okT a a' with
  | true, true => TT.all2 okL H.locs H'.locs
  | _, _ => false
theorem optNEq_eq {a b : Option Nat} (h : optNEq a b = true) : a = b := by
  cases a <;> cases b <;> simp [optNEq] at h ⊢
  exact h
theorem esEq_eq : ∀ {a b : List (VV × VV × Nat)}, esEq a b = true → a = b
  | [], [], _ => rfl
  | [], _ :: _, h => by simp [esEq] at h
  | _ :: _, [], h => by simp [esEq] at h
  | (k, v, n) :: a, (k', v', n') :: b, h => by
    simp only [esEq] at h
    split at h
    · rename_i h1 h2 h3
      rw [vvEq_eq _ _ h1, vvEq_eq _ _ h2, Nat.eq_of_beq_eq_true h3, esEq_eq h]
    · cases h
theorem esuEq_eq : ∀ {a b : List (VV × VV)}, esuEq a b = true → a = b
  | [], [], _ => rfl
  | [], _ :: _, h => by simp [esuEq] at h
  | _ :: _, [], h => by simp [esuEq] at h
  | (k, v) :: a, (k', v') :: b, h => by
    simp only [esuEq] at h
    split at h
    · rename_i h1 h2
      rw [vvEq_eq _ _ h1, vvEq_eq _ _ h2, esuEq_eq h]
    · cases h
theorem voEq_eq {a b : VO} (h : voEq a b = true) : a = b := by
  unfold voEq at h
  split at h
  · split at h
    · rename_i h1 h2 h3 h4
      rw [vvsEq_eq _ _ h1, optNEq_eq h2, Nat.eq_of_beq_eq_true h3, optNEq_eq h4]
    · cases h
  · split at h
    · rename_i h1 h2
      rw [esEq_eq h1, Nat.eq_of_beq_eq_true h2]
    · cases h
  · rw [esuEq_eq h]
  · split at h
    · rename_i h1 h2 h3 h4 h5
      rw [Nat.eq_of_beq_eq_true h1, Nat.eq_of_beq_eq_true h2, Nat.eq_of_beq_eq_true h3, vvsEq_eq _ _ h4, optNEq_eq h5]
    · cases h
  · cases h
theorem wkB_tr {a a' : VT} {H H' : VH} (h : wkB a H a' H' = true) {φ : Phi} {tmps : Array Value} (k : TR φ a tmps) : TR φ a' tmps := by
  unfold wkB at h
  split at h
  · rename_i _ h2
    intro t
    have := TT.all2_get (p := okT) rfl h2 t
    have kt := k t
    unfold tget at kt ⊢
    revert this kt
    generalize a.get t = x
    generalize a'.get t = y
    intro this kt
    cases x with
    | none => cases y with
      | none => exact kt
      | some y => cases y <;> first | (simp only [VR]; done) | (simp [okT] at this)
    | some x => cases y with
      | none => simp [okT] at this
      | some y =>
        simp only
        have hy : y = .any ∨ vvEq x y = true := by
          cases y <;> first | exact .inl rfl | exact .inr (by simpa only [okT] using this)
        rcases hy with rfl | hy
        · simp only [VR]
        · rw [← vvEq_eq _ _ hy]; exact kt
  · cases h
theorem wkB_sim [Ext] {a a' : VT} {H H' : VH} (h : wkB a H a' H' = true) (hb : H'.base = H.base) {w0 : World} {φ : Phi} {w : World} (k : HSim w0 φ H w) : HSim w0 φ H' w := by
  unfold wkB at h
  split at h
  · rename_i h1 _
    have hn : H.next = H'.next := Nat.eq_of_beq_eq_true h1
    have sub : ∀ i o, H'.locs.get i = some o → H.locs.get i = some o := by
      intro i o hi
      have := TT.all2_get (p := okL) rfl h i
      rw [hi] at this
      cases hx : H.locs.get i with
      | none => rw [hx] at this; simp [okL] at this
      | some x =>
        rw [hx] at this
        simp only [okL] at this
        rw [voEq_eq this]
    refine ⟨by rw [hb]; exact k.env, by rw [hb]; exact k.base, k.old, k.own, by rw [← hn]; exact k.small, fun i o hi => ?_, fun i j oi oj inf jnf hi hj => k.inj i j oi oj inf jnf (sub i oi hi) (sub j oj hj), by rw [← hn]; exact k.fresh, k.bound⟩
    rw [hb]
    exact k.live i o (sub i o hi)
  · cases h
/-! ### pieces of code -/
/-- What a piece of code does, from a state to a state. -/
def CS [Ext] (P : Program) (nt : Nat) (c : Code) (a : VT) (H : VH) (x : VX) (a₁ : VT) (H₁ : VH) : Prop :=
  nt ≤ top → ∀ (w0 : World) (φ : Phi) (act : Act) (w : World), TR φ a act.tmps → HSim w0 φ H w → nt ≤ act.tmps.size → ∀ b : Nat → Prop, (True → ∀ r, w.heap.size ≤ r → b r) → MarksOK b w0 φ H w act.defers → c.wpIn (Fr none) 0 P (PostC b w0 φ w act.tmps.size H x a₁ H₁) act w
/-- The same of a loop's rounds. -/
def LS [Ext] (P : Program) (nt : Nat) (c : Code) (a : VT) (H : VH) (x : VX) (a₁ : VT) (H₁ : VH) : Prop :=
  nt ≤ top → ∀ w0, LoopOK P (· = none) w0 nt c a H x a₁ H₁
def vxEq : VX → VX → Bool
  | .normal, .normal => true
  | .ret, .ret => true
  | .exit i, .exit j => Nat.beq i j
  | _, _ => false
theorem vxEq_eq {a b : VX} (h : vxEq a b = true) : a = b := by
  unfold vxEq at h
  split at h
  · rfl
  · rfl
  · rw [Nat.eq_of_beq_eq_true h]
  · cases h
def chkC (P : Program) (kn : KN) (n nt : Nat) (c : Code) (a : VT) (H : VH) (x : VX) (a₁ : VT) (H₁ : VH) : Bool :=
  match (evN P (drawRun P) kn n).1.1 nt c a H with
  | some (x', a', H') => match vxEq x' x with
    | true => wkB a' H' a₁ H₁
    | false => false
  | none => false
theorem PostC.weaken [Ext] {b : Nat → Prop} {w0 : World} {φ : Phi} {w : World} {sz : Nat} {H H₁ H₂ : VH} {x : VX} {a₁ a₂ : VT} (h : wkB a₁ H₁ a₂ H₂ = true) (hb : H₂.base = H.base) {e : Exit} {act' : Act} {w' : World} (k : PostC b w0 φ w sz H x a₁ H₁ e act' w') : PostC b w0 φ w sz H x a₂ H₂ e act' w' := by
  obtain ⟨φ', h1, h2, h3, h4, h5, h6, h7⟩ := k
  have hb' : H₂.base = H₁.base := hb.trans h5.symm
  exact ⟨φ', h1, h2, wkB_tr h h3, wkB_sim h hb' h4, hb, h6, h7.step (.refl φ' w') hb'⟩
section
variable {P : Program} {nt : Nat} {a a₁ a₂ : VT} {H H₁ H₂ : VH} {x : VX}
theorem CS.of_chk [Ext] (hng : NoNG P) (hm : P.follows .mixedOrders = true) {kn : KN} (hK : KnOK P kn) {n : Nat} {c : Code} (h : chkC P kn n nt c a H x a₁ H₁ = true) (hb : H₁.base = H.base) : CS P nt c a H x a₁ H₁ := by
  unfold chkC at h
  split at h
  · rename_i x' a' H' hr
    split at h
    · rename_i hx
      have := vxEq_eq hx
      subst this
      intro hnt w0 φ act w ht hs hn b hbs hd
      have := (evN_sound hng (fun _ h => drawRun_sound hng hm h) hK n).1.2 w0 nt c a H x' a' H' hr hnt none rfl φ act w ht hs hn b hbs hd
      exact wpIn_mono this fun e act' w' hp => hp.weaken h hb
    · cases h
  · cases h
theorem LS.of_chk [Ext] (hng : NoNG P) (hm : P.follows .mixedOrders = true) {kn : KN} (hK : KnOK P kn) {n : Nat} {c : Code} (h : chkC P kn n nt (.loop c) a H x a₁ H₁ = true) (hb : H₁.base = H.base) : LS P nt c a H x a₁ H₁ := by
  unfold chkC at h
  split at h
  · rename_i x' a' H' hr
    split at h
    · rename_i hx
      have := vxEq_eq hx
      subst this
      intro hnt w0
      obtain ⟨m, hm⟩ := (evN_sound hng (fun _ h => drawRun_sound hng hm h) hK n).1.1 w0 nt c a H x' a' H' hr hnt
      exact ⟨m, fun r hR φ act w ht hs hn b hbs hd Q hQ => hm r hR φ act w ht hs hn b hbs hd Q fun e act' w' hp => hQ _ _ _ (hp.weaken h hb)⟩
    · cases h
  · cases h
theorem CS.seq [Ext] {y z : Code} (h1 : CS P nt y a H .normal a₁ H₁) (h2 : CS P nt z a₁ H₁ x a₂ H₂) : CS P nt (.seq y z) a H x a₂ H₂ := by
  intro hnt w0 φ act w ht hs hn b hbs hd
  refine wpIn_seq ?_
  refine wpIn_mono (h1 hnt w0 φ act w ht hs hn b hbs hd) ?_
  intro e' act' w' hp
  obtain ⟨φ', rfl, k2, k3, k4, k5, k6, k7⟩ := hp
  have k' := h2 hnt w0 φ' act' w' k3 k4 (by omega) b (fun t r hr => hbs t r (by have := k2.wk.size; omega)) k7
  refine wpIn_mono k' ?_
  intro e'' act'' w'' hp'
  rw [k6] at hp'
  exact PostC.trans k2 k5 hp'
theorem CS.seqX [Ext] {y z : Code} (h1 : CS P nt y a H x a₁ H₁) (hx : x ≠ .normal) : CS P nt (.seq y z) a H x a₁ H₁ := by
  intro hnt w0 φ act w ht hs hn b hbs hd
  refine wpIn_seq ?_
  refine wpIn_mono (h1 hnt w0 φ act w ht hs hn b hbs hd) ?_
  intro e' act' w' hp
  cases x with
  | normal => exact absurd rfl hx
  | ret => obtain ⟨φ', rfl, k2⟩ := hp; exact ⟨φ', rfl, k2⟩
  | exit id => obtain ⟨φ', rfl, k2⟩ := hp; exact ⟨φ', rfl, k2⟩
theorem CS.cond [Ext] {o : Operand} {y z : Code} {v : Bool} (hc : evOperand a o = some (.bool v)) (h : CS P nt (match v with | true => y | false => z) a H x a₁ H₁) : CS P nt (.cond o y z) a H x a₁ H₁ := by
  intro hnt w0 φ act w ht hs hn b hbs hd
  have hv := evOperand_sound ht hc
  simp only [VR] at hv
  refine wpIn_cond hv ?_
  cases v with
  | true => exact h hnt w0 φ act w ht hs hn b hbs hd
  | false => exact h hnt w0 φ act w ht hs hn b hbs hd
def outB (id : Nat) : VX → VX
  | .exit j => match Nat.beq j id with
    | true => .normal
    | false => .exit j
  | x => x
theorem CS.block [Ext] {id : Nat} {c : Code} (h : CS P nt c a H x a₁ H₁) : CS P nt (.block id c) a H (outB id x) a₁ H₁ := by
  intro hnt w0 φ act w ht hs hn b hbs hd
  refine wpIn_block ?_
  refine wpIn_mono (h hnt w0 φ act w ht hs hn b hbs hd) ?_
  intro e' act' w' hp
  cases x with
  | normal => obtain ⟨φ', rfl, k2⟩ := hp; exact ⟨φ', rfl, k2⟩
  | ret => obtain ⟨φ', rfl, k2⟩ := hp; exact ⟨φ', rfl, k2⟩
  | exit j =>
    obtain ⟨φ', rfl, k2⟩ := hp
    simp only [VX.real, Exit.inBlock, outB]
    cases hj : Nat.beq j id with
    | true => rw [if_pos (Nat.eq_of_beq_eq_true hj)]; exact ⟨φ', rfl, k2⟩
    | false => rw [if_neg (by intro e; rw [e] at hj; simp at hj)]; exact ⟨φ', rfl, k2⟩
theorem LS.next [Ext] {c : Code} (h1 : CS P nt c a H .normal a₁ H₁) (h2 : LS P nt c a₁ H₁ x a₂ H₂) : LS P nt c a H x a₂ H₂ := by
  intro hnt w0
  obtain ⟨m, hm⟩ := h2 hnt w0
  refine ⟨m + 1, fun r hR φ act w ht hs hn b hbs hd Q hQ => ?_⟩
  rw [roundsIn_succ]
  subst hR
  refine wpIn_mono (h1 hnt w0 φ act w ht hs hn b hbs hd) ?_
  intro e act' w' hp
  obtain ⟨φ', rfl, k2, k3, k4, k5, k6, k7⟩ := hp
  refine hm none rfl φ' act' w' k3 k4 (by omega) b (fun t r hr => hbs t r (by have := k2.wk.size; omega)) k7 Q fun e'' act'' w'' hp' => hQ e'' act'' w'' ?_
  rw [k6] at hp'
  exact PostC.trans k2 k5 hp'
theorem CS.loop [Ext] {c : Code} (h : LS P nt c a H x a₁ H₁) : CS P nt (.loop c) a H x a₁ H₁ := by
  intro hnt w0 φ act w ht hs hn b hbs hd
  exact (h hnt w0).wp none rfl φ act w ht hs hn b hbs hd
/-- A call, of its body. -/
theorem CS.call [Ext] {f : FuncId} {fn : Func} {c : Code} {args : List VV} {l : List VV} (hf : P.funcs[f]? = some fn) (hc : fn.body = some c) (h1 : Nat.ble args.length fn.ntmps = true) (h2 : Nat.ble fn.ntmps top = true) (h : CS P fn.ntmps c (listT args 0 .lf) H x a₁ H₁) (hx : ∀ id, x ≠ .exit id) (hr : resL P a₁ H₁ fn.results.toList = some l) (w0 : World) :
    CallOK P w0 f args H fun u K => u = oneV l ∧ K = H₁ := by
  classical
  let rc : CE := fun nt' c' a' H' => if nt' = fn.ntmps ∧ c' = c ∧ a' = listT args 0 .lf ∧ H' = H then some (x, a₁, H₁) else none
  have hrc : CEok P (· = none) rc := by
    intro w0 nt' c' a' H' x' a₁' H₁' hq hb r hR φ act w ht hs hn b hbs hd
    by_cases hk : nt' = fn.ntmps ∧ c' = c ∧ a' = listT args 0 .lf ∧ H' = H
    · simp only [rc, if_pos hk, Option.some.injEq, Prod.mk.injEq] at hq
      obtain ⟨rfl, rfl, rfl⟩ := hq
      obtain ⟨rfl, rfl, rfl, rfl⟩ := hk
      subst hR
      exact h hb w0 φ act w ht hs hn b hbs hd
    · simp only [rc, if_neg hk] at hq
      cases hq
  refine stepF_sound (R := (· = none)) rfl hrc w0 f args H (oneV l) H₁ ?_
  unfold stepF
  simp only [hf, hc, h1, h2, rc, if_true, and_self, hr]
end
/-! ### the parts of a code, one behind the other -/
def dropSeq : Nat → Code → Code
  | 0, c => c
  | n + 1, c => match c with
    | .seq _ y => dropSeq n y
    | c => c
/-- The first parts. -/
def spineE (rc : CE) (nt : Nat) : Nat → Code → VT → VH → Option (VT × VH)
  | 0, _, a, H => some (a, H)
  | n + 1, c, a, H => match c with
    | .seq x y => match rc nt x a H with
      | some (.normal, a₁, H₁) => spineE rc nt n y a₁ H₁
      | _ => none
    | _ => none
def chkS (P : Program) (kn : KN) (n nt k : Nat) (c : Code) (a : VT) (H : VH) (a₁ : VT) (H₁ : VH) : Bool :=
  match spineE (evN P (drawRun P) kn n).1.1 nt k c a H with
  | some (a', H') => wkB a' H' a₁ H₁
  | none => false
section
variable {P : Program} {nt : Nat}
theorem spine_sound [Ext] {rc : CE} (hrc : CEok P (· = none) rc) {x : VX} {a₂ : VT} {H₂ : VH} : ∀ {k : Nat} {c : Code} {a : VT} {H : VH} {a₁ : VT} {H₁ : VH}, spineE rc nt k c a H = some (a₁, H₁) → (H₁.base = H.base → CS P nt (dropSeq k c) a₁ H₁ x a₂ H₂) → CS P nt c a H x a₂ H₂
  | 0, c, a, H, a₁, H₁, h, k2 => by
    simp only [spineE, Option.some.injEq, Prod.mk.injEq] at h
    obtain ⟨rfl, rfl⟩ := h
    exact k2 rfl
  | k + 1, c, a, H, a₁, H₁, h, k2 => by
    cases c with
    | seq y z =>
      simp only [spineE] at h
      split at h
      · rename_i a' H' hy
        intro hnt w0 φ act w ht hs hn b hbs hd
        refine wpIn_seq ?_
        refine wpIn_mono (hrc w0 nt y a H .normal a' H' hy hnt none rfl φ act w ht hs hn b hbs hd) ?_
        intro e' act' w' hp
        obtain ⟨φ', rfl, q2, q3, q4, q5, q6, q7⟩ := hp
        have := spine_sound hrc h (fun e => k2 (e.trans q5)) hnt w0 φ' act' w' q3 q4 (by omega) b (fun t r hr => hbs t r (by have := q2.wk.size; omega)) q7
        refine wpIn_mono this ?_
        intro e'' act'' w'' hp'
        rw [q6] at hp'
        exact PostC.trans q2 q5 hp'
      · cases h
    | _ => simp [spineE] at h
theorem CS.pre [Ext] {c : Code} {a a' : VT} {H H' : VH} {x : VX} {a₁ : VT} {H₁ : VH} (h : wkB a H a' H' = true) (hb : H'.base = H.base) (k : CS P nt c a' H' x a₁ H₁) : CS P nt c a H x a₁ H₁ := by
  intro hnt w0 φ act w ht hs hn b hbs hd
  refine wpIn_mono (k hnt w0 φ act w (wkB_tr h ht) (wkB_sim h hb hs) hn b hbs (hd.step (.refl φ w) hb)) ?_
  intro e act' w' hp
  obtain ⟨φ', h1, h2, h3, h4, h5, h6, h7⟩ := hp
  exact ⟨φ', h1, h2, h3, h4, h5.trans hb, h6, h7⟩
/-- The first parts in one run; the others behind it. -/
theorem CS.spine [Ext] (hng : NoNG P) (hm : P.follows .mixedOrders = true) {kn : KN} (hK : KnOK P kn) {n k : Nat} {c : Code} {a a₁ a₂ : VT} {H H₁ H₂ : VH} {x : VX}
    (h : chkS P kn n nt k c a H a₁ H₁ = true) (hb : H₁.base = H.base) (h2 : CS P nt (dropSeq k c) a₁ H₁ x a₂ H₂) : CS P nt c a H x a₂ H₂ := by
  unfold chkS at h
  split at h
  · rename_i a' H' hs
    exact spine_sound (evN_sound hng (fun _ h => drawRun_sound hng hm h) hK n).1.2 hs fun e => CS.pre h (hb.trans e.symm) h2
  · cases h
end
end
/-! ### the parts of a code by their places -/
def seqL : Code → Code
  | .seq x _ => x
  | c => c
def isSeq : Code → Bool
  | .seq _ _ => true
  | _ => false
def blockC : Code → Code
  | .block _ c => c
  | c => c
def isBlock (id : Nat) : Code → Bool
  | .block j _ => Nat.beq j id
  | _ => false
def loopC : Code → Code
  | .loop c => c
  | c => c
def isLoop : Code → Bool
  | .loop _ => true
  | _ => false
def condC (v : Bool) : Code → Code
  | .cond _ y z => match v with
    | true => y
    | false => z
  | c => c
def isCond (a : VT) (v : Bool) : Code → Bool
  | .cond o _ _ => match evOperand a o with
    | some (.bool u) => bEq u v
    | _ => false
  | _ => false
/-- So many rounds. -/
def roundsE (rc : CE) (nt : Nat) : Nat → Code → VT → VH → Option (VT × VH)
  | 0, _, a, H => some (a, H)
  | n + 1, c, a, H => match rc nt c a H with
    | some (.normal, a₁, H₁) => roundsE rc nt n c a₁ H₁
    | _ => none
def chkR (P : Program) (kn : KN) (n nt k : Nat) (c : Code) (a : VT) (H : VH) (a₁ : VT) (H₁ : VH) : Bool :=
  match roundsE (evN P (drawRun P) kn n).1.1 nt k c a H with
  | some (a', H') => wkB a' H' a₁ H₁
  | none => false
section
variable {P : Program} {nt : Nat} {a a₁ a₂ : VT} {H H₁ H₂ : VH} {x : VX}
theorem CS.seqAt [Ext] {c : Code} (h : isSeq c = true) (h1 : CS P nt (seqL c) a H .normal a₁ H₁) (h2 : CS P nt (dropSeq 1 c) a₁ H₁ x a₂ H₂) : CS P nt c a H x a₂ H₂ := by
  cases c <;> simp [isSeq] at h
  exact CS.seq h1 h2
theorem CS.seqXAt [Ext] {c : Code} (h : isSeq c = true) (h1 : CS P nt (seqL c) a H x a₁ H₁) (hx : x ≠ .normal) : CS P nt c a H x a₁ H₁ := by
  cases c <;> simp [isSeq] at h
  exact CS.seqX h1 hx
theorem CS.blockAt [Ext] {c : Code} {id : Nat} (h : isBlock id c = true) (h1 : CS P nt (blockC c) a H x a₁ H₁) : CS P nt c a H (outB id x) a₁ H₁ := by
  cases c <;> simp [isBlock] at h
  subst h
  exact CS.block h1
theorem CS.loopAt [Ext] {c : Code} (h : isLoop c = true) (h1 : LS P nt (loopC c) a H x a₁ H₁) : CS P nt c a H x a₁ H₁ := by
  cases c <;> simp [isLoop] at h
  exact CS.loop h1
theorem CS.condAt [Ext] {c : Code} {v : Bool} (h : isCond a v c = true) (h1 : CS P nt (condC v c) a H x a₁ H₁) : CS P nt c a H x a₁ H₁ := by
  cases c with
  | cond o y z =>
    simp only [isCond] at h
    split at h
    · rename_i u hu
      have := bEq_eq h
      subst this
      refine CS.cond hu ?_
      cases u <;> exact h1
    · cases h
  | _ => simp [isCond] at h
def LSm [Ext] (P : Program) (nt : Nat) (w0 : World) (m : Nat) (c : Code) (a : VT) (H : VH) (x : VX) (a₁ : VT) (H₁ : VH) : Prop :=
  ∀ (r : Option Nat), r = none → ∀ (φ : Phi) (act : Act) (w : World), TR φ a act.tmps → HSim w0 φ H w → nt ≤ act.tmps.size → ∀ b : Nat → Prop, (True → ∀ r, w.heap.size ≤ r → b r) → MarksOK b w0 φ H w act.defers → ∀ Q : Exit → Act → World → Prop, (∀ e act' w', PostC b w0 φ w act.tmps.size H x a₁ H₁ e act' w' → Q e act' w') →
    Code.roundsIn (Fr r) 0 P c Q m act w
theorem rounds_sound [Ext] {rc : CE} (hrc : CEok P (· = none) rc) (hnt : nt ≤ top) {w0 : World} {m : Nat} {c : Code} (h2 : LSm P nt w0 m c a₁ H₁ x a₂ H₂) : ∀ {k : Nat} {a : VT} {H : VH} {a' : VT} {H' : VH}, roundsE rc nt k c a H = some (a', H') → wkB a' H' a₁ H₁ = true → H₁.base = H.base → LSm P nt w0 (m + k) c a H x a₂ H₂
  | 0, a, H, a', H', h, hw, hb => by
    simp only [roundsE, Option.some.injEq, Prod.mk.injEq] at h
    obtain ⟨rfl, rfl⟩ := h
    refine fun r hR φ act w ht hs hn b hbs hd Q hQ => h2 r hR φ act w (wkB_tr hw ht) (wkB_sim hw hb hs) hn b hbs (hd.step (.refl φ w) hb) Q fun e act' w' hp => hQ e act' w' ?_
    obtain ⟨φ', h1, h2, h3, h4, h5, h6, h7⟩ := hp
    exact ⟨φ', h1, h2, h3, h4, h5.trans hb, h6, h7⟩
  | k + 1, a, H, a', H', h, hw, hb => by
    simp only [roundsE] at h
    split at h
    · rename_i a3 H3 hy
      intro r hR φ act w ht hs hn b hbs hd Q hQ
      subst hR
      rw [← Nat.add_assoc, roundsIn_succ]
      refine wpIn_mono (hrc w0 nt c a H .normal a3 H3 hy hnt none rfl φ act w ht hs hn b hbs hd) ?_
      intro e act' w' hp
      obtain ⟨φ', rfl, q2, q3, q4, q5, q6, q7⟩ := hp
      refine rounds_sound hrc hnt h2 h hw (hb.trans q5.symm) none rfl φ' act' w' q3 q4 (by omega) b (fun t r hr => hbs t r (by have := q2.wk.size; omega)) q7 Q fun e'' act'' w'' hp' => hQ e'' act'' w'' ?_
      rw [q6] at hp'
      exact PostC.trans q2 q5 hp'
    · cases h
/-- The first rounds in one run; the others behind them. -/
theorem LS.rounds [Ext] (hng : NoNG P) (hm : P.follows .mixedOrders = true) {kn : KN} (hK : KnOK P kn) {n k : Nat} {c : Code}
    (h : chkR P kn n nt k c a H a₁ H₁ = true) (hb : H₁.base = H.base) (h2 : LS P nt c a₁ H₁ x a₂ H₂) : LS P nt c a H x a₂ H₂ := by
  unfold chkR at h
  split at h
  · rename_i a' H' hs
    intro hnt w0
    obtain ⟨m, hm'⟩ := h2 hnt w0
    exact ⟨m + k, rounds_sound (evN_sound hng (fun _ h => drawRun_sound hng hm h) hK n).1.2 hnt hm' hs h hb⟩
  · cases h
end
/-- A closed law, of its body. -/
theorem cs_calls {P : Program} {f : FuncId} {fn : Func} {c : Code} {x : VX} {a₁ : VT} {H₁ : VH} (hf : P.funcs[f]? = some fn) (hc : fn.body = some c) (h2 : Nat.ble fn.ntmps top = true) (h : CS P fn.ntmps c .lf ⟨Env.none, .lf, 0⟩ x a₁ H₁) (hx : ∀ id, x ≠ .exit id) (hr : resL P a₁ H₁ fn.results.toList = some [.bool true]) (w : World) :
    Calls P f #[] w fun e w' => e = .returned (.bool true) ∧ Below w.heap.size w w' := by
  have hc' := h.call hf hc (args := []) rfl h2 hx hr w phi0 w [] (by simp [VRs]) (HSim.start w)
  refine hc'.mono ?_
  rintro e w' ⟨u, v', φ', H'', rfl, k1, k2, k3, _, rfl, rfl⟩
  simp only [oneV, VR] at k2
  subst k2
  exact ⟨rfl, below_of k1 k3⟩
end
end Go.Ev
