/- Engine, part 4: automata over an index. -/
import Derived.Test.YtgbpkilegbechaaEv3
namespace Go.Ev
set_option linter.unusedVariables false
noncomputable section
open Go.RowKit
/-! ### automata over an index -/
inductive Rd (C : List CutP) (v : Nat → Nat → Int) (I : Nat → Nat → Prop) : Nat → Nat → VV → Prop where
  | ret {p i : Nat} {c : CutP} {r : VV} : lget C p = some c → I p i → valX c.tr (v i) = .ret r → Rd C v I p i r
  | next {p i q : Nat} {c : CutP} {r : VV} {k : IntKind} {j : Nat} : lget C p = some c → I p i → valX c.tr (v i) = .goto q [.sint k j] → Rd C v I q (i + 1) r → Rd C v I p i r
  | zero {p i q : Nat} {c : CutP} {r : VV} {k : IntKind} {z : Int} : lget C p = some c → I p i → valX c.tr (v i) = .goto q [.int k z] → Rd C v I q 0 r → Rd C v I p i r
def okLeaf (nC : Nat) (inL : Bool) (j : Nat) : Leaf → Bool
  | .ret r => match r with
    | .int _ _ | .bool _ => true
    | _ => false
  | .goto q xs => match xs with
    | [.int .i64 z] => match Nat.blt 0 q, Nat.blt q nC with
      | true, true => decide (z = 0)
      | _, _ => false
    | [.sint .i64 k] => match inL, Nat.beq k j, Nat.blt 0 q with
      | true, true, true => Nat.blt q nC
      | _, _, _ => false
    | _ => false
def allL (p : Leaf → Bool) : TrX Leaf → Bool
  | .leaf o => p o
  | .cut _ _ l r => match allL p l with
    | true => allL p r
    | false => false
  | .rel _ _ _ l r => match allL p l with
    | true => allL p r
    | false => false
theorem allL_ok {p : Leaf → Bool} {v : Nat → Int} : ∀ {t : TrX Leaf}, allL p t = true → p (valX t v) = true
  | .leaf o, h => h
  | .cut i c l r, h => by
    simp only [allL] at h
    split at h
    · rename_i h1
      simp only [valX]
      split
      · exact allL_ok h1
      · exact allL_ok h
    · cases h
  | .rel k i j l r, h => by
    simp only [allL] at h
    split at h
    · rename_i h1
      simp only [valX]
      split
      · exact allL_ok h1
      · exact allL_ok h
    · cases h
/-- Goes a cut on by an index that is below its bound? -/
def shapeX (nC ia ib ij : Nat) : TrX Leaf → Bool
  | .rel k a b l r => match Nat.beq a ia, Nat.beq b ib with
    | true, true => match allL (okLeaf nC true ij) l with
      | true => allL (okLeaf nC false ij) r
      | false => false
    | _, _ => allL (okLeaf nC false ij) (.rel k a b l r)
  | t => allL (okLeaf nC false ij) t
def ixOK (ia : Nat) : List VV → Bool
  | [.sint .i64 k] => Nat.beq k ia
  | _ => false
def shapeC (nC ia ib ij : Nat) : Nat → List CutP → Bool
  | _, [] => true
  | n, c :: l => match (match n with | 0 => true | _ + 1 => ixOK ia c.ys), shapeX nC ia ib ij c.tr with
    | true, true => shapeC nC ia ib ij (n + 1) l
    | _, _ => false
theorem shapeC_get {nC ia ib ij : Nat} : ∀ {C : List CutP} {n p : Nat} {c : CutP}, shapeC nC ia ib ij n C = true → lget C p = some c → shapeX nC ia ib ij c.tr = true ∧ (n + p ≠ 0 → ixOK ia c.ys = true)
  | [], _, _, _, _, h => by simp [lget] at h
  | x :: l, n, p, c, hs, h => by
    simp only [shapeC] at hs
    split at hs
    · rename_i h1 h2
      cases p with
      | zero =>
        simp only [lget, Option.some.injEq] at h
        subst h
        refine ⟨h2, fun hn => ?_⟩
        cases n with
        | zero => exact absurd rfl hn
        | succ n => exact h1
      | succ p =>
        obtain ⟨g1, g2⟩ := shapeC_get hs (by simpa only [lget] using h)
        exact ⟨g1, fun hn => g2 (by omega)⟩
    · cases hs
/-- What a leaf says: it tells a value; it goes on at the next index, which is one; it begins anew. -/
theorem leaf_cases {nC ia ib ij : Nat} {t : TrX Leaf} {v : Nat → Int} (h : shapeX nC ia ib ij t = true) :
    (∃ r, valX t v = .ret r ∧ okLeaf nC true ij (.ret r) = true) ∨ (∃ q, valX t v = .goto q [.sint .i64 ij] ∧ 0 < q ∧ q < nC ∧ v ia < v ib) ∨ (∃ q, valX t v = .goto q [.int .i64 0] ∧ 0 < q ∧ q < nC) := by
  have base : ∀ (inL : Bool) (o : Leaf), (inL = true → v ia < v ib) → okLeaf nC inL ij o = true → (∃ r, o = .ret r ∧ okLeaf nC true ij (.ret r) = true) ∨ (∃ q, o = .goto q [.sint .i64 ij] ∧ 0 < q ∧ q < nC ∧ v ia < v ib) ∨ (∃ q, o = .goto q [.int .i64 0] ∧ 0 < q ∧ q < nC) := by
    intro inL o hin ho
    cases o with
    | ret r => exact .inl ⟨r, rfl, ho⟩
    | goto q xs =>
      simp only [okLeaf] at ho
      split at ho
      · split at ho
        · rename_i h1 h2
          rw [of_decide_eq_true ho]
          exact .inr (.inr ⟨q, rfl, lt_of_blt h1, lt_of_blt h2⟩)
        · cases ho
      · split at ho
        · rename_i h0 h1 h2
          rw [Nat.eq_of_beq_eq_true h1]
          exact .inr (.inl ⟨q, rfl, lt_of_blt h2, lt_of_blt ho, hin rfl⟩)
        · cases ho
      · cases ho
  cases t with
  | leaf o => exact base false _ (fun h => by cases h) (allL_ok (v := v) h)
  | cut i c l r => exact base false _ (fun h => by cases h) (allL_ok (v := v) h)
  | rel k a b l r =>
    simp only [shapeX] at h
    split at h
    · rename_i h1 h2
      have e1 := Nat.eq_of_beq_eq_true h1
      have e2 := Nat.eq_of_beq_eq_true h2
      subst e1 e2
      split at h
      · rename_i h3
        simp only [valX]
        split
        · rename_i hlt
          exact base true _ (fun _ => hlt) (allL_ok (v := v) h3)
        · exact base false _ (fun h => by cases h) (allL_ok (v := v) h)
      · cases h
    · exact base false _ (fun h => by cases h) (allL_ok (v := v) h)
theorem ix_runs [Ext] {C : List CutP} {I : Nat → Nat → Prop} {w0 : World} {ia ib ij n nC : Nat} {rho : Nat → Rho} (hs : shapeC nC ia ib ij 0 C = true) (hn : nC = C.length) (ha : ∀ i, (rho i).int ia = i) (hb : ∀ i, (rho i).int ib = n) (hj : ∀ i, i < n → (rho i).int ij = (i : Int) + 1)
    (hN : ∀ p c, lget C p = some c → p ≠ 0 → ∀ i j, agree c.N (rho i) (rho j)) (hOK : ∀ p c, lget C p = some c → ∀ i, i ≤ n → I p i → c.OK w0 (rho i)) {p i : Nat} {r : VV} (hr : Rd C (fun i => (rho i).int) I p i r) (hi : i ≤ n) {res : Value} (hres : ∀ ρ, sval ρ r = some res) : ∃ k, Runs C w0 res k p (rho i) := by
  have getq : ∀ {q : Nat}, q < nC → ∃ d, lget C q = some d := fun {q} hq => by
    rw [lget_eq]
    exact ⟨C[q]'(by omega), by simp [show q < C.length by omega]⟩
  have ixq : ∀ {q : Nat} {d : CutP}, lget C q = some d → 0 < q → d.ys = [.sint .i64 ia] := fun {q d} hd hq => by
    have := (shapeC_get hs hd).2 (by omega)
    unfold ixOK at this
    split at this
    · rename_i k e
      rw [Nat.eq_of_beq_eq_true this] at e
      exact e
    · cases this
  induction hr with
  | ret h1 hI h2 => exact run_ret h1 (hOK _ _ h1 _ hi hI) h2 (hres _)
  | next h1 hI h2 h3 ih =>
    rename_i p i q c r k j
    rcases leaf_cases (v := (rho i).int) (shapeC_get hs h1).1 with ⟨r', e, _⟩ | ⟨q', e, g0, g1, g2⟩ | ⟨q', e, g0, g1⟩
    · rw [h2] at e; cases e
    · rw [h2] at e
      cases e
      rw [ha, hb] at g2
      obtain ⟨d, hd⟩ := getq g1
      have ht := ixq hd g0
      refine run_step h1 (hOK _ _ h1 _ hi hI) h2 hd (hN _ _ hd (by omega) _ _) ?_ (ih (by omega) hres)
      rw [ht]
      refine ⟨⟨_, rfl, ?_⟩, trivial⟩
      simp only [sval, ha, hj i (by omega)]
      rfl
    · rw [h2] at e; cases e
  | zero h1 hI h2 h3 ih =>
    rename_i p i q c r k z
    rcases leaf_cases (v := (rho i).int) (shapeC_get hs h1).1 with ⟨r', e, _⟩ | ⟨q', e, g0, g1, g2⟩ | ⟨q', e, g0, g1⟩
    · rw [h2] at e; cases e
    · rw [h2] at e; cases e
    · rw [h2] at e
      cases e
      obtain ⟨d, hd⟩ := getq g1
      have ht := ixq hd g0
      refine run_step h1 (hOK _ _ h1 _ hi hI) h2 hd (hN _ _ hd (by omega) _ _) ?_ (ih (by omega) hres)
      rw [ht]
      refine ⟨⟨_, rfl, ?_⟩, trivial⟩
      simp only [sval, ha]
      rfl
/-- What is less, by a fact. -/
theorem lss_of {ρ : Rho} {k k' : IntKind} {a b : Nat} (P : Program) (w : World) (h : FactOK ρ (.bin .lss (.sint k a) (.sint k' b) (.bool true))) : ρ.int a < ρ.int b := by
  obtain ⟨x, y, v, h1, h2, h3, _, _, h4⟩ := h
  simp only [sval, Option.some.injEq] at h1 h2 h3
  subst h1 h2 h3
  have := h4 P 0 w
  by_cases hk : k = k'
  · subst hk
    simp [binOp, Op.intCmp] at this
    exact this
  · simp [binOp, hk] at this
/-! ### loops that search, loops that gather -/
def allF (g : Nat → Bool) : Nat → Nat → Bool
  | 0, _ => true
  | m + 1, i => g i && allF g m (i + 1)
theorem allF_iff {g : Nat → Bool} : ∀ {m i : Nat}, allF g m i = true ↔ ∀ l, i ≤ l → l < i + m → g l = true
  | 0, i => ⟨fun _ l h1 h2 => by omega, fun _ => rfl⟩
  | m + 1, i => by
    simp only [allF, Bool.and_eq_true, allF_iff (m := m)]
    exact ⟨fun ⟨h1, h2⟩ l h3 h4 => by
      by_cases e : l = i
      · subst e; exact h1
      · exact h2 l (by omega) (by omega), fun h => ⟨h i (Nat.le_refl _) (by omega), fun l h1 h2 => h l (by omega) (by omega)⟩⟩
theorem rd_search {C : List CutP} {v : Nat → Nat → Int} {I : Nat → Nat → Prop} {p n j : Nat} {k : IntKind} {c : CutP} {g : Nat → Bool} {rB rG : VV} (hc : lget C p = some c) (hI : ∀ i, i ≤ n → I p i) (hstep : ∀ i, i < n → valX c.tr (v i) = if g i = true then .goto p [.sint k j] else .ret rB) (hend : Rd C v I p n rG) :
    ∀ m i, i + m = n → Rd C v I p i (if allF g m i = true then rG else rB)
  | 0, i, h => by
    have e : i = n := by omega
    subst e
    exact hend
  | m + 1, i, h => by
    have hi := hstep i (by omega)
    have ih := rd_search hc hI hstep hend m (i + 1) (by omega)
    by_cases hg : g i = true
    · rw [if_pos hg] at hi
      refine .next hc (hI _ (by omega)) hi ?_
      simp only [allF, hg, Bool.true_and]
      exact ih
    · rw [if_neg hg] at hi
      simp only [allF, hg, Bool.false_and]
      exact .ret hc (hI _ (by omega)) hi
def isGo : Leaf → Bool
  | .goto _ _ => true
  | _ => false
/-- A leaf goes on in one way, or tells one number. -/
def goOr (q j : Nat) (z : Int) : Leaf → Bool
  | .goto q' xs => match xs with
    | [.sint .i64 k] => match Nat.beq q' q with
      | true => Nat.beq k j
      | false => false
    | _ => false
  | .ret r => match r with
    | .int .i64 y => decide (y = z)
    | _ => false
theorem goOr_ok {q j : Nat} {z : Int} {o : Leaf} (h : goOr q j z o = true) : o = if isGo o = true then .goto q [.sint .i64 j] else .ret (.int .i64 z) := by
  cases o with
  | goto q' xs =>
    simp only [goOr] at h
    split at h
    · split at h
      · rename_i h1
        rw [Nat.eq_of_beq_eq_true h1, Nat.eq_of_beq_eq_true h]
        rfl
      · cases h
    · cases h
  | ret r =>
    simp only [goOr] at h
    split at h
    · rw [of_decide_eq_true h]
      rfl
    · cases h
def AllIv : Ivs → (Nat → Int) → Prop
  | [], _ => True
  | (a, b) :: l, f => (a ≤ f 0 ∧ f 0 ≤ b) ∧ AllIv l fun i => f (i + 1)
theorem iv_all {f : Nat → Int} : ∀ {l : Ivs}, AllIv l f → (∀ i, -9223372036854775808 ≤ f i ∧ f i ≤ 9223372036854775807) → ∀ i, (ivAt l i).1 ≤ f i ∧ f i ≤ (ivAt l i).2
  | [], _, hr => ivs_nil hr
  | (_, _) :: l, h, hr => ivs_cons h.1 (fun i => iv_all (f := fun i => f (i + 1)) h.2 (fun i => hr (i + 1)) i)
/-- A function by its cuts, at states that an index tells. -/
theorem ix_calls {P : Program} {KT : List KE} {m : Nat} {fn : Func} {body : Code} {S : List Nat} {fuel : Nat} {C : List CutP} (A : @Auto (extKT P KT) P (rcKT P KT m) fn body S fuel C (fun _ => none)) {f : FuncId} (hf : P.funcs[f]? = some fn) (hbody : fn.body = some body) {args : List VV} {args' : List Value}
    (h1 : Nat.ble args.length fn.ntmps = true) {c0 : CutP} (hc : lget C 0 = some c0) (e1 : c0.lab = none) (e2 : c0.a0 = listT args 0 .lf) (e4 : c0.l = .lf) (e5 : c0.nH = 0) {I : Nat → Nat → Prop} {w0 : World} {ia ib ij n nC : Nat} {rho : Nat → Rho} (hs : shapeC nC ia ib ij 0 C = true) (hn : nC = C.length)
    (ha : ∀ i, (rho i).int ia = i) (hb : ∀ i, (rho i).int ib = n) (hj : ∀ i, i < n → (rho i).int ij = (i : Int) + 1) (hN : ∀ p c, lget C p = some c → p ≠ 0 → ∀ i j, agree c.N (rho i) (rho j)) (ext : ∀ i, i ≤ n → ∀ e ∈ KT, KEok P (rho i) w0 e)
    (hOK : ∀ p c, lget C p = some c → ∀ i, i ≤ n → I p i → IvOK c.iv (rho i) ∧ ∀ iv fs, IvOK iv (rho i) → FsOK fs (rho i) → ∀ φ : Phi, φ.ρ = rho i → EnvP (c.E iv fs) φ w0) {r : VV} {res : Value} (hres : ∀ ρ, sval ρ r = some res) (hr : Rd C (fun i => (rho i).int) I 0 0 r) (hargs : VRs ⟨fun _ => none, rho 0⟩ args args') :
    Calls P f ⟨args'⟩ w0 fun e w' => e = .returned res ∧ Below w0.heap.size w0 w' := by
  letI : Ext := extKT P KT
  obtain ⟨k, hk⟩ := ix_runs hs hn ha hb hj hN (fun p c hp i hi hI => CutP.ok_of (ext i hi) (hOK p c hp i hi hI).1 (hOK p c hp i hi hI).2) hr (Nat.zero_le _) hres
  exact auto_calls A hf hbody h1 hc e1 e2 e4 e5 (fun r b h => by cases h) hargs hk
/-! ### trees held against each other, with intervals drawn closer by relations -/
section
variable {α β : Type}
end
end
end Go.Ev
