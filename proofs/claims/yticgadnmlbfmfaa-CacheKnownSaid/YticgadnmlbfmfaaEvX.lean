/- Engine, part X: states of which less and less is said: loops over what the symbols stand for, one after the other. -/
import Derived.Test.YticgadnmlbfmfaaEvW
namespace Go.Ev
noncomputable section
open Go.RowKit
/-- A state at which the symbols stand for something that is so. -/
def RS [Ext] (w0 : World) (R : Rho → Prop) (sz : Nat) (a : VT) (H : VH) (act : Act) (w : World) : Prop :=
  ∃ φ : Phi, R φ.ρ ∧ TR φ a act.tmps ∧ HSim w0 φ H w ∧ WK w0 w ∧ act.tmps.size = sz ∧ MarksOK (fun r => w0.heap.size ≤ r) w0 φ H w act.defers
theorem RS.cs [Ext] {P : Program} {w0 : World} {R : Rho → Prop} {sz nt : Nat} {c : Code} {a a₁ : VT} {H H₁ : VH} {x : VX} (h : CS P nt c a H x a₁ H₁) (hnt : nt ≤ top) (hsz : nt ≤ sz) {act : Act} {w : World} (k : RS w0 R sz a H act w) :
    c.wpIn (Fr none) 0 P (fun e act' w' => e = x.real ∧ H₁.base = H.base ∧ RS w0 R sz a₁ H₁ act' w') act w := by
  obtain ⟨φ, k1, k2, k3, k4, k5, k6⟩ := k
  refine wpIn_mono (h hnt w0 φ act w k2 k3 (by omega) (fun r => w0.heap.size ≤ r) (fun _ r hr => Nat.le_trans k4.size hr) k6) ?_
  rintro e act' w' ⟨φ', h1, h2, h3, h4, h5, h6, h7⟩
  exact ⟨h1, h5, φ', by rw [h2.le.2]; exact k1, h3, h4, k4.trans h2.wk, h6.trans k5, h7⟩
theorem RS.mono [Ext] {w0 : World} {R R' : Rho → Prop} {sz : Nat} {a : VT} {H : VH} {act : Act} {w : World} (k : RS w0 R sz a H act w) (h : ∀ ρ, R ρ → R' ρ) : RS w0 R' sz a H act w :=
  let ⟨φ, k1, k2⟩ := k
  ⟨φ, h _ k1, k2⟩
/-- Other facts of the same symbols. -/
theorem RS.env [Ext] {w0 : World} {R : Rho → Prop} {sz : Nat} {a : VT} {E E' : Env} {l : TT VO} {n : Nat} {act : Act} {w : World} (k : RS w0 R sz a ⟨E, l, n⟩ act w) (hb : E'.blk = E.blk) (hE : ∀ φ : Phi, R φ.ρ → EnvOK E φ w0 → EnvOK E' φ w0) : RS w0 R sz a ⟨E', l, n⟩ act w := by
  obtain ⟨φ, k1, k2, k3, k4, k5, rs, m1, m2, m3⟩ := k
  refine ⟨φ, k1, k2, ⟨hE φ k1 k3.env, ?_, k3.old, k3.own, k3.small, ?_, k3.inj, k3.fresh, k3.bound⟩, k4, k5, rs, m1, m2, ?_⟩
  · intro r b h
    exact k3.base r b (by rw [← hb]; exact h)
  · intro i o h
    obtain ⟨inf, o', h1, h2, h3, h4⟩ := k3.live i o h
    exact ⟨inf, o', h1, h2, h3, by show E'.blk inf.blk = none; rw [hb]; exact h4⟩
  · intro r hr
    obtain ⟨q1, q2, q3, q4, q5⟩ := m3 r hr
    exact ⟨q1, q2, q3, q4, by show E'.blk r = none; rw [hb]; exact q5⟩
/-- Loops, by how many rounds are left at most. -/
theorem loop_inv {P : Program} {c : Code} {Q : Exit → Act → World → Prop} (Inv : Nat → Act → World → Prop)
    (h0 : ∀ act w, Inv 0 act w → c.wpIn (Fr none) 0 P (fun e act' w' => e ≠ .normal ∧ Q e act' w') act w)
    (hs : ∀ k act w, Inv (k + 1) act w → c.wpIn (Fr none) 0 P (fun e act' w' => (e = .normal ∧ Inv k act' w') ∨ (e ≠ .normal ∧ Q e act' w')) act w) :
    ∀ k act w, Inv k act w → (Code.loop c).wpIn (Fr none) 0 P Q act w := by
  intro k act w hi
  refine wpIn_loop_rounds (k + 1) ?_
  induction k generalizing act w with
  | zero =>
    rw [roundsIn_succ]
    refine wpIn_mono (h0 act w hi) ?_
    rintro e act' w' ⟨hne, hq⟩
    cases e <;> first | exact absurd rfl hne | exact hq
  | succ k ih =>
    rw [roundsIn_succ]
    refine wpIn_mono (hs k act w hi) ?_
    rintro e act' w' (⟨rfl, hi'⟩ | ⟨hne, hq⟩)
    · exact ih act' w' hi'
    · cases e <;> first | exact absurd rfl hne | exact hq
/-! ### what does not hang on the greater symbols, nor on the newer blocks -/
def lowVB (N n : Nat) : VB → Bool
  | .base _ => true
  | .sym i => Nat.blt i N
  | .loc i => Nat.blt i n
mutual
def lowV (N n : Nat) : VV → Bool
  | .ptr (some a) => lowVB N n a.b
  | .slice (some a) _ _ => lowVB N n a.b
  | .sint _ i => Nat.blt i N
  | .sym i => Nat.blt i N
  | .map (some b) => lowVB N n b
  | .func _ f c => match lowVs N n f with
    | true => lowVs N n c
    | false => false
  | .yield i => Nat.blt i n
  | .iface _ v => lowV N n v
  | .agg cs => lowVs N n cs
  | .tuple cs => lowVs N n cs
  | .lsl _ _ _ => false
  | .cat _ => false
  | .tsl _ _ => false
  | .tlen _ => false
  | _ => true
def lowVs (N n : Nat) : List VV → Bool
  | [] => true
  | v :: l => match lowV N n v with
    | true => lowVs N n l
    | false => false
end
def agree (N : Nat) (ρ ρ' : Rho) : Prop := ∀ i, i < N → ρ'.int i = ρ.int i ∧ ρ'.val i = ρ.val i ∧ ρ'.blk i = ρ.blk i ∧ ρ'.off i = ρ.off i ∧ ρ'.lst i = ρ.lst i
def Phi.low (φ : Phi) (n : Nat) (ρ' : Rho) : Phi := ⟨fun i => if i < n then φ i else none, ρ'⟩
theorem Phi.low_at {φ : Phi} {n : Nat} {ρ' : Rho} {i : Nat} (h : i < n) : (φ.low n ρ') i = φ i := if_pos h
theorem AR_low {φ : Phi} {N n : Nat} {ρ' : Rho} (ha : agree N φ.ρ ρ') {a : VA} (h : lowVB N n a.b = true) {a' : Addr} {s : Nat} (k : AR φ a a' s) : AR (φ.low n ρ') a a' s := by
  unfold AR at *
  cases hb : a.b with
  | base r => rw [hb] at k; exact k
  | sym i =>
    rw [hb] at k h
    simp only [lowVB] at h
    obtain ⟨_, _, h3, h4, _⟩ := ha i (lt_of_blt h)
    simp only at k ⊢
    show a' = ⟨ρ'.blk i, ρ'.off i + a.o, none⟩ ∧ s = 0
    rw [h3, h4]; exact k
  | loc i =>
    rw [hb] at k h
    simp only [lowVB] at h
    obtain ⟨inf, h1, h2⟩ := k
    exact ⟨inf, by rw [Phi.low_at (lt_of_blt h)]; exact h1, h2⟩
theorem BR_low {φ : Phi} {N n : Nat} {ρ' : Rho} (ha : agree N φ.ρ ρ') {b : VB} (h : lowVB N n b = true) {r : Nat} (k : BR φ b r) : BR (φ.low n ρ') b r := by
  unfold BR at *
  cases b with
  | base r => exact k
  | sym i =>
    simp only [lowVB] at h
    obtain ⟨_, _, h3, _, _⟩ := ha i (lt_of_blt h)
    simp only at k ⊢
    show r = ρ'.blk i
    rw [h3]; exact k
  | loc i =>
    simp only [lowVB] at h
    obtain ⟨inf, h1, h2⟩ := k
    exact ⟨inf, by rw [Phi.low_at (lt_of_blt h)]; exact h1, h2⟩
mutual
theorem VR_low {φ : Phi} {N n : Nat} {ρ' : Rho} (ha : agree N φ.ρ ρ') : ∀ (x : VV) (v : Value), lowV N n x = true → VR φ x v → VR (φ.low n ρ') x v
  | .bool _, _, _, k => by simpa only [VR] using k
  | .int _ _, _, _, k => by simpa only [VR] using k
  | .string _, _, _, k => by simpa only [VR] using k
  | .ptr none, _, _, k => by simpa only [VR] using k
  | .ptr (some a), v, h, k => by
    simp only [VR] at k ⊢
    simp only [lowV] at h
    obtain ⟨a', s, h1, h2⟩ := k
    exact ⟨a', s, AR_low ha h h1, h2⟩
  | .slice none _ _, _, _, k => by simpa only [VR] using k
  | .slice (some a) _ _, v, h, k => by
    simp only [VR] at k ⊢
    simp only [lowV] at h
    obtain ⟨a', s, h1, h2⟩ := k
    exact ⟨a', s, AR_low ha h h1, h2⟩
  | .sliceE, _, _, k => by simpa only [VR] using k
  | .any, _, _, _ => by simp only [VR]
  | .one, _, _, k => by simpa only [VR] using k
  | .lsl _ _ _, _, h, _ => by simp [lowV] at h
  | .cat _, _, h, _ => by simp [lowV] at h
  | .tsl _ _, _, h, _ => by simp [lowV] at h
  | .tlen _, _, h, _ => by simp [lowV] at h
  | .sint kk i, _, h, k => by
    simp only [VR] at k ⊢
    simp only [lowV] at h
    show _ = Value.int kk (ρ'.int i)
    rw [(ha i (lt_of_blt h)).1]; exact k
  | .sym i, _, h, k => by
    simp only [VR] at k ⊢
    simp only [lowV] at h
    show _ = ρ'.val i
    rw [(ha i (lt_of_blt h)).2.1]; exact k
  | .map none, _, _, k => by simpa only [VR] using k
  | .map (some b), v, h, k => by
    simp only [VR] at k ⊢
    simp only [lowV] at h
    obtain ⟨r, h1, h2⟩ := k
    exact ⟨r, BR_low ha h h1, h2⟩
  | .func fn f c, v, h, k => by
    simp only [VR] at k ⊢
    simp only [lowV] at h
    split at h
    · rename_i hf
      obtain ⟨f', c', h0, h1, h2, h3⟩ := k
      exact ⟨f', c', h0, VRs_low ha f f' hf h1, VRs_low ha c c' h h2, h3⟩
    · cases h
  | .yield i, v, h, k => by
    simp only [VR] at k ⊢
    simp only [lowV] at h
    obtain ⟨inf, h1, h2⟩ := k
    exact ⟨inf, by rw [Phi.low_at (lt_of_blt h)]; exact h1, h2⟩
  | .nilFunc, _, _, k => by simpa only [VR] using k
  | .iface t x, v, h, k => by
    simp only [VR] at k ⊢
    simp only [lowV] at h
    obtain ⟨x', h1, h2⟩ := k
    exact ⟨x', VR_low ha x x' h h1, h2⟩
  | .nilIface, _, _, k => by simpa only [VR] using k
  | .agg cs, v, h, k => by
    simp only [VR] at k ⊢
    simp only [lowV] at h
    obtain ⟨cs', h1, h2⟩ := k
    exact ⟨cs', VRs_low ha cs cs' h h1, h2⟩
  | .tuple cs, v, h, k => by
    simp only [VR] at k ⊢
    simp only [lowV] at h
    obtain ⟨cs', h1, h2⟩ := k
    exact ⟨cs', VRs_low ha cs cs' h h1, h2⟩
theorem VRs_low {φ : Phi} {N n : Nat} {ρ' : Rho} (ha : agree N φ.ρ ρ') : ∀ (xs : List VV) (vs : List Value), lowVs N n xs = true → VRs φ xs vs → VRs (φ.low n ρ') xs vs
  | [], _, _, k => by simpa only [VRs] using k
  | x :: xs, vs, h, k => by
    simp only [VRs] at k ⊢
    simp only [lowVs] at h
    split at h
    · rename_i hx
      obtain ⟨y, ys, h1, h2, h3⟩ := k
      exact ⟨y, ys, h1, VR_low ha x y hx h2, VRs_low ha xs ys h h3⟩
    · cases h
end
theorem VRs_mem {φ : Phi} {N n : Nat} : ∀ {l : List VV}, lowVs N n l = true → ∀ x ∈ l, lowV N n x = true
  | [], _, x, h => by cases h
  | y :: l, k, x, h => by
    simp only [lowVs] at k
    split at k
    · rename_i hy
      rcases List.mem_cons.1 h with rfl | h
      · exact hy
      · exact VRs_mem (φ := φ) k x h
    · cases k
def lowEs (N n : Nat) : List (VV × VV × Nat) → Bool
  | [] => true
  | (k, v, _) :: l => match lowV N n k, lowV N n v with
    | true, true => lowEs N n l
    | _, _ => false
def lowO (N n : Nat) : VO → Bool
  | .cells c _ _ _ => lowVs N n c
  | .map es _ => lowEs N n es
  | .siter _ _ => true
  | _ => false
theorem ERs_low {φ : Phi} {N n : Nat} {ρ' : Rho} (ha : agree N φ.ρ ρ') : ∀ (xs : List (VV × VV × Nat)) (es : List MapEntry), lowEs N n xs = true → ERs φ xs es → ERs (φ.low n ρ') xs es
  | [], _, _, k => by simpa only [ERs] using k
  | (kx, vx, b) :: xs, es, h, k => by
    simp only [ERs] at k ⊢
    simp only [lowEs] at h
    split at h
    · rename_i h1 h2
      obtain ⟨y, ys, e, q1, q2, q3, q4⟩ := k
      exact ⟨y, ys, e, VR_low ha _ _ h1 q1, VR_low ha _ _ h2 q2, q3, ERs_low ha xs ys h q4⟩
    · cases h
theorem OR_low {φ : Phi} {N n : Nat} {ρ' : Rho} (ha : agree N φ.ρ ρ') {inf : Inf} {o : VO} {o' : Obj} (h : lowO N n o = true) (k : OR φ inf o o') : OR (φ.low n ρ') inf o o' := by
  cases o with
  | cells c g ro et =>
    simp only [lowO] at h
    obtain ⟨c', e, fr, rfl, hc⟩ := k
    refine ⟨c', e, fr, rfl, hc.size, hc.fixed, fun j x hj => ?_, hc.low, hc.typ⟩
    obtain ⟨y, h1, h2⟩ := hc.cell j x hj
    exact ⟨y, h1, VR_low ha _ _ (VRs_mem (φ := φ) h x (List.mem_of_getElem? hj)) h2⟩
  | map es c =>
    obtain ⟨es', h1, h2⟩ := k
    exact ⟨es', h1, ERs_low ha _ _ h h2⟩
  | siter s p => exact k
  | _ => simp [lowO] at h
/-- All keys lie below a number. -/
def TT.klt {α : Type} : TT α → Nat → Bool
  | .lf, _ => true
  | .nd l v r, n => match (match v with | some _ => Nat.blt 0 n | none => true), TT.klt l (n / 2) with
    | true, true => TT.klt r ((n - 1) / 2)
    | _, _ => false
theorem TT.klt_get {α : Type} : ∀ {t : TT α} {n : Nat}, TT.klt t n = true → ∀ {i : Nat} {x : α}, t.get i = some x → i < n
  | .lf, n, _, i, x, h => by cases h
  | .nd l v r, n, h, i, x, hx => by
    simp only [TT.klt] at h
    split at h
    · rename_i h1 h2
      rw [TT.get_nd] at hx
      split at hx
      · rename_i h0
        have : i = 0 := Nat.eq_of_beq_eq_true h0
        subst this hx
        exact lt_of_blt h1
      · rename_i h0
        have hi0 : i ≠ 0 := by intro e; subst e; simp at h0
        split at hx
        · rename_i hm
          have := TT.klt_get h2 hx
          have : i % 2 = 1 := Nat.eq_of_beq_eq_true hm
          omega
        · rename_i hm
          have := TT.klt_get h hx
          have : i % 2 ≠ 1 := by intro e; rw [e] at hm; simp at hm
          omega
    · cases h
/-- A state, of which what is low is kept. -/
def okSw (N n : Nat) : Option VV → Option VV → Bool
  | some x, some y => match y with
    | .any => true
    | y => match vvEq x y with
      | true => lowV N n y
      | false => false
  | none, some y => match y with
    | .any => true
    | _ => false
  | none, none => true
  | some _, none => false
def okSwL (N n : Nat) : Option VO → Option VO → Bool
  | _, none => true
  | some o, some o' => match voEq o o' with
    | true => lowO N n o'
    | false => false
  | none, some _ => false
def swB (N n : Nat) (a : VT) (H : VH) (a' : VT) (l' : TT VO) : Bool := match Nat.ble n H.next, TT.all2 (okSw N n) a a', TT.all2 (okSwL N n) H.locs l' with
  | true, true, true => TT.klt l' n
  | _, _, _ => false
def putSp : List (Nat × VV) → VT → VT
  | [], a => a
  | (t, x) :: l, a => putSp l (a.put t x)
theorem TR.put {φ : Phi} {a : VT} {tmps : Array Value} (h : TR φ a tmps) {t : Nat} {x : VV} (ht : t < top) (hx : VR φ x (tmps.getD t undef)) : TR φ (a.put t x) tmps := by
  intro u
  by_cases e : u = t
  · subst e
    unfold tget
    rw [TT.get_put_same _ _ _ ht]
    exact hx
  · have := h u
    unfold tget at this ⊢
    rw [TT.get_put_other _ _ _ _ e]
    exact this
theorem TR.special {φ : Phi} {tmps : Array Value} : ∀ {l : List (Nat × VV)} {a : VT}, TR φ a tmps → (∀ p ∈ l, p.1 < top ∧ VR φ p.2 (tmps.getD p.1 undef)) → TR φ (putSp l a) tmps
  | [], a, h, _ => h
  | (t, x) :: l, a, h, k => by
    have := k (t, x) (by simp)
    show TR φ (putSp l (a.put t x)) tmps
    exact TR.special (h.put this.1 this.2) fun p hp => k p (by simp [hp])
/-- The same state, seen by other symbols: what is low stays. -/
theorem RS.swap [Ext] {w0 : World} {R R' : Rho → Prop} {sz N n : Nat} {a₁ a0 : VT} {H₁ : VH} {l' : TT VO} {sp : List (Nat × VV)} {E' : Env} {act : Act} {w : World} (k : RS w0 R sz a₁ H₁ act w) (hs : swB N n a₁ H₁ a0 l' = true) (hb : E'.blk = H₁.base.blk)
    (hρ : ∀ φ : Phi, R φ.ρ → TR φ a₁ act.tmps → EnvOK H₁.base φ w0 → ∃ ρ', R' ρ' ∧ agree N φ.ρ ρ' ∧ EnvOK E' (φ.low n ρ') w0 ∧ ∀ p ∈ sp, p.1 < top ∧ VR (φ.low n ρ') p.2 (act.tmps.getD p.1 undef)) :
    RS w0 R' sz (putSp sp a0) ⟨E', l', n⟩ act w := by
  obtain ⟨φ, k1, k2, k3, k4, k5, rs, m1, m2, m3⟩ := k
  obtain ⟨ρ', r1, r2, r3, r4⟩ := hρ φ k1 k2 k3.env
  unfold swB at hs
  split at hs
  · rename_i s1 s2 s3
    have hn : n ≤ H₁.next := Nat.le_of_ble_eq_true s1
    have some_of : ∀ i inf, (φ.low n ρ') i = some inf → φ i = some inf := fun i inf h => by
      have h' : (if i < n then φ i else none) = some inf := h
      split at h'
      · exact h'
      · cases h'
    have hl : ∀ i o, l'.get i = some o → i < n ∧ H₁.locs.get i = some o ∧ lowO N n o = true := by
      intro i o hi
      refine ⟨TT.klt_get hs hi, ?_⟩
      have := TT.all2_get (p := okSwL N n) rfl s3 i
      rw [hi] at this
      cases hx : H₁.locs.get i with
      | none => rw [hx] at this; simp [okSwL] at this
      | some o' =>
        rw [hx] at this
        simp only [okSwL] at this
        split at this
        · rename_i hv
          rw [voEq_eq hv]
          exact ⟨rfl, this⟩
        · cases this
    refine ⟨φ.low n ρ', r1, TR.special ?_ r4, ⟨r3, ?_, k3.old, fun i inf hi => k3.own i inf (some_of i inf hi), Nat.le_trans hn k3.small, ?_, ?_, ?_, fun i inf hi => k3.bound i inf (some_of i inf hi)⟩, k4, k5, rs, m1, m2, ?_⟩
    · intro t
      have := TT.all2_get (p := okSw N n) rfl s2 t
      have kt := k2 t
      unfold tget at kt ⊢
      revert this kt
      generalize a₁.get t = x
      generalize a0.get t = y
      intro this kt
      cases x with
      | none => cases y with
        | none => exact VR_low r2 vundef _ rfl kt
        | some y => cases y <;> first | (simp only [VR]; done) | (simp [okSw] at this)
      | some x => cases y with
        | none => simp [okSw] at this
        | some y =>
          simp only
          have hy : y = .any ∨ (vvEq x y = true ∧ lowV N n y = true) := by
            cases y <;> first
              | exact .inl rfl
              | (simp only [okSw] at this; split at this
                 · rename_i hv; exact .inr ⟨hv, this⟩
                 · cases this)
          rcases hy with rfl | ⟨hy, hy'⟩
          · simp only [VR]
          · have e := vvEq_eq _ _ hy
            subst e
            exact VR_low r2 _ _ hy' kt
    · intro r b h
      exact k3.base r b (by rw [← hb]; exact h)
    · intro i o hi
      obtain ⟨g1, g2, g3⟩ := hl i o hi
      obtain ⟨inf, o', h1, h2, h3, h4⟩ := k3.live i o g2
      exact ⟨inf, o', by rw [Phi.low_at g1]; exact h1, h2, OR_low r2 g3 h3, by show E'.blk inf.blk = none; rw [hb]; exact h4⟩
    · intro i j oi oj inf jnf hi hj h1 h2 h3
      exact k3.inj i j oi oj inf jnf (hl i oi hi).2.1 (hl j oj hj).2.1 (some_of i inf h1) (some_of j jnf h2) h3
    · intro i hi
      show (if i < n then φ i else none) = none
      have hi' : n ≤ i := hi
      rw [if_neg (by omega)]
    · intro r hr
      obtain ⟨q1, q2, q3, q4, q5⟩ := m3 r hr
      exact ⟨q1, q2, fun i inf hi => q3 i inf (some_of i inf hi), q4, by show E'.blk r = none; rw [hb]; exact q5⟩
  · cases hs
end
end Go.Ev
