/- Engine, part X: states of which less and less is said: loops over what the symbols stand for, one after the other. -/
import Derived.Test.YtgbhmkdldfhamaaEvW
namespace Go.Ev
noncomputable section
open Go.RowKit
/-- A state at which the symbols stand for something that is so. -/
def RS [Ext] (w0 : World) (R : Rho → Prop) (sz : Nat) (a : VT) (H : VH) (act : Act) (w : World) : Prop :=
  ∃ φ : Phi, R φ.ρ ∧ TR φ a act.tmps ∧ HSim w0 φ H w ∧ WK w0 w ∧ act.tmps.size = sz ∧ MarksOK (fun r => w0.heap.size ≤ r) w0 φ H w act.defers
theorem RS.cs [Ext] {P : Program} {w0 : World} {R : Rho → Prop} {sz nt : Nat} {c : Code} {a a₁ : VT} {H H₁ : VH} {x : VX} (h : CS P nt c a H x a₁ H₁) (hnt : nt ≤ top) (hsz : nt ≤ sz) {act : Act} {w : World} (k : RS w0 R sz a H act w) :
    c.wpIn (Fr none) 0 P (fun e act' w' => e = x.real ∧ H₁.base = H.base ∧ RS w0 R sz a₁ H₁ act' w') act w := by
  obtain ⟨φ, k1, k2, k3, k4, k5, k6⟩ := k
  refine wpIn_mono (h hnt w0 φ act w k2 k3 (by omega) (fun r => w0.heap.size ≤ r) (fun _ r hr => Nat.le_trans k4.size hr) k6) ?_
  rintro e act' w' ⟨φ', h1, h2, h3, h4, h5, h6, h7⟩
  exact ⟨h1, h5, φ', by rw [h2.le.2]; exact k1, h3, h4, k4.trans h2.wk, h6.trans k5, h7⟩
theorem RS.mono [Ext] {w0 : World} {R R' : Rho → Prop} {sz : Nat} {a : VT} {H : VH} {act : Act} {w : World} (k : RS w0 R sz a H act w) (h : ∀ ρ, R ρ → R' ρ) : RS w0 R' sz a H act w :=
  let ⟨φ, k1, k2⟩ := k
  ⟨φ, h _ k1, k2⟩
/-- Other facts of the same symbols. -/
theorem RS.env [Ext] {w0 : World} {R : Rho → Prop} {sz : Nat} {a : VT} {E E' : Env} {l : TT VO} {n : Nat} {act : Act} {w : World} (k : RS w0 R sz a ⟨E, l, n⟩ act w) (hb : E'.blk = E.blk) (hE : ∀ φ : Phi, R φ.ρ → EnvOK E φ w0 → EnvOK E' φ w0) : RS w0 R sz a ⟨E', l, n⟩ act w := by
  obtain ⟨φ, k1, k2, k3, k4, k5, rs, m1, m2, m3⟩ := k
  refine ⟨φ, k1, k2, ⟨hE φ k1 k3.env, ?_, k3.old, k3.own, k3.small, ?_, k3.inj, k3.fresh, k3.bound⟩, k4, k5, rs, m1, m2, ?_⟩
  · intro r b h
    exact k3.base r b (by rw [← hb]; exact h)
  · intro i o h
    obtain ⟨inf, o', h1, h2, h3, h4⟩ := k3.live i o h
    exact ⟨inf, o', h1, h2, h3, by show E'.blk inf.blk = none; rw [hb]; exact h4⟩
  · intro r hr
    obtain ⟨q1, q2, q3, q4, q5⟩ := m3 r hr
    exact ⟨q1, q2, q3, q4, by show E'.blk r = none; rw [hb]; exact q5⟩
/-- Loops, by how many rounds are left at most. -/
theorem loop_inv {P : Program} {c : Code} {Q : Exit → Act → World → Prop} (Inv : Nat → Act → World → Prop)
    (h0 : ∀ act w, Inv 0 act w → c.wpIn (Fr none) 0 P (fun e act' w' => e ≠ .normal ∧ Q e act' w') act w)
    (hs : ∀ k act w, Inv (k + 1) act w → c.wpIn (Fr none) 0 P (fun e act' w' => (e = .normal ∧ Inv k act' w') ∨ (e ≠ .normal ∧ Q e act' w')) act w) :
    ∀ k act w, Inv k act w → (Code.loop c).wpIn (Fr none) 0 P Q act w := by
  intro k act w hi
  refine wpIn_loop_rounds (k + 1) ?_
  induction k generalizing act w with
  | zero =>
    rw [roundsIn_succ]
    refine wpIn_mono (h0 act w hi) ?_
    rintro e act' w' ⟨hne, hq⟩
    cases e <;> first | exact absurd rfl hne | exact hq
  | succ k ih =>
    rw [roundsIn_succ]
    refine wpIn_mono (hs k act w hi) ?_
    rintro e act' w' (⟨rfl, hi'⟩ | ⟨hne, hq⟩)
    · exact ih act' w' hi'
    · cases e <;> first | exact absurd rfl hne | exact hq
/-! ### what does not hang on the greater symbols, nor on the newer blocks -/
def lowVB (N n : Nat) : VB → Bool
  | .base _ => true
  | .sym i => Nat.blt i N
  | .loc i => Nat.blt i n
mutual
def lowV (N n : Nat) : VV → Bool
  | .ptr (some a) => lowVB N n a.b
  | .slice (some a) _ _ => lowVB N n a.b
  | .sint _ i => Nat.blt i N
  | .sym i => Nat.blt i N
  | .map (some b) => lowVB N n b
  | .func _ f c => match lowVs N n f with
    | true => lowVs N n c
    | false => false
  | .yield i => Nat.blt i n
  | .iface _ v => lowV N n v
  | .agg cs => lowVs N n cs
  | .tuple cs => lowVs N n cs
  | .lsl _ _ _ => false
  | .cat _ => false
  | .tsl _ _ => false
  | .tlen _ => false
  | _ => true
def lowVs (N n : Nat) : List VV → Bool
  | [] => true
  | v :: l => match lowV N n v with
    | true => lowVs N n l
    | false => false
end
def agree (N : Nat) (ρ ρ' : Rho) : Prop := ∀ i, i < N → ρ'.int i = ρ.int i ∧ ρ'.val i = ρ.val i ∧ ρ'.blk i = ρ.blk i ∧ ρ'.off i = ρ.off i ∧ ρ'.lst i = ρ.lst i
def Phi.low (φ : Phi) (n : Nat) (ρ' : Rho) : Phi := ⟨fun i => if i < n then φ i else none, ρ'⟩
theorem Phi.low_at {φ : Phi} {n : Nat} {ρ' : Rho} {i : Nat} (h : i < n) : (φ.low n ρ') i = φ i := if_pos h
theorem AR_low {φ : Phi} {N n : Nat} {ρ' : Rho} (ha : agree N φ.ρ ρ') {a : VA} (h : lowVB N n a.b = true) {a' : Addr} {s : Nat} (k : AR φ a a' s) : AR (φ.low n ρ') a a' s := by
  unfold AR at *
  cases hb : a.b with
  | base r => rw [hb] at k; exact k
  | sym i =>
    rw [hb] at k h
    simp only [lowVB] at h
    obtain ⟨_, _, h3, h4, _⟩ := ha i (lt_of_blt h)
    simp only at k ⊢
    show a' = ⟨ρ'.blk i, ρ'.off i + a.o, none⟩ ∧ s = 0
    rw [h3, h4]; exact k
  | loc i =>
    rw [hb] at k h
    simp only [lowVB] at h
    obtain ⟨inf, h1, h2⟩ := k
    exact ⟨inf, by rw [Phi.low_at (lt_of_blt h)]; exact h1, h2⟩
theorem BR_low {φ : Phi} {N n : Nat} {ρ' : Rho} (ha : agree N φ.ρ ρ') {b : VB} (h : lowVB N n b = true) {r : Nat} (k : BR φ b r) : BR (φ.low n ρ') b r := by
  unfold BR at *
  cases b with
  | base r => exact k
  | sym i =>
    simp only [lowVB] at h
    obtain ⟨_, _, h3, _, _⟩ := ha i (lt_of_blt h)
    simp only at k ⊢
    show r = ρ'.blk i
    rw [h3]; exact k
  | loc i =>
    simp only [lowVB] at h
    obtain ⟨inf, h1, h2⟩ := k
    exact ⟨inf, by rw [Phi.low_at (lt_of_blt h)]; exact h1, h2⟩
mutual
theorem VR_low {φ : Phi} {N n : Nat} {ρ' : Rho} (ha : agree N φ.ρ ρ') : ∀ (x : VV) (v : Value), lowV N n x = true → VR φ x v → VR (φ.low n ρ') x v
  | .bool _, _, _, k => by simpa only [VR] using k
  | .int _ _, _, _, k => by simpa only [VR] using k
  | .string _, _, _, k => by simpa only [VR] using k
  | .ptr none, _, _, k => by simpa only [VR] using k
  | .ptr (some a), v, h, k => by
    simp only [VR] at k ⊢
    simp only [lowV] at h
    obtain ⟨a', s, h1, h2⟩ := k
    exact ⟨a', s, AR_low ha h h1, h2⟩
  | .slice none _ _, _, _, k => by simpa only [VR] using k
  | .slice (some a) _ _, v, h, k => by
    simp only [VR] at k ⊢
    simp only [lowV] at h
    obtain ⟨a', s, h1, h2⟩ := k
    exact ⟨a', s, AR_low ha h h1, h2⟩
  | .sliceE, _, _, k => by simpa only [VR] using k
  | .any, _, _, _ => by simp only [VR]
  | .one, _, _, k => by simpa only [VR] using k
  | .lsl _ _ _, _, h, _ => by simp [lowV] at h
  | .cat _, _, h, _ => by simp [lowV] at h
  | .tsl _ _, _, h, _ => by simp [lowV] at h
  | .tlen _, _, h, _ => by simp [lowV] at h
  | .sint kk i, _, h, k => by
    simp only [VR] at k ⊢
    simp only [lowV] at h
    show _ = Value.int kk (ρ'.int i)
    rw [(ha i (lt_of_blt h)).1]; exact k
  | .sym i, _, h, k => by
    simp only [VR] at k ⊢
    simp only [lowV] at h
    show _ = ρ'.val i
    rw [(ha i (lt_of_blt h)).2.1]; exact k
  | .map none, _, _, k => by simpa only [VR] using k
  | .map (some b), v, h, k => by
    simp only [VR] at k ⊢
    simp only [lowV] at h
    obtain ⟨r, h1, h2⟩ := k
    exact ⟨r, BR_low ha h h1, h2⟩
  | .func fn f c, v, h, k => by
    simp only [VR] at k ⊢
    simp only [lowV] at h
    split at h
    · rename_i hf
      obtain ⟨f', c', h0, h1, h2, h3⟩ := k
      exact ⟨f', c', h0, VRs_low ha f f' hf h1, VRs_low ha c c' h h2, h3⟩
    · cases h
  | .yield i, v, h, k => by
    simp only [VR] at k ⊢
    simp only [lowV] at h
    obtain ⟨inf, h1, h2⟩ := k
    exact ⟨inf, by rw [Phi.low_at (lt_of_blt h)]; exact h1, h2⟩
  | .nilFunc, _, _, k => by simpa only [VR] using k
  | .iface t x, v, h, k => by
    simp only [VR] at k ⊢
    simp only [lowV] at h
    obtain ⟨x', h1, h2⟩ := k
    exact ⟨x', VR_low ha x x' h h1, h2⟩
  | .nilIface, _, _, k => by simpa only [VR] using k
  | .agg cs, v, h, k => by
    simp only [VR] at k ⊢
    simp only [lowV] at h
    obtain ⟨cs', h1, h2⟩ := k
    exact ⟨cs', VRs_low ha cs cs' h h1, h2⟩
  | .tuple cs, v, h, k => by
    simp only [VR] at k ⊢
    simp only [lowV] at h
    obtain ⟨cs', h1, h2⟩ := k
    exact ⟨cs', VRs_low ha cs cs' h h1, h2⟩
theorem VRs_low {φ : Phi} {N n : Nat} {ρ' : Rho} (ha : agree N φ.ρ ρ') : ∀ (xs : List VV) (vs : List Value), lowVs N n xs = true → VRs φ xs vs → VRs (φ.low n ρ') xs vs
  | [], _, _, k => by simpa only [VRs] using k
  | x :: xs, vs, h, k => by
    simp only [VRs] at k ⊢
    simp only [lowVs] at h
    split at h
    · rename_i hx
      obtain ⟨y, ys, h1, h2, h3⟩ := k
      exact ⟨y, ys, h1, VR_low ha x y hx h2, VRs_low ha xs ys h h3⟩
    · cases h
end
theorem VRs_mem {φ : Phi} {N n : Nat} : ∀ {l : List VV}, lowVs N n l = true → ∀ x ∈ l, lowV N n x = true
  | [], _, x, h => by cases h
  | y :: l, k, x, h => by
    simp only [lowVs] at k
    split at k
    · rename_i hy
      rcases List.mem_cons.1 h with rfl | h
      · exact hy
      · exact VRs_mem (φ := φ) k x h
    · cases k
def lowEs (N n : Nat) : List (VV × VV × Nat) → Bool
  | [] => true
  | (k, v, _) :: l => match lowV N n k, lowV N n v with
    | true, true => lowEs N n l
    | _, _ => false
def lowO (N n : Nat) : VO → Bool
  | .cells c _ _ _ => lowVs N n c
  | .map es _ => lowEs N n es
  | .siter _ _ => true
  | _ => false
theorem ERs_low {φ : Phi} {N n : Nat} {ρ' : Rho} (ha : agree N φ.ρ ρ') : ∀ (xs : List (VV × VV × Nat)) (es : List MapEntry), lowEs N n xs = true → ERs φ xs es → ERs (φ.low n ρ') xs es
  | [], _, _, k => by simpa only [ERs] using k
  | (kx, vx, b) :: xs, es, h, k => by
    simp only [ERs] at k ⊢
    simp only [lowEs] at h
    split at h
    · rename_i h1 h2
      obtain ⟨y, ys, e, q1, q2, q3, q4⟩ := k
      exact ⟨y, ys, e, VR_low ha _ _ h1 q1, VR_low ha _ _ h2 q2, q3, ERs_low ha xs ys h q4⟩
    · cases h
theorem OR_low {φ : Phi} {N n : Nat} {ρ' : Rho} (ha : agree N φ.ρ ρ') {inf : Inf} {o : VO} {o' : Obj} (h : lowO N n o = true) (k : OR φ inf o o') : OR (φ.low n ρ') inf o o' := by
  cases o with
  | cells c g ro et =>
    simp only [lowO] at h
    obtain ⟨c', e, fr, rfl, hc⟩ := k
    refine ⟨c', e, fr, rfl, hc.size, hc.fixed, fun j x hj => ?_, hc.low, hc.typ⟩
    obtain ⟨y, h1, h2⟩ := hc.cell j x hj
    exact ⟨y, h1, VR_low ha _ _ (VRs_mem (φ := φ) h x (List.mem_of_getElem? hj)) h2⟩
  | map es c =>
    obtain ⟨es', h1, h2⟩ := k
    exact ⟨es', h1, ERs_low ha _ _ h h2⟩
  | siter s p => exact k
  | _ => simp [lowO] at h
/-- All keys lie below a number. -/
def TT.klt {α : Type} : TT α → Nat → Bool
  | .lf, _ => true
  | .nd l v r, n => match (match v with | some _ => Nat.blt 0 n | none => true), TT.klt l (n / 2) with
    | true, true => TT.klt r ((n - 1) / 2)
    | _, _ => false
theorem TT.klt_get {α : Type} : ∀ {t : TT α} {n : Nat}, TT.klt t n = true → ∀ {i : Nat} {x : α}, t.get i = some x → i < n
  | .lf, n, _, i, x, h => by cases h
  | .nd l v r, n, h, i, x, hx => by
    simp only [TT.klt] at h
    split at h
    · rename_i h1 h2
      rw [TT.get_nd] at hx
      split at hx
      · rename_i h0
        have : i = 0 := Nat.eq_of_beq_eq_true h0
        subst this hx
        exact lt_of_blt h1
      · rename_i h0
        have hi0 : i ≠ 0 := by intro e; subst e; simp at h0
        split at hx
        · rename_i hm
          have := TT.klt_get h2 hx
          have : i % 2 = 1 := Nat.eq_of_beq_eq_true hm
          omega
        · rename_i hm
          have := TT.klt_get h hx
          have : i % 2 ≠ 1 := by intro e; rw [e] at hm; simp at hm
          omega
    · cases h
/-- A state, of which what is low is kept. -/
def okSw (N n : Nat) : Option VV → Option VV → Bool
  | some x, some y => match y with
    | .any => true
    | y => match vvEq x y with
      | true => lowV N n y
      | false => false
  | none, some y => match y with
    | .any => true
    | _ => false
  | none, none => true
  | some _, none => false
def okSwL (N n : Nat) : Option VO → Option VO → Bool
  | _, none => true
  | some o, some o' => match voEq o o' with
    | true => lowO N n o'
    | false => false
  | none, some _ => false
def swB (N n : Nat) (a : VT) (H : VH) (a' : VT) (l' : TT VO) : Bool := match Nat.ble n H.next, TT.all2 (okSw N n) a a', TT.all2 (okSwL N n) H.locs l' with
  | true, true, true => TT.klt l' n
  | _, _, _ => false
def putSp : List (Nat × VV) → VT → VT
  | [], a => a
  | (t, x) :: l, a => putSp l (a.put t x)
theorem TR.put {φ : Phi} {a : VT} {tmps : Array Value} (h : TR φ a tmps) {t : Nat} {x : VV} (ht : t < top) (hx : VR φ x (tmps.getD t undef)) : TR φ (a.put t x) tmps := by
  intro u
  by_cases e : u = t
  · subst e
    unfold tget
    rw [TT.get_put_same _ _ _ ht]
    exact hx
  · have := h u
    unfold tget at this ⊢
    rw [TT.get_put_other _ _ _ _ e]
    exact this
theorem TR.special {φ : Phi} {tmps : Array Value} : ∀ {l : List (Nat × VV)} {a : VT}, TR φ a tmps → (∀ p ∈ l, p.1 < top ∧ VR φ p.2 (tmps.getD p.1 undef)) → TR φ (putSp l a) tmps
  | [], a, h, _ => h
  | (t, x) :: l, a, h, k => by
    have := k (t, x) (by simp)
    show TR φ (putSp l (a.put t x)) tmps
    exact TR.special (h.put this.1 this.2) fun p hp => k p (by simp [hp])
/-- The same state, seen by other symbols: what is low stays. -/
theorem RS.swap [Ext] {w0 : World} {R R' : Rho → Prop} {sz N n : Nat} {a₁ a0 : VT} {H₁ : VH} {l' : TT VO} {sp : List (Nat × VV)} {E' : Env} {act : Act} {w : World} (k : RS w0 R sz a₁ H₁ act w) (hs : swB N n a₁ H₁ a0 l' = true) (hb : E'.blk = H₁.base.blk)
    (hρ : ∀ φ : Phi, R φ.ρ → TR φ a₁ act.tmps → EnvOK H₁.base φ w0 → ∃ ρ', R' ρ' ∧ agree N φ.ρ ρ' ∧ EnvOK E' (φ.low n ρ') w0 ∧ ∀ p ∈ sp, p.1 < top ∧ VR (φ.low n ρ') p.2 (act.tmps.getD p.1 undef)) :
    RS w0 R' sz (putSp sp a0) ⟨E', l', n⟩ act w := by
  obtain ⟨φ, k1, k2, k3, k4, k5, rs, m1, m2, m3⟩ := k
  obtain ⟨ρ', r1, r2, r3, r4⟩ := hρ φ k1 k2 k3.env
  unfold swB at hs
  split at hs
  · rename_i s1 s2 s3
    have hn : n ≤ H₁.next := Nat.le_of_ble_eq_true s1
    have some_of : ∀ i inf, (φ.low n ρ') i = some inf → φ i = some inf := fun i inf h => by
      have h' : (if i < n then φ i else none) = some inf := h
      split at h'
      · exact h'
      · cases h'
    have hl : ∀ i o, l'.get i = some o → i < n ∧ H₁.locs.get i = some o ∧ lowO N n o = true := by
      intro i o hi
      refine ⟨TT.klt_get hs hi, ?_⟩
      have := TT.all2_get (p := okSwL N n) rfl s3 i
      rw [hi] at this
      cases hx : H₁.locs.get i with
      | none => rw [hx] at this; simp [okSwL] at this
      | some o' =>
        rw [hx] at this
        simp only [okSwL] at this
        split at this
        · rename_i hv
          rw [voEq_eq hv]
          exact ⟨rfl, this⟩
        · cases this
    refine ⟨φ.low n ρ', r1, TR.special ?_ r4, ⟨r3, ?_, k3.old, fun i inf hi => k3.own i inf (some_of i inf hi), Nat.le_trans hn k3.small, ?_, ?_, ?_, fun i inf hi => k3.bound i inf (some_of i inf hi)⟩, k4, k5, rs, m1, m2, ?_⟩
    · intro t
      have := TT.all2_get (p := okSw N n) rfl s2 t
      have kt := k2 t
      unfold tget at kt ⊢
      revert this kt
      generalize a₁.get t = x
      generalize a0.get t = y
      intro this kt
      cases x with
      | none => cases y with
        | none => exact VR_low r2 vundef _ rfl kt
        | some y => cases y <;> first | (simp only [VR]; done) | (simp [okSw] at this)
      | some x => cases y with
        | none => simp [okSw] at this
        | some y =>
          simp only
          have hy : y = .any ∨ (vvEq x y = true ∧ lowV N n y = true) := by
            cases y <;> first
              | exact .inl rfl
              | (simp only [okSw] at this; split at this
                 · rename_i hv; exact .inr ⟨hv, this⟩
                 · cases this)
          rcases hy with rfl | ⟨hy, hy'⟩
          · simp only [VR]
          · have e := vvEq_eq _ _ hy
            subst e
            exact VR_low r2 _ _ hy' kt
    · intro r b h
      exact k3.base r b (by rw [← hb]; exact h)
    · intro i o hi
      obtain ⟨g1, g2, g3⟩ := hl i o hi
      obtain ⟨inf, o', h1, h2, h3, h4⟩ := k3.live i o g2
      exact ⟨inf, o', by rw [Phi.low_at g1]; exact h1, h2, OR_low r2 g3 h3, by show E'.blk inf.blk = none; rw [hb]; exact h4⟩
    · intro i j oi oj inf jnf hi hj h1 h2 h3
      exact k3.inj i j oi oj inf jnf (hl i oi hi).2.1 (hl j oj hj).2.1 (some_of i inf h1) (some_of j jnf h2) h3
    · intro i hi
      show (if i < n then φ i else none) = none
      have hi' : n ≤ i := hi
      rw [if_neg (by omega)]
    · intro r hr
      obtain ⟨q1, q2, q3, q4, q5⟩ := m3 r hr
      exact ⟨q1, q2, fun i inf hi => q3 i inf (some_of i inf hi), q4, by show E'.blk r = none; rw [hb]; exact q5⟩
  · cases hs
end
end Go.Ev
namespace Go.Ev
noncomputable section
open Go.RowKit
theorem leaves_marksW [Ext] {P : Program} {fn : Func} {tmps : Array Value} {Rr : Ending → World → Prop} {b : Nat} {w0 : World} {φ : Phi} {H : VH} (hfin : ∀ w, HSim w0 φ H w → WK w0 w → ∃ v, (results fn tmps).run P w = .ok v w ∧ Rr (.returned v) w) : ∀ (rs : List Nat) (w : World), rs.Nodup → HSim w0 φ H w → WK w0 w →
    (∀ r ∈ rs, b ≤ r ∧ w.heap[r]? = some (.deferred (some [])) ∧ (∀ i inf, φ i = some inf → inf.blk ≠ r) ∧ w0.heap.size ≤ r ∧ H.base.blk r = none) → LeavesInM Fence.wide 0 P fn tmps Rr (rs.map markOf) .returning w
  | [], w, _, hs, st, _ => hfin w hs st
  | r :: rs, w, hnd, hs, st, hr => by
    obtain ⟨k1, k2, k3, k4, k5⟩ := hr r (by simp)
    obtain ⟨g1, g2⟩ := run_setObj (P := P) (o₁ := .deferred none) k2 (by simp)
    refine ⟨by simp, .inl ⟨r, _, rfl, ?_, leaves_marksW (b := b) hfin rs _ (List.nodup_cons.1 hnd).2 (hs.apart g2 k3 k4 k5) (st.trans g2.wk) fun x hx => ?_⟩⟩
    · have hge : (getObj r).run P w = .ok (.deferred (some [])) w := by simp [getObj, Sem.run, k2]
      simp [Instr.takeDeferred, hge, g1]
    · obtain ⟨j1, j2, j3, j4, j5⟩ := hr x (List.mem_cons_of_mem _ hx)
      have hxr : x ≠ r := fun e => (List.nodup_cons.1 hnd).1 (e ▸ hx)
      exact ⟨j1, by rw [g2.there x hxr]; exact j2, j3, j4, j5⟩
theorem TR_args {φ : Phi} {args : List VV} {args' : List Value} {nt : Nat} (ha : VRs φ args args') (h1 : args.length ≤ nt) (h2 : nt ≤ top) : TR φ (listT args 0 .lf) ((⟨args'⟩ : Array Value) ++ Array.replicate (nt - (⟨args'⟩ : Array Value).size) undef) := by
  have hl := VRs_length _ _ ha
  intro t
  rw [listT_get args 0 .lf t (by omega)]
  simp only [Array.getD_eq_getD_getElem?, Array.getElem?_append, List.size_toArray]
  by_cases hk : 0 ≤ t ∧ t < 0 + args.length
  · rw [if_pos hk, if_pos (by omega)]
    obtain ⟨x, hx⟩ : ∃ x, args[t - 0]? = some x := ⟨args[t]'(by omega), by simp [show t < args.length by omega]⟩
    obtain ⟨y, hy1, hy2⟩ := VRs_get _ _ ha _ x hx
    rw [hx]
    simp only [Option.getD_some]
    rw [show ((⟨args'⟩ : Array Value)[t]?) = some y by simpa using hy1]
    exact hy2
  · rw [if_neg hk, if_neg (by omega)]
    have : (Array.replicate (nt - args'.length) undef)[t - args'.length]?.getD undef = undef := by
      rw [Array.getElem?_replicate]
      split <;> rfl
    rw [this]
    exact VR_undef φ
/-- Where a function ends: a state, and what it tells there. -/
def Ends [Ext] (P : Program) (fn : Func) (w0 : World) (res : Value) (e : Exit) (act : Act) (w : World) : Prop :=
  e = .ret ∧ ∃ (R : Rho → Prop) (a : VT) (H : VH) (r : VV), RS w0 R fn.ntmps a H act w ∧ resL P a H fn.results.toList = some [r] ∧ ∀ (φ : Phi) (v : Value), R φ.ρ → VR φ r v → v = res
theorem rs_calls [Ext] {P : Program} {f : FuncId} {fn : Func} {c : Code} {args : List VV} {args' : List Value} {w0 : World} {ρ : Rho} {E : Env} {res : Value} (hf : P.funcs[f]? = some fn) (hc : fn.body = some c) (h1 : Nat.ble args.length fn.ntmps = true) (h2 : Nat.ble fn.ntmps top = true)
    (hE : EnvOK E ⟨fun _ => none, ρ⟩ w0) (hb : ∀ r b, E.blk r = some b → ∃ o, w0.heap[r]? = some o ∧ BOR b o) (ha : VRs ⟨fun _ => none, ρ⟩ args args')
    (h : ∀ act, RS w0 (· = ρ) fn.ntmps (listT args 0 .lf) ⟨E, .lf, 0⟩ act w0 → c.wpIn (Fr none) 0 P (Ends P fn w0 res) act w0) : Calls P f ⟨args'⟩ w0 fun e w' => e = .returned res ∧ Below w0.heap.size w0 w' := by
  have h1' : args.length ≤ fn.ntmps := Nat.le_of_ble_eq_true h1
  have h2' : fn.ntmps ≤ top := Nat.le_of_ble_eq_true h2
  have hl := VRs_length _ _ ha
  have ht := TR_args ha h1' h2'
  have k := h { tmps := (⟨args'⟩ : Array Value) ++ Array.replicate (fn.ntmps - (⟨args'⟩ : Array Value).size) undef, defers := [] } ⟨⟨fun _ => none, ρ⟩, rfl, ht, HSim.startE hE hb, .refl w0, by simp; omega, .nil⟩
  refine (callsIn_wide (n := 0)).1 (callsIn_of_wp_marks hf hc trivial (wpIn_mono k ?_))
  rintro e act' w' ⟨rfl, R, a, H, r, ⟨φ, k1, k2, k3, k4, k5, rs, m1, m2, m3⟩, hr, hv⟩
  show LeavesInM Fence.wide 0 P fn act'.tmps _ act'.defers .returning w'
  rw [m1]
  refine leaves_marksW (b := w0.heap.size) (w0 := w0) (φ := φ) (H := H) (fun w'' hs'' st'' => ?_) rs w' m2 k3 k4 m3
  obtain ⟨v', r1, r2⟩ := results_sound (P := P) k2 hs'' hr
  exact ⟨v', r1, by rw [hv φ v' k1 r2], st''.os, st''.tape, st''.output, st''.size, hs''.old⟩
section
variable {P : Program} {nt : Nat}
theorem CS.of_run [Ext] (hng : NoNG P) (hm : P.follows .mixedOrders = true) {kn : KN} (hK : KnOK P kn) {n : Nat} {c : Code} {a a₁ : VT} {H H₁ : VH} {x : VX} (h : (evN P (drawRun P) kn n).1.1 nt c a H = some (x, a₁, H₁)) : CS P nt c a H x a₁ H₁ :=
  fun hnt w0 φ act w ht hs hn b hbs hd => (evN_sound hng (fun _ h => drawRun_sound hng hm h) hK n).1.2 w0 nt c a H x a₁ H₁ h hnt none rfl φ act w ht hs hn b hbs hd
/-- The first parts of a code, by states. -/
theorem RS.spine [Ext] {rc : CE} (hrc : CEok P (· = none) rc) {w0 : World} {R : Rho → Prop} {sz : Nat} (hnt : nt ≤ top) (hsz : nt ≤ sz) {Q : Exit → Act → World → Prop} : ∀ {k : Nat} {c : Code} {a : VT} {H : VH} {a₁ : VT} {H₁ : VH}, spineE rc nt k c a H = some (a₁, H₁) →
    ∀ {act : Act} {w : World}, RS w0 R sz a H act w → (∀ act' w', H₁.base = H.base → RS w0 R sz a₁ H₁ act' w' → (dropSeq k c).wpIn (Fr none) 0 P Q act' w') → c.wpIn (Fr none) 0 P Q act w
  | 0, c, a, H, a₁, H₁, h, act, w, k1, k2 => by
    simp only [spineE, Option.some.injEq, Prod.mk.injEq] at h
    obtain ⟨rfl, rfl⟩ := h
    exact k2 act w rfl k1
  | k + 1, c, a, H, a₁, H₁, h, act, w, k1, k2 => by
    cases c with
    | seq y z =>
      simp only [spineE] at h
      split at h
      · rename_i a' H' hy
        refine wpIn_seq ?_
        refine wpIn_mono (RS.cs (fun hnt w0 φ act w ht hs hn b hbs hd => hrc w0 nt y a H .normal a' H' hy hnt none rfl φ act w ht hs hn b hbs hd) hnt hsz k1) ?_
        rintro e' act' w' ⟨rfl, q1, q2⟩
        exact RS.spine hrc hnt hsz h q2 fun act'' w'' e q => k2 act'' w'' (e.trans q1) q
      · cases h
    | _ => simp [spineE] at h
/-- A block that is left. -/
theorem wp_blockAt {c : Code} {id : Nat} (h : isBlock id c = true) {Q : Exit → Act → World → Prop} {act : Act} {w : World} (k : (blockC c).wpIn (Fr none) 0 P (Exit.inBlock id Q) act w) : c.wpIn (Fr none) 0 P Q act w := by
  cases c <;> simp [isBlock] at h
  subst h
  exact wpIn_block k
theorem wp_seqAt {c : Code} (h : isSeq c = true) {Q : Exit → Act → World → Prop} {act : Act} {w : World} (k : (seqL c).wpIn (Fr none) 0 P (Exit.then ((dropSeq 1 c).wpIn (Fr none) 0 P Q) Q) act w) : c.wpIn (Fr none) 0 P Q act w := by
  cases c <;> simp [isSeq] at h
  exact wpIn_seq k
theorem wp_loopAt {c : Code} (h : isLoop c = true) {Q : Exit → Act → World → Prop} {act : Act} {w : World} (k : (Code.loop (loopC c)).wpIn (Fr none) 0 P Q act w) : c.wpIn (Fr none) 0 P Q act w := by
  cases c <;> simp [isLoop] at h
  exact k
end
end
end Go.Ev
namespace Go.Ev
noncomputable section
open Go.RowKit
/-- A loop over what the symbols stand for, one after the other: each round goes on, or returns; behind the last one it is left. -/
theorem loop_stage [Ext] {P : Program} {rc : CE} (hrc : CEok P (· = none) rc) {w0 : World} {sz nt : Nat} (hnt : nt ≤ top) (hsz : nt ≤ sz) {LB : Code} {rhoAt : Nat → Rho} {len : Nat} {EI : Nat → Env} {a0 : VT} {sp : Nat → List (Nat × VV)} {l' : TT VO} {nH N : Nat} {x : VX} {good : Nat → Bool} {a3 : VT} {H3 : VH} {Bad : Nat → VT → VH → Prop}
    (hblk : ∀ i j, (EI i).blk = (EI j).blk) (hag : ∀ i, i < len → agree N (rhoAt i) (rhoAt (i + 1))) (hE : ∀ i, i ≤ len → (∀ j, j < i → good j = true) → ∀ φ : Phi, φ.ρ = rhoAt i → EnvOK (EI i) φ w0)
    (hgood : ∀ i, i < len → good i = true → ∃ a' H', rc nt LB (putSp (sp i) a0) ⟨EI i, l', nH⟩ = some (.normal, a', H') ∧ swB N nH a' H' a0 l' = true ∧ ∀ p ∈ sp (i + 1), p.1 < top ∧ ∀ (φ φ' : Phi) (v : Value), φ.ρ = rhoAt i → φ'.ρ = rhoAt (i + 1) → VR φ (tget a' p.1) v → VR φ' p.2 v)
    (hbad : ∀ i, i < len → good i = false → ∃ a' H', rc nt LB (putSp (sp i) a0) ⟨EI i, l', nH⟩ = some (.ret, a', H') ∧ Bad i a' H')
    (hend : rc nt LB (putSp (sp len) a0) ⟨EI len, l', nH⟩ = some (x, a3, H3)) (hx : x ≠ .normal)
    {act : Act} {w : World} (k : RS w0 (· = rhoAt 0) sz (putSp (sp 0) a0) ⟨EI 0, l', nH⟩ act w) :
    (Code.loop LB).wpIn (Fr none) 0 P (fun e act' w' => (∃ i, i < len ∧ good i = false ∧ (∀ j, j < i → good j = true) ∧ e = .ret ∧ ∃ a' H', Bad i a' H' ∧ RS w0 (· = rhoAt i) sz a' H' act' w') ∨ ((∀ i, i < len → good i = true) ∧ e = x.real ∧ H3.base = EI len ∧ RS w0 (· = rhoAt len) sz a3 H3 act' w')) act w := by
  have cs : ∀ {a : VT} {H : VH} {x : VX} {a' : VT} {H' : VH}, rc nt LB a H = some (x, a', H') → CS P nt LB a H x a' H' := fun h hnt w0 φ act w ht hs hn b hbs hd => hrc w0 nt LB _ _ _ _ _ h hnt none rfl φ act w ht hs hn b hbs hd
  have hxr : x.real ≠ .normal := by cases x <;> first | exact absurd rfl hx | simp [VX.real]
  have last : ∀ i, i = len → (∀ j, j < i → good j = true) → ∀ act w, RS w0 (· = rhoAt i) sz (putSp (sp i) a0) ⟨EI i, l', nH⟩ act w → LB.wpIn (Fr none) 0 P (fun e act' w' => e ≠ .normal ∧ ((∃ i, i < len ∧ good i = false ∧ (∀ j, j < i → good j = true) ∧ e = .ret ∧ ∃ a' H', Bad i a' H' ∧ RS w0 (· = rhoAt i) sz a' H' act' w') ∨ ((∀ i, i < len → good i = true) ∧ e = x.real ∧ H3.base = EI len ∧ RS w0 (· = rhoAt len) sz a3 H3 act' w'))) act w := by
    rintro i rfl hg act w k
    refine wpIn_mono (RS.cs (cs hend) hnt hsz k) ?_
    rintro e act' w' ⟨rfl, q1, q2⟩
    exact ⟨hxr, .inr ⟨hg, rfl, q1, q2⟩⟩
  refine loop_inv (fun k act w => ∃ i, i + k = len ∧ (∀ j, j < i → good j = true) ∧ RS w0 (· = rhoAt i) sz (putSp (sp i) a0) ⟨EI i, l', nH⟩ act w) ?_ ?_ len act w ⟨0, by omega, (fun j h => by omega), k⟩
  · rintro act w ⟨i, hi, hg, k⟩
    exact last i (by omega) hg act w k
  · rintro m act w ⟨i, hi, hg, k⟩
    have hlt : i < len := by omega
    cases hgi : good i with
    | true =>
      obtain ⟨a', H', h1, h2, h3⟩ := hgood i hlt hgi
      refine wpIn_mono (RS.cs (cs h1) hnt hsz k) ?_
      rintro e act' w' ⟨rfl, q1, q2⟩
      have hg' : ∀ j, j < i + 1 → good j = true := by
        intro j hj
        by_cases hji : j = i
        · rw [hji]; exact hgi
        · exact hg j (by omega)
      refine .inl ⟨rfl, i + 1, by omega, hg', ?_⟩
      · refine RS.swap q2 h2 (by rw [q1]; exact hblk _ _) fun φ hφ ht _ => ⟨rhoAt (i + 1), rfl, by rw [hφ]; exact hag i hlt, hE (i + 1) (by omega) hg' _ rfl, fun p hp => ?_⟩
        obtain ⟨g1, g2⟩ := h3 p hp
        exact ⟨g1, g2 φ _ _ hφ rfl (ht p.1)⟩
    | false =>
      obtain ⟨a', H', h1, h2⟩ := hbad i hlt hgi
      refine wpIn_mono (RS.cs (cs h1) hnt hsz k) ?_
      rintro e act' w' ⟨rfl, q1, q2⟩
      exact .inr ⟨by simp [VX.real], .inl ⟨i, hlt, hgi, hg, rfl, a', H', h2, q2⟩⟩
/-! ### a loop by an index that returns early -/
/-- A loop's head: its temporaries but for those that count, its blocks; which temporaries count: temporary, kind, symbol at the head, symbol behind a round; what it tells when it returns. -/
structure Side where
  nt : Nat
  LB : Code
  a0 : VT
  l : TT VO
  nH : Nat
  ix : List (Nat × IntKind × Nat × Nat)
  res : List ResultVar
  bad : VV
def Side.sp (s : Side) : List (Nat × VV) := s.ix.map fun p => (p.1, .sint p.2.1 p.2.2.1)
def ixEq (a : VT) : List (Nat × IntKind × Nat × Nat) → Bool
  | [] => true
  | (t, k, _, j) :: l => match vvEq (tget a t) (.sint k j), Nat.blt t top with
    | true, true => ixEq a l
    | _, _ => false
/-- What a round comes to: it goes on, or returns. -/
def Side.out (P : Program) (rc : CE) (N : Nat) (s : Side) (E : Env) : Option Bool := match rc s.nt s.LB (putSp s.sp s.a0) ⟨E, s.l, s.nH⟩ with
  | some (.normal, a, H) => match ixEq a s.ix, swB N s.nH a H s.a0 s.l with
    | true, true => some true
    | _, _ => none
  | some (.ret, a, H) => match resL P a H s.res with
    | some [r] => match vvEq r s.bad with
      | true => some false
      | false => none
    | _ => none
  | _ => none
def sameB : Option Bool → Option Bool → Bool
  | some a, some b => bEq a b
  | _, _ => false
theorem sameB_eq {x y : Option Bool} (h : sameB x y = true) : ∃ b, x = some b ∧ y = some b := by
  cases x <;> cases y <;> simp [sameB] at h
  rename_i a b
  exact ⟨a, rfl, by rw [bEq_eq h]⟩
theorem ixEq_get {a : VT} : ∀ {l : List (Nat × IntKind × Nat × Nat)}, ixEq a l = true → ∀ p ∈ l, p.1 < top ∧ tget a p.1 = .sint p.2.1 p.2.2.2
  | [], _, p, hp => by cases hp
  | (t, k, i, j) :: l, h, p, hp => by
    simp only [ixEq] at h
    split at h
    · rename_i h1 h2
      rcases List.mem_cons.1 hp with rfl | hp
      · exact ⟨lt_of_blt h2, vvEq_eq _ _ h1⟩
      · exact ixEq_get h p hp
    · cases h
theorem Side.out_true {P : Program} {rc : CE} {N : Nat} {s : Side} {E : Env} (h : s.out P rc N E = some true) : ∃ a H, rc s.nt s.LB (putSp s.sp s.a0) ⟨E, s.l, s.nH⟩ = some (.normal, a, H) ∧ ixEq a s.ix = true ∧ swB N s.nH a H s.a0 s.l = true := by
  unfold Side.out at h
  split at h
  · rename_i a H hr
    split at h
    · rename_i h1 h2; exact ⟨a, H, hr, h1, h2⟩
    · cases h
  · split at h
    · split at h <;> simp at h
    · cases h
  · cases h
theorem Side.out_false {P : Program} {rc : CE} {N : Nat} {s : Side} {E : Env} (h : s.out P rc N E = some false) : ∃ a H, rc s.nt s.LB (putSp s.sp s.a0) ⟨E, s.l, s.nH⟩ = some (.ret, a, H) ∧ resL P a H s.res = some [s.bad] := by
  unfold Side.out at h
  split at h
  · split at h <;> simp at h
  · rename_i a H hr
    split at h
    · rename_i r hq
      split at h
      · rename_i hv; rw [vvEq_eq _ _ hv] at hq; exact ⟨a, H, hr, hq⟩
      · cases h
    · cases h
  · cases h
theorem vvEq_tget_int {a : VT} {t : Nat} {k : IntKind} {z : Int} (h : vvEq (tget a t) (.int k z) = true) : tget a t = .int k z := vvEq_eq _ _ h
theorem dropSeq_stop {c : Code} (h : isSeq c = false) : ∀ k, dropSeq k c = c
  | 0 => rfl
  | k + 1 => by cases c <;> first | rfl | (simp [isSeq] at h)
theorem dropSeq_succ : ∀ (k : Nat) (c : Code), dropSeq 1 (dropSeq k c) = dropSeq (k + 1) c
  | 0, c => rfl
  | k + 1, c => by
    cases c with
    | seq x y => exact dropSeq_succ k y
    | _ => rfl
/-- A function: some parts, then a loop by an index that returns early, then the end. -/
theorem search_fn [Ext] {P : Program} {rc : CE} (hrc : CEok P (· = none) rc) {s : Side} {fn : Func} {c : Code} (hs : s.nt = fn.ntmps) (hres : s.res = fn.results.toList) (hnt : fn.ntmps ≤ top) {w0 : World} {rhoAt : Nat → Rho} {len : Nat} {EI : Nat → Env} {N : Nat} {good : Nat → Bool} {E0 : Env} {a : VT} {k1 k2 id : Nat} {a₁ a₂ a3 a4 : VT} {H₁ H₂ H3 H4 : VH} {rG : VV} {vB vG : Value}
    (h1 : spineE rc fn.ntmps k1 c a ⟨E0, .lf, 0⟩ = some (a₁, H₁)) (hq : isSeq (dropSeq k1 c) = true) (h2 : spineE rc fn.ntmps k2 (seqL (dropSeq k1 c)) a₁ H₁ = some (a₂, H₂))
    (hbk : isBlock id (dropSeq k2 (seqL (dropSeq k1 c))) = true) (hlp : isLoop (blockC (dropSeq k2 (seqL (dropSeq k1 c)))) = true) (hLB : s.LB = loopC (blockC (dropSeq k2 (seqL (dropSeq k1 c)))))
    (hsw : swB N s.nH a₂ H₂ s.a0 s.l = true) (hix0 : ∀ p ∈ s.ix, p.1 < top ∧ ∃ z, tget a₂ p.1 = .int p.2.1 z ∧ (rhoAt 0).int p.2.2.1 = z)
    (hblk0 : ∀ i, (EI i).blk = E0.blk) (hag : ∀ i, i < len → agree N (rhoAt i) (rhoAt (i + 1))) (hE : ∀ i, i ≤ len → (∀ j, j < i → good j = true) → ∀ φ : Phi, φ.ρ = rhoAt i → EnvOK (EI i) φ w0)
    (hout : ∀ i, i < len → s.out P rc N (EI i) = some (good i)) (hstep : ∀ i, i < len → ∀ p ∈ s.ix, (rhoAt (i + 1)).int p.2.2.1 = (rhoAt i).int p.2.2.2)
    (hend : rc fn.ntmps s.LB (putSp s.sp s.a0) ⟨EI len, s.l, s.nH⟩ = some (.exit id, a3, H3)) (hafter : rc fn.ntmps (dropSeq (k1 + 1) c) a3 H3 = some (.ret, a4, H4)) (hr4 : resL P a4 H4 fn.results.toList = some [rG])
    (hvB : ∀ φ v, VR φ s.bad v → v = vB) (hvG : ∀ φ v, VR φ rG v → v = vG)
    {act : Act} {w : World} (k : RS w0 (· = rhoAt 0) fn.ntmps a ⟨E0, .lf, 0⟩ act w) : c.wpIn (Fr none) 0 P (Ends P fn w0 (if ∀ i, i < len → good i = true then vG else vB)) act w := by
  have cs : ∀ {c : Code} {a : VT} {H : VH} {x : VX} {a' : VT} {H' : VH}, rc fn.ntmps c a H = some (x, a', H') → CS P fn.ntmps c a H x a' H' := fun {c} {_ _ _ _ _} h hnt w0 φ act w ht hs hn b hbs hd => hrc w0 fn.ntmps c _ _ _ _ _ h hnt none rfl φ act w ht hs hn b hbs hd
  refine RS.spine hrc hnt (Nat.le_refl _) h1 k fun act w e1 k => ?_
  refine wp_seqAt hq ?_
  refine RS.spine hrc hnt (Nat.le_refl _) h2 k fun act w e2 k => ?_
  refine wp_blockAt hbk ?_
  refine wp_loopAt hlp ?_
  rw [← hLB]
  have k0 : RS w0 (· = rhoAt 0) fn.ntmps (putSp s.sp s.a0) ⟨EI 0, s.l, s.nH⟩ act w := by
    refine RS.swap k hsw (by rw [e2, e1]; exact hblk0 0) fun φ hφ ht _ => ⟨rhoAt 0, rfl, fun i _ => by rw [hφ]; exact ⟨rfl, rfl, rfl, rfl, rfl⟩, hE 0 (Nat.zero_le _) (fun j hj => by omega) _ rfl, ?_⟩
    intro p hp
    obtain ⟨q, hq, rfl⟩ := List.mem_map.1 hp
    obtain ⟨g1, z, g2, g3⟩ := hix0 q hq
    refine ⟨g1, ?_⟩
    have := ht q.1
    rw [g2] at this
    simp only [VR] at this ⊢
    rw [this]
    show _ = Value.int q.2.1 ((rhoAt 0).int q.2.2.1)
    rw [g3]
  refine wpIn_mono (loop_stage hrc (nt := fn.ntmps) hnt (Nat.le_refl _) (fun i j => (hblk0 i).trans (hblk0 j).symm) hag hE (sp := fun _ => s.sp) (good := good) (Bad := fun _ a' H' => resL P a' H' s.res = some [s.bad]) ?_ ?_ hend (by simp) k0) ?_
  · intro i hi hg
    obtain ⟨a', H', q1, q2, q3⟩ := Side.out_true (hg ▸ hout i hi)
    refine ⟨a', H', hs ▸ q1, q3, fun p hp => ?_⟩
    obtain ⟨q, hq, rfl⟩ := List.mem_map.1 hp
    obtain ⟨g1, g2⟩ := ixEq_get q2 q hq
    refine ⟨g1, fun φ φ' v hφ hφ' hv => ?_⟩
    simp only at hv ⊢
    rw [g2] at hv
    simp only [VR] at hv ⊢
    rw [hv, hφ, hφ', hstep i hi q hq]
  · intro i hi hg
    obtain ⟨a', H', q1, q2⟩ := Side.out_false (hg ▸ hout i hi)
    exact ⟨a', H', hs ▸ q1, q2⟩
  · rintro e act' w' (⟨i, hi, hg, _, rfl, a', H', hb, k'⟩ | ⟨hg, rfl, hb, k'⟩)
    · refine ⟨rfl, _, a', H', s.bad, k', hres ▸ hb, fun φ v _ hv => ?_⟩
      rw [if_neg (fun h => by rw [h i hi] at hg; cases hg)]
      exact hvB φ v hv
    · have hx : Exit.inBlock id (Exit.then ((dropSeq 1 (dropSeq k1 c)).wpIn (Fr none) 0 P (Ends P fn w0 (if ∀ i, i < len → good i = true then vG else vB))) (Ends P fn w0 (if ∀ i, i < len → good i = true then vG else vB))) (VX.exit id).real act' w' ↔ (dropSeq 1 (dropSeq k1 c)).wpIn (Fr none) 0 P (Ends P fn w0 (if ∀ i, i < len → good i = true then vG else vB)) act' w' := by
        simp [VX.real, Exit.inBlock, Exit.then]
      rw [hx]
      have e : dropSeq 1 (dropSeq k1 c) = dropSeq (k1 + 1) c := dropSeq_succ k1 c
      rw [e]
      refine wpIn_mono (RS.cs (cs hafter) hnt (Nat.le_refl _) k') ?_
      rintro e act'' w'' ⟨rfl, _, k''⟩
      refine ⟨rfl, _, a4, H4, rG, k'', hr4, fun φ v _ hv => ?_⟩
      rw [if_pos hg]
      exact hvG φ v hv
/-! ### trees in parts; facts of lists -/
theorem chkT_cut {lc : Ivs → List Fact → Bool} {i : Nat} {c : Int} {l r : Tr} {iv : Ivs} {fs : List Fact} (h1 : chkT lc l (ivHi iv i c) fs = true) (h2 : chkT lc r (ivLo iv i (c + 1)) fs = true) : chkT lc (.cut i c l r) iv fs = true := by
  simp only [chkT, h1, h2]
theorem chkT_rel {lc : Ivs → List Fact → Bool} {k : IntKind} {i j : Nat} {l r : Tr} {iv : Ivs} {fs : List Fact} (h1 : chkT lc l iv (.bin .lss (.sint k i) (.sint k j) (.bool true) :: fs) = true) (h2 : chkT lc r iv (.bin .lss (.sint k i) (.sint k j) (.bool false) :: fs) = true) : chkT lc (.rel k i j l r) iv fs = true := by
  simp only [chkT, h1, h2]
theorem fact_len {ρ : Rho} {x : VV} {a : Option Addr} {l c i : Nat} (hx : sval ρ x = some (.slice a l c)) (hi : ρ.int i = l) : FactOK ρ (.len false x (.sint .i64 i)) :=
  ⟨_, l, hx, ⟨a, c, rfl⟩, by simp [sval, hi]⟩
theorem fact_at {ρ : Rho} {x : VV} {B O l c size i j n : Nat} {k : IntKind} (hx : sval ρ x = some (.slice (some ⟨B, O, none⟩) l c)) (hi : ρ.int i = n) (hn : n < l) (hb : ρ.blk j = B) (ho : ρ.off j = O + n * size) : FactOK ρ (.at size x (.sint k i) ⟨.sym j, 0⟩) :=
  ⟨⟨B, O, none⟩, l, c, k, n, j, hx, rfl, by simp [sval, hi], by omega, by omega, rfl, hb, by simp [ho]⟩
theorem fact_add {ρ : Rho} {i j : Nat} {z : Int} (h : ρ.int j = ρ.int i + z) (h1 : -9223372036854775808 ≤ ρ.int j) (h2 : ρ.int j ≤ 9223372036854775807) : FactOK ρ (.bin .add (.sint .i64 i) (.int .i64 z) (.sint .i64 j)) := by
  refine ⟨_, _, _, rfl, rfl, rfl, by simp, by simp, fun P t w => ?_⟩
  have e : IntKind.i64.wrap (ρ.int i + z) = ρ.int j := by
    rw [← h]
    exact wrap_in (by simpa [IntKind.min, IntKind.signed, IntKind.bits] using h1) (by simpa [IntKind.max, IntKind.signed, IntKind.bits] using h2)
  simp [binOp, Op.intArith, e]
/-- What a run that returns a number tells. -/
def resI (P : Program) (res : List ResultVar) : Option (VX × VT × VH) → Option Int
  | some (.ret, a, H) => match resL P a H res with
    | some [.int .i64 x] => some x
    | _ => none
  | _ => none
def sameI : Option Int → Option Int → Bool
  | some a, some b => match decide (a = b), decide (0 ≤ a) with
    | true, true => decide (a ≤ 1000)
    | _, _ => false
  | _, _ => false
theorem sameI_eq {x y : Option Int} (h : sameI x y = true) : ∃ b, x = some b ∧ y = some b ∧ 0 ≤ b ∧ b ≤ 1000 := by
  cases x <;> cases y <;> simp only [sameI] at h <;> try (cases h; done)
  split at h
  · rename_i h1 h2
    have h1 := of_decide_eq_true h1
    subst h1
    exact ⟨_, rfl, rfl, of_decide_eq_true h2, of_decide_eq_true h⟩
  · cases h
theorem resI_some {P : Program} {res : List ResultVar} {o : Option (VX × VT × VH)} {x : Int} (h : resI P res o = some x) : ∃ a H, o = some (.ret, a, H) ∧ resL P a H res = some [.int .i64 x] := by
  unfold resI at h
  split at h
  · rename_i a H
    split at h
    · rename_i y hr
      simp only [Option.some.injEq] at h
      subst h
      exact ⟨a, H, rfl, hr⟩
    · cases h
  · cases h
/-- A function whose body is one run that returns a number. -/
theorem run_fn [Ext] {P : Program} {rc : CE} (hrc : CEok P (· = none) rc) {fn : Func} {c : Code} (hnt : fn.ntmps ≤ top) {w0 : World} {R : Rho → Prop} {E0 : Env} {a : VT} {x : Int} (h : resI P fn.results.toList (rc fn.ntmps c a ⟨E0, .lf, 0⟩) = some x)
    {act : Act} {w : World} (k : RS w0 R fn.ntmps a ⟨E0, .lf, 0⟩ act w) : c.wpIn (Fr none) 0 P (Ends P fn w0 (.int .i64 x)) act w := by
  obtain ⟨a', H', h1, h2⟩ := resI_some h
  refine wpIn_mono (RS.cs (x := .ret) (fun hnt w0 φ act w ht hs hn b hbs hd => hrc w0 fn.ntmps c _ _ _ _ _ h1 hnt none rfl φ act w ht hs hn b hbs hd) hnt (Nat.le_refl _) k) ?_
  rintro e act' w' ⟨rfl, _, k'⟩
  exact ⟨rfl, R, a', H', _, k', h2, fun φ v _ hv => by simpa only [VR] using hv⟩
def iniEq (a : VT) : List (Nat × IntKind × Nat × Nat) → Bool
  | [] => true
  | (t, k, _, _) :: l => match vvEq (tget a t) (.int k 0), Nat.blt t top with
    | true, true => iniEq a l
    | _, _ => false
theorem iniEq_get {a : VT} : ∀ {l : List (Nat × IntKind × Nat × Nat)}, iniEq a l = true → ∀ p ∈ l, p.1 < top ∧ tget a p.1 = .int p.2.1 0
  | [], _, p, hp => by cases hp
  | (t, k, i, j) :: l, h, p, hp => by
    simp only [iniEq] at h
    split at h
    · rename_i h1 h2
      rcases List.mem_cons.1 hp with rfl | hp
      · exact ⟨lt_of_blt h2, vvEq_eq _ _ h1⟩
      · exact iniEq_get h p hp
    · cases h
/-- The parts ahead of a loop come to its head. -/
def preB2 (rc : CE) (N : Nat) (s : Side) (c : Code) (k1 k2 : Nat) (a : VT) (E : Env) : Bool := match spineE rc s.nt k1 c a ⟨E, .lf, 0⟩ with
  | some (a₁, H₁) => match spineE rc s.nt k2 (seqL (dropSeq k1 c)) a₁ H₁ with
    | some (a₂, H₂) => match swB N s.nH a₂ H₂ s.a0 s.l with
      | true => iniEq a₂ s.ix
      | false => false
    | none => false
  | none => false
def shapeB (c : Code) (k1 k2 id : Nat) : Bool := match isSeq (dropSeq k1 c), isBlock id (dropSeq k2 (seqL (dropSeq k1 c))) with
  | true, true => isLoop (blockC (dropSeq k2 (seqL (dropSeq k1 c))))
  | _, _ => false
def loopAt (c : Code) (k1 k2 : Nat) : Code := loopC (blockC (dropSeq k2 (seqL (dropSeq k1 c))))
/-- Behind the last round. -/
def endB (P : Program) (rc : CE) (s : Side) (c : Code) (k1 id : Nat) (E : Env) (rG : VV) : Bool := match rc s.nt s.LB (putSp s.sp s.a0) ⟨E, s.l, s.nH⟩ with
  | some (.exit j, a, H) => match Nat.beq j id, rc s.nt (dropSeq (k1 + 1) c) a H with
    | true, some (.ret, a', H') => match resL P a' H' s.res with
      | some [r] => vvEq r rG
      | _ => false
    | _, _ => false
  | _ => false
theorem search_fn2 [Ext] {P : Program} {rc : CE} (hrc : CEok P (· = none) rc) {s : Side} {fn : Func} {c : Code} (hs : s.nt = fn.ntmps) (hres : s.res = fn.results.toList) (hnt : fn.ntmps ≤ top) {w0 : World} {rhoAt : Nat → Rho} {len : Nat} {EI : Nat → Env} {N : Nat} {good : Nat → Bool} {E0 E2 : Env} {a : VT} {k1 k2 id : Nat} {rG : VV} {vB vG : Value}
    (hsh : shapeB c k1 k2 id = true) (hLB : s.LB = loopAt c k1 k2) (hpre : preB2 rc N s c k1 k2 a E0 = true) (hend : endB P rc s c k1 id E2 rG = true) (hE2 : EI len = E2)
    (hix0 : ∀ p ∈ s.ix, (rhoAt 0).int p.2.2.1 = 0) (hblk0 : ∀ i, (EI i).blk = E0.blk) (hag : ∀ i, i < len → agree N (rhoAt i) (rhoAt (i + 1))) (hE : ∀ i, i ≤ len → (∀ j, j < i → good j = true) → ∀ φ : Phi, φ.ρ = rhoAt i → EnvOK (EI i) φ w0)
    (hout : ∀ i, i < len → s.out P rc N (EI i) = some (good i)) (hstep : ∀ i, i < len → ∀ p ∈ s.ix, (rhoAt (i + 1)).int p.2.2.1 = (rhoAt i).int p.2.2.2)
    (hvB : ∀ φ v, VR φ s.bad v → v = vB) (hvG : ∀ φ v, VR φ rG v → v = vG)
    {act : Act} {w : World} (k : RS w0 (· = rhoAt 0) fn.ntmps a ⟨E0, .lf, 0⟩ act w) : c.wpIn (Fr none) 0 P (Ends P fn w0 (if ∀ i, i < len → good i = true then vG else vB)) act w := by
  unfold shapeB at hsh
  split at hsh
  · rename_i g1 g2
    unfold preB2 at hpre
    split at hpre
    · rename_i a₁ H₁ e1
      split at hpre
      · rename_i a₂ H₂ e2
        split at hpre
        · rename_i e3
          unfold endB at hend
          split at hend
          · rename_i j a3 H3 e4
            split at hend
            · rename_i a4 H4 e5 e6
              split at hend
              · rename_i r e7
                have hj := Nat.eq_of_beq_eq_true e5
                subst hj
                have hr := vvEq_eq _ _ hend
                subst hr
                refine search_fn hrc hs hres hnt (hs ▸ e1) g1 (hs ▸ e2) g2 hsh hLB e3 ?_ hblk0 hag hE hout hstep (hE2 ▸ hs ▸ e4) (hs ▸ e6) (hres ▸ e7) hvB hvG k
                intro p hp
                obtain ⟨q1, q2⟩ := iniEq_get hpre p hp
                exact ⟨q1, 0, q2, hix0 p hp⟩
              · cases hend
            · cases hend
          · cases hend
        · cases hpre
      · cases hpre
    · cases hpre
  · cases hsh
theorem ivs_nil {f : Nat → Int} (h : ∀ i, -9223372036854775808 ≤ f i ∧ f i ≤ 9223372036854775807) : ∀ i, (ivAt [] i).1 ≤ f i ∧ f i ≤ (ivAt [] i).2 := h
theorem ivs_cons {a b : Int} {l : Ivs} {f : Nat → Int} (h0 : a ≤ f 0 ∧ f 0 ≤ b) (h : ∀ i, (ivAt l i).1 ≤ f (i + 1) ∧ f (i + 1) ≤ (ivAt l i).2) : ∀ i, (ivAt ((a, b) :: l) i).1 ≤ f i ∧ f i ≤ (ivAt ((a, b) :: l) i).2
  | 0 => h0
  | i + 1 => h i
theorem evN_rc [Ext] {P : Program} (hng : NoNG P) (hm : P.follows .mixedOrders = true) {kn : KN} (hK : KnOK P kn) (n : Nat) : CEok P (· = none) (evN P (drawRun P) kn n).1.1 :=
  (evN_sound hng (fun _ h => drawRun_sound hng hm h) hK n).1.2
/-! ### trees whose leaves tell -/
inductive TrB where
  | leaf (b : Bool)
  | cut (i : Nat) (c : Int) (l r : TrB)
  | rel (k : IntKind) (i j : Nat) (l r : TrB)
def TrB.tr : TrB → Tr
  | .leaf _ => .leaf
  | .cut i c l r => .cut i c l.tr r.tr
  | .rel k i j l r => .rel k i j l.tr r.tr
def optB (x : Option Bool) (b : Bool) : Bool := match x with
  | some a => bEq a b
  | none => false
theorem optB_eq {x : Option Bool} {b : Bool} (h : optB x b = true) : x = some b := by
  cases x with
  | none => cases h
  | some a => rw [bEq_eq (show bEq a b = true from h)]
def chkB (out : Ivs → List Fact → Option Bool) : TrB → Ivs → List Fact → Bool
  | .leaf b, iv, fs => optB (out iv fs) b
  | .cut i c l r, iv, fs => match chkB out l (ivHi iv i c) fs with
    | true => chkB out r (ivLo iv i (c + 1)) fs
    | false => false
  | .rel k i j l r, iv, fs => match chkB out l iv (.bin .lss (.sint k i) (.sint k j) (.bool true) :: fs) with
    | true => chkB out r iv (.bin .lss (.sint k i) (.sint k j) (.bool false) :: fs)
    | false => false
theorem chkB_cut {out : Ivs → List Fact → Option Bool} {i : Nat} {c : Int} {l r : TrB} {iv : Ivs} {fs : List Fact} (h1 : chkB out l (ivHi iv i c) fs = true) (h2 : chkB out r (ivLo iv i (c + 1)) fs = true) : chkB out (.cut i c l r) iv fs = true := by
  simp only [chkB, h1, h2]
theorem chkB_rel {out : Ivs → List Fact → Option Bool} {k : IntKind} {i j : Nat} {l r : TrB} {iv : Ivs} {fs : List Fact} (h1 : chkB out l iv (.bin .lss (.sint k i) (.sint k j) (.bool true) :: fs) = true) (h2 : chkB out r iv (.bin .lss (.sint k i) (.sint k j) (.bool false) :: fs) = true) : chkB out (.rel k i j l r) iv fs = true := by
  simp only [chkB, h1, h2]
/-- What the numbers' leaf tells. -/
def valB : TrB → (Nat → Int) → Bool
  | .leaf b, _ => b
  | .cut i c l r, v => if v i ≤ c then valB l v else valB r v
  | .rel _ i j l r, v => if v i < v j then valB l v else valB r v
theorem valB_ok {out : Ivs → List Fact → Option Bool} {v : Nat → Int} : ∀ {t : TrB} {iv : Ivs} {fs : List Fact}, chkB out t iv fs = true → out (leafOf t.tr v iv fs).1 (leafOf t.tr v iv fs).2 = some (valB t v)
  | .leaf b, iv, fs, h => optB_eq h
  | .cut i c l r, iv, fs, h => by
    simp only [chkB] at h
    split at h
    · rename_i h1
      by_cases hc : v i ≤ c
      · simp only [TrB.tr, leafOf, valB, if_pos hc]; exact valB_ok h1
      · simp only [TrB.tr, leafOf, valB, if_neg hc]; exact valB_ok h
    · cases h
  | .rel k i j l r, iv, fs, h => by
    simp only [chkB] at h
    split at h
    · rename_i h1
      by_cases hc : v i < v j
      · simp only [TrB.tr, leafOf, valB, if_pos hc]; exact valB_ok h1
      · simp only [TrB.tr, leafOf, valB, if_neg hc]; exact valB_ok h
    · cases h
/-- .. and the leaf holds. -/
theorem leafB_ok {ρ : Rho} {v : Nat → Int} (hv : ρ.int = v) : ∀ {t : TrB} {iv : Ivs} {fs : List Fact}, IvOK iv ρ → FsOK fs ρ → IvOK (leafOf t.tr v iv fs).1 ρ ∧ FsOK (leafOf t.tr v iv fs).2 ρ := by
  intro t iv fs hi hf
  have h : chkT (fun _ _ => true) t.tr iv fs = true := by
    generalize t.tr = t'
    clear hi hf
    induction t' generalizing iv fs with
    | leaf => rfl
    | cut i c l r ihl ihr => exact chkT_cut ihl ihr
    | rel k i j l r ihl ihr => exact chkT_rel ihl ihr
  exact (leafOf_ok hv h hi hf).2
/-- What a leaf tells, of all numbers inside these bounds, if it is known. -/
def boxB : TrB → Ivs → List (Nat × Nat × Bool) → Option Bool
  | .leaf b, _, _ => some b
  | .cut i c l r, iv, rs => match decide ((ivAt iv i).2 ≤ c), decide (c < (ivAt iv i).1) with
    | true, _ => boxB l iv rs
    | _, true => boxB r iv rs
    | _, _ => none
  | .rel _ i j l r, iv, rs => match decide ((ivAt iv i).2 < (ivAt iv j).1), decide ((ivAt iv j).2 ≤ (ivAt iv i).1) with
    | true, _ => boxB l iv rs
    | _, true => boxB r iv rs
    | _, _ => match relAt rs i j with
      | some true => boxB l iv rs
      | some false => boxB r iv rs
      | none => none
where
  relAt : List (Nat × Nat × Bool) → Nat → Nat → Option Bool
    | [], _, _ => none
    | (a, b, x) :: l, i, j => match Nat.beq a i, Nat.beq b j with
      | true, true => some x
      | _, _ => relAt l i j
def VOK (iv : Ivs) (rs : List (Nat × Nat × Bool)) (v : Nat → Int) : Prop := (∀ i, (ivAt iv i).1 ≤ v i ∧ v i ≤ (ivAt iv i).2) ∧ ∀ p ∈ rs, decide (v p.1 < v p.2.1) = p.2.2
theorem relAt_mem : ∀ {rs : List (Nat × Nat × Bool)} {i j : Nat} {x : Bool}, boxB.relAt rs i j = some x → (i, j, x) ∈ rs
  | [], _, _, _, h => by cases h
  | (a, b, y) :: l, i, j, x, h => by
    simp only [boxB.relAt] at h
    split at h
    · rename_i h1 h2
      simp only [Option.some.injEq] at h
      rw [Nat.eq_of_beq_eq_true h1, Nat.eq_of_beq_eq_true h2, h]
      exact List.mem_cons_self ..
    · exact List.mem_cons_of_mem _ (relAt_mem h)
theorem boxB_ok {iv : Ivs} {rs : List (Nat × Nat × Bool)} {v : Nat → Int} (hv : VOK iv rs v) : ∀ {t : TrB} {b : Bool}, boxB t iv rs = some b → valB t v = b
  | .leaf b, b', h => by simpa [boxB, valB] using h
  | .cut i c l r, b, h => by
    have hi := hv.1 i
    simp only [boxB] at h
    split at h
    · rename_i h1
      have h1 := of_decide_eq_true h1
      simp only [valB, if_pos (show v i ≤ c by omega)]
      exact boxB_ok hv h
    · rename_i h2 _
      have h2 := of_decide_eq_true h2
      simp only [valB, if_neg (show ¬ v i ≤ c by omega)]
      exact boxB_ok hv h
    · cases h
  | .rel k i j l r, b, h => by
    have hi := hv.1 i
    have hj := hv.1 j
    simp only [boxB] at h
    split at h
    · rename_i h1
      have h1 := of_decide_eq_true h1
      simp only [valB, if_pos (show v i < v j by omega)]
      exact boxB_ok hv h
    · rename_i h2 _
      have h2 := of_decide_eq_true h2
      simp only [valB, if_neg (show ¬ v i < v j by omega)]
      exact boxB_ok hv h
    · split at h
      · rename_i hr
        have := hv.2 _ (relAt_mem hr)
        simp only [valB, if_pos (of_decide_eq_true this)]
        exact boxB_ok hv h
      · rename_i hr
        have := hv.2 _ (relAt_mem hr)
        simp only [valB, if_neg (of_decide_eq_false this)]
        exact boxB_ok hv h
      · cases h
/-- Three numbers that cannot be so: i < j, j ≤ k, k ≤ i. -/
def contra (rs : List (Nat × Nat × Bool)) : Bool := rs.any fun p => match p.2.2 with
  | true => rs.any fun q => match q.2.2, Nat.beq q.2.1 p.2.1 with
    | false, true => match boxB.relAt rs p.1 q.1 with
      | some false => true
      | _ => false
    | _, _ => false
  | false => false
theorem contra_ok {iv : Ivs} {rs : List (Nat × Nat × Bool)} {v : Nat → Int} (hv : VOK iv rs v) (h : contra rs = true) : False := by
  unfold contra at h
  obtain ⟨⟨i, j, x⟩, hp, h⟩ := List.any_eq_true.1 h
  simp only at h
  split at h
  · rename_i _
    obtain ⟨⟨k, j', y⟩, hq, h⟩ := List.any_eq_true.1 h
    simp only at h
    split at h
    · rename_i hj
      split at h
      · rename_i hr
        have e1 := of_decide_eq_true (hv.2 _ hp)
        have e2 := of_decide_eq_false (hv.2 _ hq)
        have e3 := of_decide_eq_false (hv.2 _ (relAt_mem hr))
        have := Nat.eq_of_beq_eq_true hj
        simp only at e1 e2 e3 this
        subst this
        omega
      · cases h
    · cases h
  · cases h
/-- A law on numbers, by cases. -/
def chkV (lc : Ivs → List (Nat × Nat × Bool) → Bool) : Tr → Ivs → List (Nat × Nat × Bool) → Bool
  | .leaf, iv, rs => match contra rs with
    | true => true
    | false => lc iv rs
  | .cut i c l r, iv, rs => match chkV lc l (ivHi iv i c) rs with
    | true => chkV lc r (ivLo iv i (c + 1)) rs
    | false => false
  | .rel _ i j l r, iv, rs => match chkV lc l iv ((i, j, true) :: rs) with
    | true => chkV lc r iv ((i, j, false) :: rs)
    | false => false
theorem VOK.hi {iv : Ivs} {rs : List (Nat × Nat × Bool)} {v : Nat → Int} (h : VOK iv rs v) {i : Nat} {c : Int} (hc : v i ≤ c) : VOK (ivHi iv i c) rs v := by
  refine ⟨fun j => ?_, h.2⟩
  rcases ivAt_hi iv i c j with e | ⟨rfl, e⟩
  · rw [e]; exact h.1 j
  · rw [e]; exact ⟨(h.1 j).1, hc⟩
theorem VOK.lo {iv : Ivs} {rs : List (Nat × Nat × Bool)} {v : Nat → Int} (h : VOK iv rs v) {i : Nat} {c : Int} (hc : c ≤ v i) : VOK (ivLo iv i c) rs v := by
  refine ⟨fun j => ?_, h.2⟩
  rcases ivAt_lo iv i c j with e | ⟨rfl, e⟩
  · rw [e]; exact h.1 j
  · rw [e]; exact ⟨hc, (h.1 j).2⟩
theorem VOK.rel {iv : Ivs} {rs : List (Nat × Nat × Bool)} {v : Nat → Int} (h : VOK iv rs v) {i j : Nat} {b : Bool} (hc : decide (v i < v j) = b) : VOK iv ((i, j, b) :: rs) v := by
  refine ⟨h.1, fun p hp => ?_⟩
  rcases List.mem_cons.1 hp with rfl | hp
  · exact hc
  · exact h.2 p hp
theorem chkV_ok {lc : Ivs → List (Nat × Nat × Bool) → Bool} {v : Nat → Int} : ∀ {t : Tr} {iv : Ivs} {rs : List (Nat × Nat × Bool)}, chkV lc t iv rs = true → VOK iv rs v → ∃ iv' rs', lc iv' rs' = true ∧ VOK iv' rs' v
  | .leaf, iv, rs, h, hv => by
    simp only [chkV] at h
    split at h
    · rename_i hc; exact (contra_ok hv hc).elim
    · exact ⟨iv, rs, h, hv⟩
  | .cut i c l r, iv, rs, h, hv => by
    simp only [chkV] at h
    split at h
    · rename_i h1
      by_cases hc : v i ≤ c
      · exact chkV_ok h1 (hv.hi hc)
      · exact chkV_ok h (hv.lo (by omega))
    · cases h
  | .rel k i j l r, iv, rs, h, hv => by
    simp only [chkV] at h
    split at h
    · rename_i h1
      cases hc : decide (v i < v j) with
      | true => exact chkV_ok h1 (hv.rel hc)
      | false => exact chkV_ok h (hv.rel hc)
    · cases h
theorem chkV_cut {lc : Ivs → List (Nat × Nat × Bool) → Bool} {i : Nat} {c : Int} {l r : Tr} {iv : Ivs} {rs : List (Nat × Nat × Bool)} (h1 : chkV lc l (ivHi iv i c) rs = true) (h2 : chkV lc r (ivLo iv i (c + 1)) rs = true) : chkV lc (.cut i c l r) iv rs = true := by
  simp only [chkV, h1, h2]
theorem chkV_rel {lc : Ivs → List (Nat × Nat × Bool) → Bool} {k : IntKind} {i j : Nat} {l r : Tr} {iv : Ivs} {rs : List (Nat × Nat × Bool)} (h1 : chkV lc l iv ((i, j, true) :: rs) = true) (h2 : chkV lc r iv ((i, j, false) :: rs) = true) : chkV lc (.rel k i j l r) iv rs = true := by
  simp only [chkV, h1, h2]
/-- A tree with its symbols renamed. -/
def TrB.ren (f : Nat → Nat) : TrB → TrB
  | .leaf b => .leaf b
  | .cut i c l r => .cut (f i) c (l.ren f) (r.ren f)
  | .rel k i j l r => .rel k (f i) (f j) (l.ren f) (r.ren f)
theorem valB_ren {f : Nat → Nat} {v : Nat → Int} : ∀ {t : TrB}, valB (t.ren f) v = valB t fun i => v (f i)
  | .leaf b => rfl
  | .cut i c l r => by simp only [TrB.ren, valB, valB_ren]
  | .rel k i j l r => by simp only [TrB.ren, valB, valB_ren]
def trBLow (m : Nat) : TrB → Bool
  | .leaf _ => true
  | .cut i _ l r => match Nat.blt i m, trBLow m l with
    | true, true => trBLow m r
    | _, _ => false
  | .rel _ i j l r => match Nat.blt i m, Nat.blt j m, trBLow m l with
    | true, true, true => trBLow m r
    | _, _, _ => false
theorem valB_congr {m : Nat} {v v' : Nat → Int} (hv : ∀ i, i < m → v i = v' i) : ∀ {t : TrB}, trBLow m t = true → valB t v = valB t v'
  | .leaf b, _ => rfl
  | .cut i c l r, h => by
    simp only [trBLow] at h
    split at h
    · rename_i h1 h2
      simp only [valB, hv i (lt_of_blt h1), valB_congr hv h2, valB_congr hv h]
    · cases h
  | .rel k i j l r, h => by
    simp only [trBLow] at h
    split at h
    · rename_i h1 h2 h3
      simp only [valB, hv i (lt_of_blt h1), hv j (lt_of_blt h2), valB_congr hv h3, valB_congr hv h]
    · cases h
/-! ### calls, with what is said of other calls -/
/-- What is said of an environment, but for other calls. -/
structure EnvP (E : Env) (φ : Phi) (w0 : World) : Prop where
  ivl : ∀ i, (E.ivl i).1 ≤ φ.ρ.int i ∧ φ.ρ.int i ≤ (E.ivl i).2
  tab : ∀ f ∈ E.tab, FactOK φ.ρ f
  sblk : ∀ i c, E.sblk i = some c → φ.ρ.blk i < w0.heap.size ∧ ∀ j x, c[j]? = some x → ∃ v, w0.cell? ⟨φ.ρ.blk i, φ.ρ.off i + j, none⟩ = some v ∧ VR φ x v
/-- Likewise, with lists of old memory. -/
structure EnvM (E : Env) (φ : Phi) (w0 : World) : Prop where
  ivl : ∀ i, (E.ivl i).1 ≤ φ.ρ.int i ∧ φ.ρ.int i ≤ (E.ivl i).2
  tab : ∀ f ∈ E.tab, FactW φ.ρ w0 f
  sblk : ∀ i c, E.sblk i = some c → φ.ρ.blk i < w0.heap.size ∧ ∀ j x, c[j]? = some x → ∃ v, w0.cell? ⟨φ.ρ.blk i, φ.ρ.off i + j, none⟩ = some v ∧ VR φ x v
theorem EnvM.ok [Ext] {E : Env} {φ : Phi} {w0 : World} (h : EnvM E φ w0) (k : Ext.ok φ.ρ w0) : EnvOK E φ w0 := ⟨k, h.ivl, h.tab, h.sblk⟩
theorem EnvP.toM {E : Env} {φ : Phi} {w0 : World} (h : EnvP E φ w0) : EnvM E φ w0 := ⟨h.ivl, fun f hf => (h.tab f hf).w, h.sblk⟩
theorem EnvP.ok [Ext] {E : Env} {φ : Phi} {w0 : World} (h : EnvP E φ w0) (k : Ext.ok φ.ρ w0) : EnvOK E φ w0 := h.toM.ok k
abbrev extKT (P : Program) (KT : List KE) : Ext := ⟨fun ρ w => ∀ e ∈ KT, KEok P ρ w e⟩
def rcKT (P : Program) (KT : List KE) (n : Nat) : CE := (evN P (drawRun P) (knL KT) n).1.1
/-- A call in one run that tells true. -/
def trueB (P : Program) (KT : List KE) (n : Nat) (f : FuncId) (xs : List VV) (E : Env) : Bool := match runE P (knL KT) n f xs E with
  | some (.bool b, _) => b
  | _ => false
theorem trueB_calls {P : Program} (hng : NoNG P) (hm : P.follows .mixedOrders = true) {KT : List KE} {n : Nat} {f : FuncId} {xs : List VV} {E : Env} (h : trueB P KT n f xs E = true) {w : World} {ρ : Rho} (ext : ∀ e ∈ KT, KEok P ρ w e) (hE : EnvP E ⟨fun _ => none, ρ⟩ w) (hb : ∀ r, E.blk r = none)
    {args : List Value} (ha : VRs ⟨fun _ => none, ρ⟩ xs args) : Calls P f ⟨args⟩ w fun e w' => e = .returned (.bool true) ∧ Below w.heap.size w w' := by
  letI : Ext := extKT P KT
  unfold trueB at h
  split at h
  · rename_i b H' hr
    subst h
    refine (runE_calls hng hm (knL_ok (fun _ _ h => h)) hr (hE.ok ext) (fun r b h => by rw [hb r] at h; cases h) ha).mono ?_
    rintro e w' ⟨v', φ', rfl, _, hv, hb⟩
    simp only [VR] at hv
    subst hv
    exact ⟨rfl, hb⟩
  · cases h
def iniAt (a : VT) : List (Nat × IntKind × Nat × Nat) → List Int → Bool
  | [], _ => true
  | (t, k, _, _) :: l, z :: zs => match vvEq (tget a t) (.int k z), Nat.blt t top with
    | true, true => iniAt a l zs
    | _, _ => false
  | _ :: _, [] => false
def iniZ (f : Nat → Int) : List (Nat × IntKind × Nat × Nat) → List Int → Prop
  | [], _ => True
  | (_, _, i, _) :: l, z :: zs => f i = z ∧ iniZ f l zs
  | _ :: _, [] => False
theorem iniAt_get {a : VT} {f : Nat → Int} : ∀ {l : List (Nat × IntKind × Nat × Nat)} {zs : List Int}, iniAt a l zs = true → iniZ f l zs → ∀ p ∈ l, p.1 < top ∧ ∃ z, tget a p.1 = .int p.2.1 z ∧ f p.2.2.1 = z
  | [], _, _, _, p, hp => by cases hp
  | (t, k, i, j) :: l, [], h, _, p, hp => by simp [iniAt] at h
  | (t, k, i, j) :: l, z :: zs, h, hz, p, hp => by
    simp only [iniAt] at h
    split at h
    · rename_i h1 h2
      rcases List.mem_cons.1 hp with rfl | hp
      · exact ⟨lt_of_blt h2, z, vvEq_eq _ _ h1, hz.1⟩
      · exact iniAt_get h hz.2 p hp
    · cases h
def preB3 (rc : CE) (N : Nat) (s : Side) (c : Code) (k1 k2 : Nat) (a : VT) (E : Env) (ini : List Int) : Bool := match spineE rc s.nt k1 c a ⟨E, .lf, 0⟩ with
  | some (a₁, H₁) => match spineE rc s.nt k2 (seqL (dropSeq k1 c)) a₁ H₁ with
    | some (a₂, H₂) => match swB N s.nH a₂ H₂ s.a0 s.l with
      | true => iniAt a₂ s.ix ini
      | false => false
    | none => false
  | none => false
theorem search_calls {P : Program} (hng : NoNG P) (hm : P.follows .mixedOrders = true) {KT : List KE} {n : Nat} {s : Side} {f : FuncId} {fn : Func} {c : Code} (hf : P.funcs[f]? = some fn) (hc : fn.body = some c) (hs : s.nt = fn.ntmps) (hres : s.res = fn.results.toList) (hnt : Nat.ble fn.ntmps top = true) {args : List VV} {args' : List Value} (h3 : Nat.ble args.length fn.ntmps = true)
    {w0 : World} {rhoAt : Nat → Rho} {len : Nat} {EI : Nat → Env} {N : Nat} {good : Nat → Bool} {E0 E2 : Env} {k1 k2 id : Nat} {rG : VV} {vB vG : Value} {ini : List Int}
    (hsh : shapeB c k1 k2 id = true) (hLB : s.LB = loopAt c k1 k2) (hpre : preB3 (rcKT P KT n) N s c k1 k2 (listT args 0 .lf) E0 ini = true) (hini : iniZ (rhoAt 0).int s.ix ini) (hend : endB P (rcKT P KT n) s c k1 id E2 rG = true) (hE2 : EI len = E2)
    (hb0 : ∀ r, E0.blk r = none) (hblk0 : ∀ i, (EI i).blk = E0.blk) (hag : ∀ i, i < len → agree N (rhoAt i) (rhoAt (i + 1))) (ext : ∀ i, i ≤ len → (∀ j, j < i → good j = true) → ∀ e ∈ KT, KEok P (rhoAt i) w0 e) (hE0 : EnvP E0 ⟨fun _ => none, rhoAt 0⟩ w0) (hE : ∀ i, i ≤ len → (∀ j, j < i → good j = true) → ∀ φ : Phi, φ.ρ = rhoAt i → EnvP (EI i) φ w0)
    (hout : ∀ i, i < len → s.out P (rcKT P KT n) N (EI i) = some (good i)) (hstep : ∀ i, i < len → ∀ p ∈ s.ix, (rhoAt (i + 1)).int p.2.2.1 = (rhoAt i).int p.2.2.2)
    (hvB : ∀ φ v, VR φ s.bad v → v = vB) (hvG : ∀ φ v, VR φ rG v → v = vG) (ha : VRs ⟨fun _ => none, rhoAt 0⟩ args args') :
    Calls P f ⟨args'⟩ w0 fun e w' => e = .returned (if ∀ i, i < len → good i = true then vG else vB) ∧ Below w0.heap.size w0 w' := by
  letI : Ext := extKT P KT
  have hrc : CEok P (· = none) (rcKT P KT n) := evN_rc hng hm (knL_ok (fun _ _ h => h)) n
  refine rs_calls hf hc h3 hnt (hE0.ok (ext 0 (Nat.zero_le _) (fun j hj => by omega))) (fun r b h => by rw [hb0 r] at h; cases h) ha fun act k => ?_
  unfold shapeB at hsh
  split at hsh
  · rename_i g1 g2
    unfold preB3 at hpre
    split at hpre
    · rename_i a₁ H₁ e1
      split at hpre
      · rename_i a₂ H₂ e2
        split at hpre
        · rename_i e3
          unfold endB at hend
          split at hend
          · rename_i j a3 H3 e4
            split at hend
            · rename_i a4 H4 e5 e6
              split at hend
              · rename_i r e7
                have hj := Nat.eq_of_beq_eq_true e5
                subst hj
                have hr := vvEq_eq _ _ hend
                subst hr
                exact search_fn hrc hs hres (Nat.le_of_ble_eq_true hnt) (hs ▸ e1) g1 (hs ▸ e2) g2 hsh hLB e3 (iniAt_get hpre hini) hblk0 hag (fun i hi hg φ hφ => (hE i hi hg φ hφ).ok (by rw [hφ]; exact ext i hi hg)) hout hstep (hE2 ▸ hs ▸ e4) (hs ▸ e6) (hres ▸ e7) hvB hvG k
              · cases hend
            · cases hend
          · cases hend
        · cases hpre
      · cases hpre
    · cases hpre
  · cases hsh
theorem fact_cut {ρ : Rho} {x r : VV} {a : Option Addr} {l c size m : Nat} {hi : VV} {k : IntKind} (hx : sval ρ x = some (.slice a l c)) (hh : sval ρ hi = some (.int k m)) (hm : m ≤ c) (hr : sval ρ r = some (.slice a m c)) : FactOK ρ (.cut size x none (some hi) r) := by
  refine ⟨a, l, c, 0, m, hx, rfl, by simp [sbound, hh], Int.le_refl _, by omega, by omega, ?_⟩
  rw [hr]
  have e1 : (if c = (0 : Int).toNat then a else a.map (·.add ((0 : Int).toNat * size))) = a := by
    split
    · rfl
    · cases a with
      | none => rfl
      | some a => simp [Addr.add]
  rw [e1]
  simp
/-- A remainder, a quotient of numbers that are not negative. -/
theorem fact_rem {ρ : Rho} {k : IntKind} {x y r : VV} {a b : Int} (hx : sval ρ x = some (.int k a)) (hy : sval ρ y = some (.int k b)) (hb : b ≠ 0) (hr : sval ρ r = some (.int k (a.tmod b))) : FactOK ρ (.bin .rem x y r) := by
  refine ⟨_, _, _, hx, hy, hr, by simp, by simp, fun P t w => ?_⟩
  simp [binOp_rem, Op.intDiv, hb]
theorem fact_quo {ρ : Rho} {k : IntKind} {x y r : VV} {a b : Int} (hx : sval ρ x = some (.int k a)) (hy : sval ρ y = some (.int k b)) (hb : b ≠ 0) (hr : sval ρ r = some (.int k (k.wrap (a.tdiv b)))) : FactOK ρ (.bin .quo x y r) := by
  refine ⟨_, _, _, hx, hy, hr, by simp, by simp, fun P t w => ?_⟩
  simp [binOp_quo, Op.intDiv, hb]
/-! ### a loop in a function, and what is behind it -/
theorem stage [Ext] {P : Program} {rc : CE} (hrc : CEok P (· = none) rc) {w0 : World} {R0 : Rho → Prop} {sz nt : Nat} (hnt : nt ≤ top) (hsz : nt ≤ sz) {c : Code} {Q : Exit → Act → World → Prop} {a : VT} {H : VH} {k1 k2 id : Nat} {a₁ a₂ : VT} {H₁ H₂ : VH}
    (h1 : spineE rc nt k1 c a H = some (a₁, H₁)) (hq : isSeq (dropSeq k1 c) = true) (h2 : spineE rc nt k2 (seqL (dropSeq k1 c)) a₁ H₁ = some (a₂, H₂)) (hbk : isBlock id (dropSeq k2 (seqL (dropSeq k1 c))) = true) (hlp : isLoop (blockC (dropSeq k2 (seqL (dropSeq k1 c)))) = true)
    {LB : Code} (hLB : LB = loopAt c k1 k2) {rhoAt : Nat → Rho} {len : Nat} {EI : Nat → Env} {a0 : VT} {sp : Nat → List (Nat × VV)} {l' : TT VO} {nH N : Nat} {good : Nat → Bool} {a3 : VT} {H3 : VH} {Bad : Nat → VT → VH → Prop}
    (hsw : swB N nH a₂ H₂ a0 l' = true) (hb0 : ∀ i, (EI i).blk = H.base.blk)
    (hent : ∀ (φ : Phi) (tmps : Array Value), R0 φ.ρ → TR φ a₂ tmps → agree N φ.ρ (rhoAt 0) ∧ ∀ p ∈ sp 0, p.1 < top ∧ VR (φ.low nH (rhoAt 0)) p.2 (tmps.getD p.1 undef))
    (hag : ∀ i, i < len → agree N (rhoAt i) (rhoAt (i + 1))) (hE : ∀ i, i ≤ len → (∀ j, j < i → good j = true) → ∀ φ : Phi, φ.ρ = rhoAt i → EnvOK (EI i) φ w0)
    (hgood : ∀ i, i < len → good i = true → ∃ a' H', rc nt LB (putSp (sp i) a0) ⟨EI i, l', nH⟩ = some (.normal, a', H') ∧ swB N nH a' H' a0 l' = true ∧ ∀ p ∈ sp (i + 1), p.1 < top ∧ ∀ (φ φ' : Phi) (v : Value), φ.ρ = rhoAt i → φ'.ρ = rhoAt (i + 1) → VR φ (tget a' p.1) v → VR φ' p.2 v)
    (hbad : ∀ i, i < len → good i = false → ∃ a' H', rc nt LB (putSp (sp i) a0) ⟨EI i, l', nH⟩ = some (.ret, a', H') ∧ Bad i a' H')
    (hend : rc nt LB (putSp (sp len) a0) ⟨EI len, l', nH⟩ = some (.exit id, a3, H3))
    (hcont : ∀ act w, (∀ i, i < len → good i = true) → H3.base = EI len → RS w0 (· = rhoAt len) sz a3 H3 act w → (dropSeq (k1 + 1) c).wpIn (Fr none) 0 P Q act w)
    (hbadQ : ∀ i act w a' H', i < len → (∀ j, j < i → good j = true) → good i = false → Bad i a' H' → RS w0 (· = rhoAt i) sz a' H' act w → Q .ret act w)
    {act : Act} {w : World} (k : RS w0 R0 sz a H act w) : c.wpIn (Fr none) 0 P Q act w := by
  refine RS.spine hrc hnt hsz h1 k fun act w e1 k => ?_
  refine wp_seqAt hq ?_
  refine RS.spine hrc hnt hsz h2 k fun act w e2 k => ?_
  refine wp_blockAt hbk ?_
  refine wp_loopAt hlp ?_
  have hLB' : loopC (blockC (dropSeq k2 (seqL (dropSeq k1 c)))) = LB := hLB.symm
  rw [hLB']
  have k0 : RS w0 (· = rhoAt 0) sz (putSp (sp 0) a0) ⟨EI 0, l', nH⟩ act w := by
    refine RS.swap k hsw (by rw [e2, e1]; exact hb0 0) fun φ hφ ht _ => ?_
    obtain ⟨g1, g2⟩ := hent φ act.tmps hφ ht
    exact ⟨rhoAt 0, rfl, g1, hE 0 (Nat.zero_le _) (fun j hj => by omega) _ rfl, g2⟩
  refine wpIn_mono (loop_stage hrc hnt hsz (fun i j => (hb0 i).trans (hb0 j).symm) hag hE hgood hbad hend (by simp) k0) ?_
  rintro e act' w' (⟨i, hi, hg, hj, rfl, a', H', hb, k'⟩ | ⟨hg, rfl, hb, k'⟩)
  · exact hbadQ i act' w' a' H' hi hj hg hb k'
  · have hx : Exit.inBlock id (Exit.then ((dropSeq 1 (dropSeq k1 c)).wpIn (Fr none) 0 P Q) Q) (VX.exit id).real act' w' ↔ (dropSeq 1 (dropSeq k1 c)).wpIn (Fr none) 0 P Q act' w' := by
      simp [VX.real, Exit.inBlock, Exit.then]
    rw [hx, dropSeq_succ]
    exact hcont act' w' hg hb k'
/-- What a round comes to, where a temporary may be one of several symbols behind it: 0: it returns; else the symbol, and one. -/
def Side.outN (P : Program) (rc : CE) (N : Nat) (s : Side) (t : Nat × IntKind × Nat) (E : Env) : Option Nat := match rc s.nt s.LB (putSp ((t.1, .sint t.2.1 t.2.2) :: s.sp) s.a0) ⟨E, s.l, s.nH⟩ with
  | some (.normal, a, H) => match ixEq a s.ix, swB N s.nH a H s.a0 s.l, tget a t.1 with
    | true, true, .sint k q => match kEq k t.2.1, Nat.blt t.1 top with
      | true, true => some (q + 1)
      | _, _ => none
    | _, _, _ => none
  | some (.ret, a, H) => match resL P a H s.res with
    | some [r] => match vvEq r s.bad with
      | true => some 0
      | false => none
    | _ => none
  | _ => none
theorem Side.outN_succ {P : Program} {rc : CE} {N : Nat} {s : Side} {t : Nat × IntKind × Nat} {E : Env} {q : Nat} (h : s.outN P rc N t E = some (q + 1)) :
    ∃ a H, rc s.nt s.LB (putSp ((t.1, .sint t.2.1 t.2.2) :: s.sp) s.a0) ⟨E, s.l, s.nH⟩ = some (.normal, a, H) ∧ ixEq a s.ix = true ∧ swB N s.nH a H s.a0 s.l = true ∧ tget a t.1 = .sint t.2.1 q ∧ t.1 < top := by
  unfold Side.outN at h
  split at h
  · rename_i a H hr
    split at h
    · rename_i k q' h1 h2 h3
      split at h
      · rename_i h4 h5
        simp only [Option.some.injEq, Nat.add_right_cancel_iff] at h
        subst h
        have : k = t.2.1 := of_decide_eq_true h4
        exact ⟨a, H, hr, h1, h2, by rw [h3, this], lt_of_blt h5⟩
      · cases h
    · cases h
  · split at h
    · split at h <;> simp at h
    · cases h
  · cases h
theorem Side.outN_zero {P : Program} {rc : CE} {N : Nat} {s : Side} {t : Nat × IntKind × Nat} {E : Env} (h : s.outN P rc N t E = some 0) :
    ∃ a H, rc s.nt s.LB (putSp ((t.1, .sint t.2.1 t.2.2) :: s.sp) s.a0) ⟨E, s.l, s.nH⟩ = some (.ret, a, H) ∧ resL P a H s.res = some [s.bad] := by
  unfold Side.outN at h
  split at h
  · split at h
    · split at h <;> simp at h
    · cases h
  · rename_i a H hr
    split at h
    · rename_i r hq
      split at h
      · rename_i hv; rw [vvEq_eq _ _ hv] at hq; exact ⟨a, H, hr, hq⟩
      · cases h
    · cases h
  · cases h
end
end Go.Ev
