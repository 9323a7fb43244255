/- Engine, part V: calls of which is said what they tell; runs under assumptions; forks. -/
import Derived.Test.YticgadnmlbfmfaaEvU
namespace Go.Ev
noncomputable section
open Go.RowKit
/-! ### calls of which is said what they tell -/
/-- A call: of a function, with these arguments, where these blocks are so: it tells this, and leaves all below as it was. -/
structure KE where
  f : FuncId
  xs : List VV
  pre : List (Nat × VO)
  r : VV
def preB (H : VH) : List (Nat × VO) → Bool
  | [] => true
  | (i, o) :: l => match H.locs.get i with
    | some o' => match voEq o' o with
      | true => preB H l
      | false => false
    | none => false
def findE (f : FuncId) (args : List VV) (H : VH) : List KE → Option VV
  | [] => none
  | e :: l => match Nat.beq e.f f with
    | true => match vvsEq e.xs args with
      | true => match preB H e.pre with
        | true => some e.r
        | false => findE f args H l
      | false => findE f args H l
    | false => findE f args H l
def knL (KT : List KE) : KN := fun f args H => match findE f args H KT with
  | some r => some (r, H)
  | none => none
def preOK (φ : Phi) (pre : List (Nat × VO)) (w : World) : Prop := ∀ p ∈ pre, ∃ inf o', φ p.1 = some inf ∧ w.heap[inf.blk]? = some o' ∧ OR φ inf p.2 o'
def KEok (P : Program) (ρ : Rho) (w0 : World) (e : KE) : Prop :=
  ∀ (φ : Phi) (vs : List Value) (w : World), φ.ρ = ρ → w0.heap.size ≤ w.heap.size → (∀ k, k < w0.heap.size → w.heap[k]? = w0.heap[k]?) → VRs φ e.xs vs → preOK φ e.pre w →
    Calls P e.f ⟨vs⟩ w fun en w' => ∃ v, en = .returned v ∧ VR φ e.r v ∧ Below w.heap.size w w'
theorem findE_some {f : FuncId} {args : List VV} {H : VH} {r : VV} : ∀ {l : List KE}, findE f args H l = some r → ∃ e ∈ l, e.f = f ∧ e.xs = args ∧ preB H e.pre = true ∧ e.r = r
  | [], h => by simp [findE] at h
  | e :: l, h => by
    have next : findE f args H l = some r → ∃ e' ∈ e :: l, e'.f = f ∧ e'.xs = args ∧ preB H e'.pre = true ∧ e'.r = r := fun k => by
      obtain ⟨e', h1, h2⟩ := findE_some k
      exact ⟨e', by simp [h1], h2⟩
    simp only [findE] at h
    split at h
    · rename_i h1
      split at h
      · rename_i h2
        split at h
        · rename_i h3
          simp only [Option.some.injEq] at h
          exact ⟨e, by simp, Nat.eq_of_beq_eq_true h1, vvsEq_eq _ _ h2, h3, h⟩
        · exact next h
      · exact next h
    · exact next h
theorem preB_ok [Ext] {w0 : World} {φ : Phi} {H : VH} {w : World} (hs : HSim w0 φ H w) : ∀ {l : List (Nat × VO)}, preB H l = true → preOK φ l w
  | [], _ => fun p hp => by cases hp
  | (i, o) :: l, h => by
    simp only [preB] at h
    split at h
    · rename_i o' ho
      split at h
      · rename_i hv
        have := voEq_eq hv
        subst this
        intro p hp
        rcases List.mem_cons.1 hp with rfl | hp
        · obtain ⟨inf, o'', h1, h2, h3, _⟩ := hs.live i _ ho
          exact ⟨inf, o'', h1, h2, h3⟩
        · exact preB_ok hs h p hp
      · cases h
    · cases h
theorem knL_ok [Ext] {P : Program} {KT : List KE} (hx : ∀ ρ w0, Ext.ok ρ w0 → ∀ e ∈ KT, KEok P ρ w0 e) : KnOK P (knL KT) := by
  intro w0 f args H v H' h
  unfold knL at h
  split at h
  · rename_i r hr
    simp only [Option.some.injEq, Prod.mk.injEq] at h
    obtain ⟨rfl, rfl⟩ := h
    obtain ⟨e, he, rfl, rfl, h3, rfl⟩ := findE_some hr
    intro φ w args' ha hs
    refine (hx φ.ρ w0 hs.env.ext e he φ args' w rfl hs.oldSize hs.old ha (preB_ok hs h3)).mono ?_
    rintro en w' ⟨v', rfl, hv, hb⟩
    exact ⟨e.r, v', φ, H, rfl, St.below hb, hv, hs.below hb, rfl, rfl, rfl⟩
  · cases h
/-! ### a run under assumptions -/
def runE (P : Program) (kn : KN) (n : Nat) (f : FuncId) (xs : List VV) (E : Env) : Option (VV × VH) := (evN P (drawRun P) kn n).2.call f xs ⟨E, .lf, 0⟩
theorem runE_calls [Ext] {P : Program} (hng : NoNG P) (hm : P.follows .mixedOrders = true) {kn : KN} (hk : KnOK P kn) {n : Nat} {f : FuncId} {xs : List VV} {E : Env} {v : VV} {H' : VH} (h : runE P kn n f xs E = some (v, H')) {w : World} {ρ : Rho}
    (hE : EnvOK E ⟨fun _ => none, ρ⟩ w) (hb : ∀ r b, E.blk r = some b → ∃ o, w.heap[r]? = some o ∧ BOR b o) {args : List Value} (ha : VRs ⟨fun _ => none, ρ⟩ xs args) :
    Calls P f ⟨args⟩ w fun e w' => ∃ v' φ', e = .returned v' ∧ φ'.ρ = ρ ∧ VR φ' v v' ∧ Below w.heap.size w w' := by
  have hc := (evF_ok hng hm hk n).call w f xs ⟨E, .lf, 0⟩ v H' h ⟨fun _ => none, ρ⟩ w args ha (HSim.startE hE hb)
  refine hc.mono ?_
  rintro e w' ⟨u, v', φ', H'', rfl, k1, k2, k3, _, rfl, rfl⟩
  exact ⟨v', φ', rfl, k1.le.2, k2, below_of k1 k3⟩
/-! ### forks -/
abbrev Ivs := List (Int × Int)
/-- A symbol that is not listed is any number of 64 bits. -/
def ivAt (l : Ivs) (i : Nat) : Int × Int := match lget l i with
  | some p => p
  | none => (-9223372036854775808, 9223372036854775807)
def ivHi : Ivs → Nat → Int → Ivs
  | [], _, _ => []
  | (a, b) :: l, 0, c => (a, match decide (b ≤ c) with | true => b | false => c) :: l
  | p :: l, n + 1, c => p :: ivHi l n c
def ivLo : Ivs → Nat → Int → Ivs
  | [], _, _ => []
  | (a, b) :: l, 0, c => (match decide (c ≤ a) with | true => a | false => c, b) :: l
  | p :: l, n + 1, c => p :: ivLo l n c
inductive Tr where
  | leaf
  | cut (i : Nat) (c : Int) (l r : Tr)
  | rel (k : IntKind) (i j : Nat) (l r : Tr)
/-- All leaves pass. -/
def chkT (lc : Ivs → List Fact → Bool) : Tr → Ivs → List Fact → Bool
  | .leaf, iv, fs => lc iv fs
  | .cut i c l r, iv, fs => match chkT lc l (ivHi iv i c) fs with
    | true => chkT lc r (ivLo iv i (c + 1)) fs
    | false => false
  | .rel k i j l r, iv, fs => match chkT lc l iv (.bin .lss (.sint k i) (.sint k j) (.bool true) :: fs) with
    | true => chkT lc r iv (.bin .lss (.sint k i) (.sint k j) (.bool false) :: fs)
    | false => false
def IvOK (iv : Ivs) (ρ : Rho) : Prop := ∀ i, (ivAt iv i).1 ≤ ρ.int i ∧ ρ.int i ≤ (ivAt iv i).2
def FsOK (fs : List Fact) (ρ : Rho) : Prop := ∀ f ∈ fs, FactOK ρ f
theorem ivAt_hi : ∀ (iv : Ivs) (i : Nat) (c : Int) (j : Nat), ivAt (ivHi iv i c) j = ivAt iv j ∨ (j = i ∧ ivAt (ivHi iv i c) j = ((ivAt iv j).1, c))
  | [], i, c, j => .inl (by simp [ivHi])
  | (a, b) :: l, 0, c, 0 => by
    simp only [ivHi, ivAt, lget]
    cases h : decide (b ≤ c) with
    | true => exact .inl rfl
    | false => exact .inr (by simp)
  | (a, b) :: l, 0, c, j + 1 => .inl (by simp [ivHi, ivAt, lget])
  | p :: l, n + 1, c, 0 => .inl (by simp [ivHi, ivAt, lget])
  | p :: l, n + 1, c, j + 1 => by
    rcases ivAt_hi l n c j with h | ⟨h1, h2⟩
    · exact .inl (by simpa [ivHi, ivAt, lget] using h)
    · exact .inr ⟨by omega, by simpa [ivHi, ivAt, lget] using h2⟩
theorem ivAt_lo : ∀ (iv : Ivs) (i : Nat) (c : Int) (j : Nat), ivAt (ivLo iv i c) j = ivAt iv j ∨ (j = i ∧ ivAt (ivLo iv i c) j = (c, (ivAt iv j).2))
  | [], i, c, j => .inl (by simp [ivLo])
  | (a, b) :: l, 0, c, 0 => by
    simp only [ivLo, ivAt, lget]
    cases h : decide (c ≤ a) with
    | true => exact .inl rfl
    | false => exact .inr (by simp)
  | (a, b) :: l, 0, c, j + 1 => .inl (by simp [ivLo, ivAt, lget])
  | p :: l, n + 1, c, 0 => .inl (by simp [ivLo, ivAt, lget])
  | p :: l, n + 1, c, j + 1 => by
    rcases ivAt_lo l n c j with h | ⟨h1, h2⟩
    · exact .inl (by simpa [ivLo, ivAt, lget] using h)
    · exact .inr ⟨by omega, by simpa [ivLo, ivAt, lget] using h2⟩
theorem IvOK.hi {iv : Ivs} {ρ : Rho} (h : IvOK iv ρ) {i : Nat} {c : Int} (hc : ρ.int i ≤ c) : IvOK (ivHi iv i c) ρ := by
  intro j
  rcases ivAt_hi iv i c j with e | ⟨rfl, e⟩
  · rw [e]; exact h j
  · rw [e]; exact ⟨(h j).1, hc⟩
theorem IvOK.lo {iv : Ivs} {ρ : Rho} (h : IvOK iv ρ) {i : Nat} {c : Int} (hc : c ≤ ρ.int i) : IvOK (ivLo iv i c) ρ := by
  intro j
  rcases ivAt_lo iv i c j with e | ⟨rfl, e⟩
  · rw [e]; exact h j
  · rw [e]; exact ⟨hc, (h j).2⟩
theorem factLss {ρ : Rho} {k : IntKind} {i j : Nat} {b : Bool} (h : decide (ρ.int i < ρ.int j) = b) : FactOK ρ (.bin .lss (.sint k i) (.sint k j) (.bool b)) := by
  refine ⟨_, _, _, rfl, rfl, rfl, by simp, by simp, fun P t w => ?_⟩
  simp [binOp, Op.intCmp, h]
/-- The leaf at which a choice of numbers ends. -/
def leafOf : Tr → (Nat → Int) → Ivs → List Fact → Ivs × List Fact
  | .leaf, _, iv, fs => (iv, fs)
  | .cut i c l r, v, iv, fs => if v i ≤ c then leafOf l v (ivHi iv i c) fs else leafOf r v (ivLo iv i (c + 1)) fs
  | .rel k i j l r, v, iv, fs => if v i < v j then leafOf l v iv (.bin .lss (.sint k i) (.sint k j) (.bool true) :: fs) else leafOf r v iv (.bin .lss (.sint k i) (.sint k j) (.bool false) :: fs)
/-- What holds at each leaf holds. -/
theorem leafOf_ok {lc : Ivs → List Fact → Bool} {ρ : Rho} {v : Nat → Int} (hv : ρ.int = v) : ∀ {t : Tr} {iv : Ivs} {fs : List Fact}, chkT lc t iv fs = true → IvOK iv ρ → FsOK fs ρ → lc (leafOf t v iv fs).1 (leafOf t v iv fs).2 = true ∧ IvOK (leafOf t v iv fs).1 ρ ∧ FsOK (leafOf t v iv fs).2 ρ
  | .leaf, iv, fs, h, hi, hf => ⟨h, hi, hf⟩
  | .cut i c l r, iv, fs, h, hi, hf => by
    simp only [chkT] at h
    split at h
    · rename_i h1
      by_cases hc : v i ≤ c
      · simp only [leafOf, if_pos hc]
        exact leafOf_ok hv h1 (hi.hi (by rw [hv]; exact hc)) hf
      · simp only [leafOf, if_neg hc]
        exact leafOf_ok hv h (hi.lo (by rw [hv]; omega)) hf
    · cases h
  | .rel k i j l r, iv, fs, h, hi, hf => by
    simp only [chkT] at h
    split at h
    · rename_i h1
      by_cases hc : v i < v j
      · simp only [leafOf, if_pos hc]
        refine leafOf_ok hv h1 hi fun f hf' => ?_
        rcases List.mem_cons.1 hf' with rfl | k
        · exact factLss (by rw [hv]; exact decide_eq_true hc)
        · exact hf f k
      · simp only [leafOf, if_neg hc]
        refine leafOf_ok hv h hi fun f hf' => ?_
        rcases List.mem_cons.1 hf' with rfl | k
        · exact factLss (by rw [hv]; exact decide_eq_false hc)
        · exact hf f k
    · cases h
/-- Only symbols below this one are asked. -/
def trLow (m : Nat) : Tr → Bool
  | .leaf => true
  | .cut i _ l r => match Nat.blt i m, trLow m l with
    | true, true => trLow m r
    | _, _ => false
  | .rel _ i j l r => match Nat.blt i m, Nat.blt j m, trLow m l with
    | true, true, true => trLow m r
    | _, _, _ => false
theorem leafOf_congr {m : Nat} {v v' : Nat → Int} (hv : ∀ i, i < m → v i = v' i) : ∀ {t : Tr} {iv : Ivs} {fs : List Fact}, trLow m t = true → leafOf t v iv fs = leafOf t v' iv fs
  | .leaf, iv, fs, _ => rfl
  | .cut i c l r, iv, fs, h => by
    simp only [trLow] at h
    split at h
    · rename_i h1 h2
      simp only [leafOf, hv i (lt_of_blt h1), leafOf_congr hv h2, leafOf_congr hv h]
    · cases h
  | .rel k i j l r, iv, fs, h => by
    simp only [trLow] at h
    split at h
    · rename_i h1 h2 h3
      simp only [leafOf, hv i (lt_of_blt h1), hv j (lt_of_blt h2), leafOf_congr hv h3, leafOf_congr hv h]
    · cases h
/-- A symbol, or its only value. -/
def sv (iv : Ivs) (k : IntKind) (i : Nat) : VV := match ivAt iv i with
  | (l, h) => match decide (l = h) with
    | true => .int k l
    | false => .sint k i
theorem VR_sv {iv : Ivs} {φ : Phi} (h : IvOK iv φ.ρ) (k : IntKind) (i : Nat) : VR φ (sv iv k i) (.int k (φ.ρ.int i)) := by
  unfold sv
  have hi := h i
  split
  rename_i l h' e
  rw [e] at hi
  simp only at hi
  split
  · rename_i hd
    have := of_decide_eq_true hd
    subst this
    simp only [VR]
    congr 1
    omega
  · simp only [VR]
end
end Go.Ev
