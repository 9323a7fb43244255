/- Engine, part 6: functions as automata over blocks that are there: contracts that tell new memory, or change blocks. -/
import Derived.Test.YtgbhmkdldfhamaaEv5
namespace Go.Ev
set_option linter.unusedVariables false
noncomputable section
open Go.RowKit
/-- What is there, seen by other symbols, its blocks by other numbers. -/
theorem HSim.move [Ext] {w0 : World} {φ : Phi} {ρ' : Rho} {N n : Nat} {m : TT Nat} {a₁ a' : VT} {H₁ : VH} {l' : TT VO} {ps : Prs} {E' : Env} {tmps : Array Value} {w : World} (k2 : TR φ a₁ tmps) (k3 : HSim w0 φ H₁ w) (hs : mvS N n m a₁ H₁.locs a' l' = some ps) (hb : E'.blk = H₁.base.blk)
    (ha : agree N φ.ρ ρ') (hc : ∀ p ∈ ps, Car φ.ρ ρ' p) (hE : ∀ ψ : Phi, ψ.ρ = ρ' → EnvOK E' ψ w0) : TR (φ.mv m ρ') a' tmps ∧ HSim w0 (φ.mv m ρ') ⟨E', l', n⟩ w := by
  unfold mvS at hs
  split at hs
  · rename_i s1 s2 s3 s4
    split at hs
    · rename_i l s5
      have hl : ∀ {j o}, l'.get j = some o → (j, o) ∈ TT.ents l' 1 0 [] := fun {j o} h => by
        have := TT.ents_mem (a := 1) (b := 0) (l := []) h
        simpa only [Nat.one_mul, Nat.add_zero] using this
      have ht : ∀ {t y}, a'.get t = some y → (t, y) ∈ TT.ents a' 1 0 [] := fun {t y} h => by
        have := TT.ents_mem (a := 1) (b := 0) (l := []) h
        simpa only [Nat.one_mul, Nat.add_zero] using this
      have cl : ∀ p ∈ l, Car φ.ρ ρ' p := fun p hp => hc p (mvH_sub hs p hp)
      refine ⟨fun t => ?_, ⟨hE _ rfl, fun r b h => k3.base r b (by rw [← hb]; exact h), k3.old, fun i inf hi => ?_, Nat.le_of_ble_eq_true s3, fun j o hj => ?_, fun i j oi oj inf jnf hi hj h1 h2 h3 => ?_, fun j hj => ?_, fun i inf hi => ?_⟩⟩
      · have kt := k2 t
        have := TT.all2_get (p := keyT) rfl s1 t
        cases hy : a'.get t with
        | none =>
          have hx : a₁.get t = none := by
            rw [hy] at this
            cases hx : a₁.get t with
            | none => rfl
            | some x => rw [hx] at this; cases this
          unfold tget at kt ⊢
          rw [hx] at kt
          rw [hy]
          exact mv_low (by rfl) kt
        | some y =>
          have e : tget a' t = y := by unfold tget; rw [hy]
          rw [e]
          exact mvT_ok ha s5 cl t y (ht hy) _ kt
      · obtain ⟨i', _, h2⟩ := Phi.mv_of hi
        exact k3.own i' inf h2
      · obtain ⟨i, o1, g1, g2, g3⟩ := mvH_ok ha hs hc j o (hl hj)
        obtain ⟨inf, x, h1, h2, h3, h4⟩ := k3.live i o1 g2
        exact ⟨inf, x, by rw [Phi.mv_at g1]; exact h1, h2, g3 inf x h3, by show E'.blk inf.blk = none; rw [hb]; exact h4⟩
      · obtain ⟨i1, o1, g1, g2, _⟩ := mvH_ok ha hs hc i oi (hl hi)
        obtain ⟨j1, o2, g3, g4, _⟩ := mvH_ok ha hs hc j oj (hl hj)
        rw [Phi.mv_at g1] at h1
        rw [Phi.mv_at g3] at h2
        have := k3.inj i1 j1 o1 o2 inf jnf g2 g4 h1 h2 h3
        subst this
        exact srcs_inj s4 (hl hi) (hl hj) g1 g3
      · show (match m.get j with | some i => φ i | none => none) = none
        cases hm : m.get j with
        | none => rfl
        | some i =>
          have : j < n := TT.klt_get s2 hm
          have hj' : n ≤ j := hj
          omega
      · obtain ⟨i', _, h2⟩ := Phi.mv_of hi
        exact k3.bound i' inf h2
    · cases hs
  · cases hs
/-! ### what a run began with -/
structure Frm where
  w : World
  f : Nat → Option Inf
def Frm.S (F : Frm) (k : Nat) : Prop := ∃ i inf, F.f i = some inf ∧ inf.blk = k
/-- Only its own blocks have turned since; the first ones have their numbers still. -/
structure FrOK (F : Frm) (φ : Phi) (w : World) : Prop where
  wk : WK F.w w
  frame : ∀ k, k < F.w.heap.size → ¬ F.S k → w.heap[k]? = F.w.heap[k]?
  own : ∀ i inf, φ i = some inf → F.S inf.blk ∨ F.w.heap.size ≤ inf.blk
  pin : ∀ i inf, F.f i = some inf → φ i = some inf
theorem FrOK.step {F : Frm} {φ φ' : Phi} {w w' : World} (k : FrOK F φ w) (h : St φ w φ' w') : FrOK F φ' w' := by
  refine ⟨k.wk.trans h.wk, fun i hi hs => ?_, fun i inf hi => ?_, fun i inf hi => h.le.1 i inf (k.pin i inf hi)⟩
  · rw [h.frame i (Nat.lt_of_lt_of_le hi k.wk.size) fun j jnf hj e => ?_, k.frame i hi hs]
    rcases k.own j jnf hj with g | g
    · exact hs (e ▸ g)
    · omega
  · rcases h.own i inf hi with ⟨j, jnf, h1, h2⟩ | h1
    · rcases k.own j jnf h1 with g | g
      · exact .inl (h2 ▸ g)
      · exact .inr (by omega)
    · exact .inr (Nat.le_trans k.wk.size h1)
theorem FrOK.start {F : Frm} {ρ : Rho} : FrOK F ⟨F.f, ρ⟩ F.w := ⟨.refl _, fun _ _ _ => rfl, fun i inf h => .inl ⟨i, inf, h, rfl⟩, fun _ _ h => h⟩
theorem FrOK.mv {F : Frm} {φ : Phi} {w : World} {m : TT Nat} {ρ' : Rho} (k : FrOK F φ w) (hm : ∀ i inf, F.f i = some inf → m.get i = some i) : FrOK F (φ.mv m ρ') w :=
  ⟨k.wk, k.frame, fun i inf hi => let ⟨j, _, h2⟩ := Phi.mv_of hi; k.own j inf h2, fun i inf hi => by rw [Phi.mv_at (hm i inf hi)]; exact k.pin i inf hi⟩
def RSF [Ext] (F : Frm) (w0 : World) (R : Rho → Prop) (sz : Nat) (a : VT) (H : VH) (act : Act) (w : World) : Prop :=
  ∃ φ : Phi, R φ.ρ ∧ TR φ a act.tmps ∧ HSim w0 φ H w ∧ FrOK F φ w ∧ act.tmps.size = sz ∧ MarksOK (fun r => F.w.heap.size ≤ r) w0 φ H w act.defers
theorem RSF.cs [Ext] {P : Program} {F : Frm} {w0 : World} {R : Rho → Prop} {sz nt : Nat} {c : Code} {a a₁ : VT} {H H₁ : VH} {x : VX} (h : CS P nt c a H x a₁ H₁) (hnt : nt ≤ top) (hsz : nt ≤ sz) {act : Act} {w : World} (k : RSF F w0 R sz a H act w) :
    c.wpIn (Fr none) 0 P (fun e act' w' => e = x.real ∧ H₁.base = H.base ∧ RSF F w0 R sz a₁ H₁ act' w') act w := by
  obtain ⟨φ, k1, k2, k3, k4, k5, k6⟩ := k
  refine wpIn_mono (h hnt w0 φ act w k2 k3 (by omega) (fun r => F.w.heap.size ≤ r) (fun _ r hr => Nat.le_trans k4.wk.size hr) k6) ?_
  rintro e act' w' ⟨φ', h1, h2, h3, h4, h5, h6, h7⟩
  exact ⟨h1, h5, φ', by rw [h2.le.2]; exact k1, h3, h4, k4.step h2, h6.trans k5, h7⟩
theorem RSF.move [Ext] {F : Frm} {w0 : World} {ρ ρ' : Rho} {sz N n : Nat} {m : TT Nat} {a₁ a' : VT} {H₁ : VH} {l' : TT VO} {ps : Prs} {E' : Env} {act : Act} {w : World} (k : RSF F w0 (· = ρ) sz a₁ H₁ act w) (hm : ∀ i inf, F.f i = some inf → m.get i = some i) (hs : mvS N n m a₁ H₁.locs a' l' = some ps) (hb : E'.blk = H₁.base.blk)
    (ha : agree N ρ ρ') (hc : ∀ p ∈ ps, Car ρ ρ' p) (hE : ∀ φ : Phi, φ.ρ = ρ' → EnvOK E' φ w0) : RSF F w0 (· = ρ') sz a' ⟨E', l', n⟩ act w := by
  obtain ⟨φ, k1, k2, k3, k4, k5, rs, m1, m2, m3⟩ := k
  subst k1
  obtain ⟨g1, g2⟩ := HSim.move k2 k3 hs hb ha hc hE
  refine ⟨φ.mv m ρ', rfl, g1, g2, k4.mv hm, k5, rs, m1, m2, fun r hr => ?_⟩
  obtain ⟨q1, q2, q3, q4, q5⟩ := m3 r hr
  exact ⟨q1, q2, fun i inf hi => let ⟨i', _, h2⟩ := Phi.mv_of hi; q3 i' inf h2, q4, by show E'.blk r = none; rw [hb]; exact q5⟩
section
variable {P : Program} {Q : Exit → Act → World → Prop} {HD : Nat → Act → World → Prop}
theorem segF_sound [Ext] {rc : CE} (hrc : CEok P (· = none) rc) {F : Frm} {w0 : World} {R : Rho → Prop} {sz nt : Nat} (hnt : nt ≤ top) (hsz : nt ≤ sz) {body : Code} {S : List Nat} : ∀ {f : Nat} {c : Code} {n : Nat} {K : List Fr1} {a : VT} {H : VH} {o : SegO}, At1 body c n K → KOK body K → seg rc nt S f c n K a H = some o →
    ∀ {act : Act} {w : World}, RSF F w0 R sz a H act w →
    (match o with
      | .cut t a' H' => ∀ act' w', H'.base = H.base → RSF F w0 R sz a' H' act' w' → HD t act' w' ∧ ∀ c' K', ctx t body 0 [] = some (c', K') → (Code.loop c').wpIn (Fr none) 0 P (postK P HD Q K') act' w'
      | .out x a' H' => ∀ act' w', H'.base = H.base → RSF F w0 R sz a' H' act' w' → Q x.real act' w') →
    c.wpIn (Fr none) 0 P (postK P HD Q K) act w
  | 0, c, n, K, a, H, o, _, _, h, _, _, _, _ => by simp [seg] at h
  | f + 1, c, n, K, a, H, o, hat, hk, h, act, w, k, hq => by
    simp only [seg] at h
    split at h
    · split at h
      · rename_i x a' H' hr
        refine wpIn_mono (RSF.cs (fun hnt w0 φ act w ht hs hn b hbs hd => hrc w0 nt c a H x a' H' hr hnt none rfl φ act w ht hs hn b hbs hd) hnt hsz k) ?_
        rintro e act' w' ⟨rfl, q1, q2⟩
        refine pop_sound hk ?_
        split at h
        · rename_i y m K' hp
          rw [hp]
          intro g1 g2
          refine segF_sound hrc hnt hsz g1 g2 h q2 ?_
          cases o with
          | cut t a'' H'' => exact fun act'' w'' e => hq act'' w'' (e.trans q1)
          | out x a'' H'' => exact fun act'' w'' e => hq act'' w'' (e.trans q1)
        · rename_i m hp
          rw [hp]
          simp only [Option.some.injEq] at h
          subst h
          exact (hq act' w' q1 q2).1
        · rename_i x' hp
          rw [hp]
          simp only [Option.some.injEq] at h
          subst h
          exact hq act' w' q1 q2
      · cases h
    · split at h
      · rename_i x y _
        refine wpIn_seq ?_
        exact segF_sound hrc hnt hsz (K := .sq y (n + nl x) :: K) hat.seq.1 ⟨hat.seq.2, hk⟩ h k hq
      · rename_i id c _
        refine wpIn_block ?_
        exact segF_sound hrc hnt hsz (K := .bk id :: K) hat.block hk h k hq
      · rename_i oc x y _
        split at h
        · rename_i b hb
          obtain ⟨φ, k1, k2, k3⟩ := k
          have hv := evOperand_sound k2 hb
          simp only [VR] at hv
          have k : RSF F w0 R sz a H act w := ⟨φ, k1, k2, k3⟩
          split at h
          · exact wpIn_cond hv (segF_sound hrc hnt hsz hat.cond.1 hk h k hq)
          · exact wpIn_cond hv (segF_sound hrc hnt hsz hat.cond.2 hk h k hq)
        · cases h
      · simp only [Option.some.injEq] at h
        subst h
        exact (hq act w rfl k).2 _ _ hat.loop.1
      · cases h
end
/-! ### cuts; the first blocks keep their numbers; an end is a cut without a loop -/
def pinM : Nat → TT Nat → TT Nat
  | 0, m => m
  | k + 1, m => pinM k (m.put k k)
def pinB : Nat → TT Nat → Bool
  | 0, _ => true
  | k + 1, m => match m.get k with
    | some i => match Nat.beq i k with
      | true => pinB k m
      | false => false
    | none => false
theorem pinB_ok {m : TT Nat} : ∀ {n : Nat}, pinB n m = true → ∀ k, k < n → m.get k = some k
  | 0, _, k, hk => by omega
  | n + 1, h, k, hk => by
    simp only [pinB] at h
    split at h
    · rename_i i hi
      split at h
      · rename_i hb
        by_cases e : k = n
        · rw [e, hi, Nat.eq_of_beq_eq_true hb]
        · exact pinB_ok h k (by omega)
      · cases h
    · cases h
def moveM (n : Nat) (d : CutP) (a : VT) (H : VH) (xs : List VV) (m : TT Nat) : Bool := match pinB n m with
  | true => match mvS d.N d.nH m a H.locs d.a0 d.l with
    | some ps => fstsE ps xs d.ys
    | none => false
  | false => false
/-- Which block is which (a guess), some being known. -/
def findS (m0 : TT Nat) (a : VT) (L : TT VO) (a' : VT) (l' : TT VO) : TT Nat :=
  fmH L (TT.ents l' 1 0 []) (fmH L (TT.ents l' 1 0 []) (fmH L (TT.ents l' 1 0 []) (fmT a (TT.ents a' 1 0 []) m0)))
def moveF (n : Nat) (d : CutP) (a : VT) (H : VH) (xs : List VV) : Bool := moveM n d a H xs (findS (pinM n .lf) a H.locs d.a0 d.l)
theorem moveF_ok {n : Nat} {d : CutP} {a : VT} {H : VH} {xs : List VV} (h : moveF n d a H xs = true) : ∃ m ps, (∀ k, k < n → m.get k = some k) ∧ mvS d.N d.nH m a H.locs d.a0 d.l = some ps ∧ fstsE ps xs d.ys = true := by
  unfold moveF moveM at h
  split at h
  · rename_i h1
    split at h
    · rename_i ps h2
      exact ⟨_, ps, pinB_ok h1, h2, h⟩
    · cases h
  · cases h
/-- An end of a function's body. -/
def endX : VX → Bool
  | .exit _ => false
  | _ => true
def chkLfH (P : Program) (rc : CE) (nt : Nat) (S : List Nat) (fuel : Nat) (res : List ResultVar) (body : Code) (C : List CutP) (n : Nat) (c : CutP) (iv : Ivs) (fs : List Fact) : Leaf → Bool
  | .goto q xs => match c.run rc nt S fuel body (c.E iv fs), lget C q with
    | some (.cut t a H), some d => match d.lab with
      | some t' => match Nat.beq t t' with
        | true => moveF n d a H xs
        | false => false
      | none => false
    | some (.out x a H), some d => match endX x, d.lab with
      | true, none => match resL P a H res with
        | some rs => moveF n d (listT [oneV rs] 0 .lf) H xs
        | none => false
      | _, _ => false
    | _, _ => false
  | .ret _ => false
def chkPH (P : Program) (rc : CE) (nt : Nat) (S : List Nat) (fuel : Nat) (res : List ResultVar) (body : Code) (C : List CutP) (n : Nat) (c : CutP) : Bool := chkX (chkLfH P rc nt S fuel res body C n c) c.tr c.iv []
/-- From a cut on: where a function ends. -/
inductive RunsH [Ext] (C : List CutP) (w0 : World) (q' : Nat) (ρ' : Rho) : Nat → Nat → Rho → Prop where
  | exit {p : Nat} {ρ : Rho} {c d : CutP} {xs : List VV} : lget C p = some c → c.OK w0 ρ → valX c.tr ρ.int = .goto q' xs → lget C q' = some d → d.lab = none → agree d.N ρ ρ' → carry ρ ρ' xs d.ys → d.OK w0 ρ' → RunsH C w0 q' ρ' 0 p ρ
  | step {k p q : Nat} {ρ ρ1 : Rho} {c d : CutP} {xs : List VV} : lget C p = some c → c.OK w0 ρ → valX c.tr ρ.int = .goto q xs → lget C q = some d → d.lab ≠ none → agree d.N ρ ρ1 → carry ρ ρ1 xs d.ys → RunsH C w0 q' ρ' k q ρ1 → RunsH C w0 q' ρ' (k + 1) p ρ
theorem RunsH.ok [Ext] {C : List CutP} {w0 : World} {q' : Nat} {ρ' : Rho} {k p : Nat} {ρ : Rho} (h : RunsH C w0 q' ρ' k p ρ) : ∃ c, lget C p = some c ∧ c.OK w0 ρ := by
  cases h with
  | exit h1 h2 _ _ _ _ _ _ => exact ⟨_, h1, h2⟩
  | step h1 h2 _ _ _ _ _ _ => exact ⟨_, h1, h2⟩
/-- What there is at an end. -/
def ExitOK [Ext] (F : Frm) (w0 : World) (d : CutP) (ρ' : Rho) (v : Value) (w : World) : Prop := ∃ φ : Phi, φ.ρ = ρ' ∧ VR φ (tget d.a0 0) v ∧ HSim w0 φ ⟨d.env ρ', d.l, d.nH⟩ w ∧ FrOK F φ w
def EndsH [Ext] (P : Program) (fn : Func) (F : Frm) (w0 : World) (d : CutP) (ρ' : Rho) (e : Exit) (act : Act) (w : World) : Prop :=
  (e = .ret ∨ e = .normal) ∧ ∃ (φ : Phi) (a : VT) (H : VH) (rs : List VV), TR φ a act.tmps ∧ HSim w0 φ H w ∧ FrOK F φ w ∧ act.tmps.size = fn.ntmps ∧ MarksOK (fun r => F.w.heap.size ≤ r) w0 φ H w act.defers ∧ resL P a H fn.results.toList = some rs ∧ ∀ w'' v, HSim w0 φ H w'' → FrOK F φ w'' → VR φ (oneV rs) v → ExitOK F w0 d ρ' v w''
section
variable {P : Program}
def HeadF [Ext] (C : List CutP) (F : Frm) (w0 : World) (q' : Nat) (ρ' : Rho) (nt : Nat) (k : Nat) (t : Nat) (act : Act) (w : World) : Prop :=
  ∃ j p c ρ, j ≤ k ∧ lget C p = some c ∧ c.lab = some t ∧ RunsH C w0 q' ρ' j p ρ ∧ RSF F w0 (· = ρ) nt c.a0 ⟨c.env ρ, c.l, c.nH⟩ act w
theorem HeadF.mono [Ext] {C : List CutP} {F : Frm} {w0 : World} {q' : Nat} {ρ' : Rho} {nt k k' t : Nat} (hk : k ≤ k') {act : Act} {w : World} (h : HeadF C F w0 q' ρ' nt k t act w) : HeadF C F w0 q' ρ' nt k' t act w := by
  obtain ⟨j, p, c, ρ, h1, h2⟩ := h
  exact ⟨j, p, c, ρ, by omega, h2⟩
structure AutoH [Ext] (P : Program) (rc : CE) (fn : Func) (body : Code) (S : List Nat) (fuel : Nat) (C : List CutP) (B : Nat → Option BO) (n : Nat) : Prop where
  rcok : CEok P (· = none) rc
  chkc : ∀ p c, lget C p = some c → c.tr = .leaf (.ret .any) ∨ chkPH P rc fn.ntmps S fuel fn.results.toList body C n c = true
  blk : ∀ p c, lget C p = some c → ∀ iv fs, (c.E iv fs).blk = B
  nt : fn.ntmps ≤ top
theorem partF_ok [Ext] {rc : CE} {fn : Func} {body : Code} {S : List Nat} {fuel : Nat} {C : List CutP} {B : Nat → Option BO} {n0 : Nat} (A : AutoH P rc fn body S fuel C B n0) {F : Frm} (hF : ∀ i inf, F.f i = some inf → i < n0) {w0 : World} {q' : Nat} {ρ' : Rho} {dq : CutP} (hdq : lget C q' = some dq) {HD : Nat → Act → World → Prop} {k p : Nat} {c : CutP} {ρ : Rho} {b : Code} {n : Nat} {K : List Fr1} (hp : lget C p = some c) (hrun : c.run rc fn.ntmps S fuel body (c.env ρ) = seg rc fn.ntmps S fuel b n K c.a0 ⟨c.env ρ, c.l, c.nH⟩) (hat : At1 body b n K) (hk : KOK body K)
    (hr : RunsH C w0 q' ρ' k p ρ)
    (hHD : ∀ t act w, (∃ j, j < k ∧ HeadF C F w0 q' ρ' fn.ntmps j t act w) → HD t act w ∧ ∀ c' K', ctx t body 0 [] = some (c', K') → (Code.loop c').wpIn (Fr none) 0 P (postK P HD (EndsH P fn F w0 dq ρ') K') act w)
    {act : Act} {w : World} (k0 : RSF F w0 (· = ρ) fn.ntmps c.a0 ⟨c.env ρ, c.l, c.nH⟩ act w) : b.wpIn (Fr none) 0 P (postK P HD (EndsH P fn F w0 dq ρ') K) act w := by
  rcases A.chkc p c hp with htr | hch
  · exfalso
    cases hr with
    | exit h1 h2 h3 => rw [hp] at h1; cases h1; rw [htr] at h3; simp [valX] at h3
    | step h1 h2 h3 => rw [hp] at h1; cases h1; rw [htr] at h3; simp [valX] at h3
  have key := valX_ok (v := ρ.int) hch
  cases hr with
  | @exit _ _ c' d xs h1 h2 h3 h4 h5 h6 h7 h8 =>
    rw [hp] at h1
    cases h1
    rw [hdq] at h4
    cases h4
    rw [h3] at key
    simp only [chkLfH] at key
    have e : c.E (leafOf c.tr.tr ρ.int c.iv []).1 (leafOf c.tr.tr ρ.int c.iv []).2 = c.env ρ := rfl
    rw [e] at key
    split at key
    · rename_i t a H d' hseg hd
      rw [hdq] at hd
      cases hd
      rw [h5] at key
      cases key
    · rename_i x a H d' hseg hd
      rw [hdq] at hd
      cases hd
      split at key
      · rename_i hend hlab
        have hx : x.real = .ret ∨ x.real = .normal := by
          cases x with
          | ret => exact .inl rfl
          | normal => exact .inr rfl
          | exit _ => simp [endX] at hend
        split at key
        · rename_i rs hres
          rw [hrun] at hseg
          refine segF_sound A.rcok A.nt (Nat.le_refl _) hat hk hseg k0 fun act' w' hbase k' => ?_
          obtain ⟨φ, g1, g2, g3, g4, g5, g6⟩ := k'
          subst g1
          refine ⟨hx, φ, a, H, rs, g2, g3, g4, g5, g6, hres, fun w'' v q1 q2 q3 => ?_⟩
          obtain ⟨m, ps, m1, m2, m3⟩ := moveF_ok key
          obtain ⟨t1, t2⟩ := HSim.move (E' := dq.env ρ') (tmps := (⟨[v]⟩ : Array Value) ++ Array.replicate (1 - (⟨[v]⟩ : Array Value).size) undef) (TR_args (args := [oneV rs]) (args' := [v]) (nt := 1) (by simp only [VRs]; exact ⟨v, [], rfl, q3, rfl⟩) (Nat.le_refl _) (by decide)) q1 m2 (by rw [hbase]; exact (A.blk q' dq hdq _ _).trans (A.blk p c hp _ _).symm) h6 (carry_ok m3 h7) (fun ψ hψ => (h8.env _ hψ).ok (by rw [hψ]; exact h8.ext))
          exact ⟨φ.mv m ρ', rfl, by have := t1 0; simpa using this, t2, q2.mv fun i inf hi => m1 i (hF i inf hi)⟩
        · cases key
      · cases key
    · cases key
  | @step k' _ q _ ρ1 c' d xs h1 h2 h3 h4 h4' h5 h6 h7 =>
    rw [hp] at h1
    cases h1
    rw [h3] at key
    simp only [chkLfH] at key
    have e : c.E (leafOf c.tr.tr ρ.int c.iv []).1 (leafOf c.tr.tr ρ.int c.iv []).2 = c.env ρ := rfl
    rw [e] at key
    split at key
    · rename_i t a H d' hseg hd
      rw [h4] at hd
      cases hd
      split at key
      · rename_i t' hlab
        split at key
        · rename_i g1
          have ht := Nat.eq_of_beq_eq_true g1
          subst ht
          obtain ⟨m, ps, m1, m2, m3⟩ := moveF_ok key
          rw [hrun] at hseg
          refine segF_sound A.rcok A.nt (Nat.le_refl _) hat hk hseg k0 fun act' w' hbase k1 => hHD t act' w' ⟨k', by omega, k', q, d, ρ1, Nat.le_refl _, h4, hlab, h7, ?_⟩
          refine RSF.move k1 (fun i inf hi => m1 i (hF i inf hi)) m2 (by rw [hbase]; exact (A.blk q d h4 _ _).trans (A.blk p c hp _ _).symm) h5 (carry_ok m3 h6) fun φ hφ => ?_
          obtain ⟨d2, hd2, hok⟩ := h7.ok
          rw [h4] at hd2
          cases hd2
          exact (hok.env _ hφ).ok (by rw [hφ]; exact hok.ext)
        · cases key
      · cases key
    · rename_i x a H d' hseg hd
      rw [h4] at hd
      cases hd
      split at key
      · rename_i _ hlab
        exact absurd hlab h4'
      · cases key
    · cases key
theorem headF_ok [Ext] {rc : CE} {fn : Func} {body : Code} {S : List Nat} {fuel : Nat} {C : List CutP} {B : Nat → Option BO} {n0 : Nat} (A : AutoH P rc fn body S fuel C B n0) {F : Frm} (hF : ∀ i inf, F.f i = some inf → i < n0) {w0 : World} {q' : Nat} {ρ' : Rho} {dq : CutP} (hdq : lget C q' = some dq) (h0 : At1 body body 0 []) : ∀ (k t : Nat) (c : Code) (K : List Fr1), ctx t body 0 [] = some (c, K) → ∀ k', k ≤ k' → ∀ act w, HeadF C F w0 q' ρ' fn.ntmps k t act w → (Code.loop c).wpIn (Fr none) 0 P (postK P (HeadF C F w0 q' ρ' fn.ntmps k') (EndsH P fn F w0 dq ρ') K) act w := by
  intro k
  induction k using Nat.strongRecOn with
  | _ k ih =>
    intro t c K hc k' hkk act w hh
    have ht : t < 0 + nl body ∨ ¬ t < 0 + nl body := Decidable.em _
    obtain ⟨hat, hko⟩ : At1 body (.loop c) t K ∧ KOK body K := by
      rcases ht with ht | ht
      · exact ctx_at h0 trivial (Nat.zero_le _) ht hc
      · exact absurd (ctx_lt hc).2 ht
    classical
    have low : ∀ j act w, j ≤ k → HeadF C F w0 q' ρ' fn.ntmps j t act w → c.wpIn (Fr none) 0 P (Exit.then (fun act' w' => ∃ i, i < j ∧ HeadF C F w0 q' ρ' fn.ntmps i t act' w') (postK P (HeadF C F w0 q' ρ' fn.ntmps k') (EndsH P fn F w0 dq ρ') K)) act w := by
      rintro j act w hj ⟨i, p, cp, ρ, hi, hp, hlab, hr, hrs⟩
      have hrun : cp.run rc fn.ntmps S fuel body (cp.env ρ) = seg rc fn.ntmps S fuel c (t + 1) (.lp c t :: K) cp.a0 ⟨cp.env ρ, cp.l, cp.nH⟩ := by
        unfold CutP.run
        rw [hlab]
        simp only [hc]
      have := partF_ok (HD := fun s act w => ∃ i', i' < i ∧ HeadF C F w0 q' ρ' fn.ntmps i' s act w) A hF hdq hp hrun (K := .lp c t :: K) hat.loop.2 hko hr (fun s act w hs => ⟨hs, fun c' K' hc' => ?_⟩) hrs
      · refine wpIn_mono this fun e act' w' h => ?_
        simp only [postK] at h
        refine then_mono (fun act w => ?_) (postK_mono (fun n act w => ?_) K) e act' w' h
        · rintro ⟨i', h1, h2⟩
          exact ⟨i', by omega, h2⟩
        · rintro ⟨i', h1, h2⟩
          exact h2.mono (by omega)
      · obtain ⟨i', h1, h2⟩ := hs
        have := ih i' (by omega) s c' K' hc' (i - 1) (by omega) act w h2
        refine wpIn_mono this (postK_mono (fun n act w h => ⟨i - 1, by omega, h⟩) K')
    refine wpIn_loop (fun act w => ∃ j, j ≤ k ∧ HeadF C F w0 q' ρ' fn.ntmps j t act w) (fun act w => leastOf fun j => HeadF C F w0 q' ρ' fn.ntmps j t act w) ⟨k, Nat.le_refl _, hh⟩ ?_
    rintro act w ⟨j, hj, hh⟩
    obtain ⟨hmin, hle⟩ := leastOf_ok (p := fun j => HeadF C F w0 q' ρ' fn.ntmps j t act w) ⟨j, hh⟩
    have hle := hle j hh
    refine wpIn_mono (low _ act w (by omega) hmin) fun e act' w' h => ?_
    refine then_mono (fun act' w' => ?_) (fun _ _ _ h => h) e act' w' h
    rintro ⟨i, hi, hi2⟩
    refine ⟨⟨i, by omega, hi2⟩, ?_⟩
    exact Nat.lt_of_le_of_lt ((leastOf_ok (p := fun j => HeadF C F w0 q' ρ' fn.ntmps j t act' w') ⟨i, hi2⟩).2 i hi2) hi
theorem FrOK.upd {F : Frm} {φ : Phi} {w w' : World} {r : Nat} (k : FrOK F φ w) (g : WK w w') (hr : F.w.heap.size ≤ r) (h : ∀ x, x ≠ r → w'.heap[x]? = w.heap[x]?) : FrOK F φ w' :=
  ⟨k.wk.trans g, fun i hi hs => by rw [h i (by omega)]; exact k.frame i hi hs, k.own, k.pin⟩
theorem leaves_marksF [Ext] {P : Program} {fn : Func} {tmps : Array Value} {Rr : Ending → World → Prop} {F : Frm} {w0 : World} {φ : Phi} {H : VH} (hfin : ∀ w, HSim w0 φ H w → FrOK F φ w → ∃ v, (results fn tmps).run P w = .ok v w ∧ Rr (.returned v) w) : ∀ (rs : List Nat) (w : World), rs.Nodup → HSim w0 φ H w → FrOK F φ w →
    (∀ r ∈ rs, F.w.heap.size ≤ r ∧ w.heap[r]? = some (.deferred (some [])) ∧ (∀ i inf, φ i = some inf → inf.blk ≠ r) ∧ w0.heap.size ≤ r ∧ H.base.blk r = none) → LeavesInM Fence.wide 0 P fn tmps Rr (rs.map markOf) .returning w
  | [], w, _, hs, st, _ => hfin w hs st
  | r :: rs, w, hnd, hs, st, hr => by
    obtain ⟨k1, k2, k3, k4, k5⟩ := hr r (by simp)
    obtain ⟨g1, g2⟩ := run_setObj (P := P) (o₁ := .deferred none) k2 (by simp)
    refine ⟨by simp, .inl ⟨r, _, rfl, ?_, leaves_marksF hfin rs _ (List.nodup_cons.1 hnd).2 (hs.apart g2 k3 k4 k5) (st.upd g2.wk k1 fun x hx => g2.there x hx) fun x hx => ?_⟩⟩
    · have hge : (getObj r).run P w = .ok (.deferred (some [])) w := by simp [getObj, Sem.run, k2]
      simp [Instr.takeDeferred, hge, g1]
    · obtain ⟨j1, j2, j3, j4, j5⟩ := hr x (List.mem_cons_of_mem _ hx)
      have hxr : x ≠ r := fun e => (List.nodup_cons.1 hnd).1 (e ▸ hx)
      exact ⟨j1, by rw [g2.there x hxr]; exact j2, j3, j4, j5⟩
/-- A function by its cuts, over blocks that are there. -/
theorem autoH_calls [Ext] {rc : CE} {fn : Func} {body : Code} {S : List Nat} {fuel : Nat} {C : List CutP} {B : Nat → Option BO} {n0 : Nat} (A : AutoH P rc fn body S fuel C B n0) {f : FuncId} (hf : P.funcs[f]? = some fn) (hbody : fn.body = some body) {F : Frm} (hF : ∀ i inf, F.f i = some inf → i < n0) {w0 : World} {args : List VV} {args' : List Value} {ρ ρ' : Rho} {c d : CutP} {k q' p0 : Nat}
    (h1 : Nat.ble args.length fn.ntmps = true) (hc : lget C p0 = some c) (e1 : c.lab = none) (e2 : c.a0 = listT args 0 .lf) (hd : lget C q' = some d) (hs : HSim w0 ⟨F.f, ρ⟩ ⟨c.env ρ, c.l, c.nH⟩ F.w) (ha : VRs ⟨F.f, ρ⟩ args args') (hr : RunsH C w0 q' ρ' k p0 ρ) :
    Calls P f ⟨args'⟩ F.w fun e w' => ∃ v, e = .returned v ∧ ExitOK F w0 d ρ' v w' := by
  have h0 : At1 body body 0 [] := fun t _ _ => rfl
  have h1' : args.length ≤ fn.ntmps := Nat.le_of_ble_eq_true h1
  have hl := VRs_length _ _ ha
  have ht := TR_args ha h1' A.nt
  have k1 : RSF F w0 (· = ρ) fn.ntmps c.a0 ⟨c.env ρ, c.l, c.nH⟩ { tmps := (⟨args'⟩ : Array Value) ++ Array.replicate (fn.ntmps - (⟨args'⟩ : Array Value).size) undef, defers := [] } F.w := by
    rw [e2]
    exact ⟨⟨F.f, ρ⟩, rfl, ht, hs, .start, by simp; omega, .nil⟩
  have := partF_ok (HD := HeadF C F w0 q' ρ' fn.ntmps k) A hF hd hc (b := body) (n := 0) (K := []) (by unfold CutP.run; rw [e1]) h0 trivial hr (fun t act w hs => by
    obtain ⟨j, hj, hh⟩ := hs
    exact ⟨hh.mono (by omega), fun c' K' hc' => headF_ok A hF hd h0 j t c' K' hc' k (by omega) act w hh⟩) k1
  simp only [postK] at this
  refine (callsIn_wide (n := 0)).1 (callsIn_of_wp_marks hf hbody trivial (wpIn_mono this ?_))
  rintro e act' w' ⟨he, φ, a, H, rs, k2, k3, k4, k5, ⟨ms, m1, m2, m3⟩, hres, hfin⟩
  have fin : LeavesInM Fence.wide 0 P fn act'.tmps (fun e w' => ∃ v, e = .returned v ∧ ExitOK F w0 d ρ' v w') act'.defers .returning w' := by
    rw [m1]
    refine leaves_marksF (F := F) (w0 := w0) (φ := φ) (H := H) (fun w'' hs'' st'' => ?_) ms w' m2 k3 k4 m3
    obtain ⟨v', r1, r2⟩ := results_sound (P := P) k2 hs'' hres
    exact ⟨v', r1, v', rfl, hfin w'' v' hs'' st'' r2⟩
  rcases he with rfl | rfl
  · exact fin
  · exact fin
end
end
end Go.Ev
