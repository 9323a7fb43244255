/- Engine, part 8: a function by its cuts, as a known call. -/
import Derived.Test.YtgbhmkdldfhamaaEv7
namespace Go.Ev
set_option linter.unusedVariables false
noncomputable section
open Go.RowKit
abbrev extTrue : Ext := ⟨fun _ _ => True, fun _ => False⟩
/-- An environment that says nothing. -/
def envOf (ρ : Rho) : Env := ⟨fun _ => none, fun i => (ρ.int i, ρ.int i), [], fun _ => none⟩
theorem envOf_ok {φ : Phi} {w0 : World} : @EnvOK extTrue (envOf φ.ρ) φ w0 := by
  letI : Ext := extTrue
  exact ⟨trivial, fun i => ⟨Int.le_refl _, Int.le_refl _⟩, (fun f hf => by cases hf), fun i c h => by cases h⟩
/-- Another class that says the same of the code's own blocks. -/
theorem Old.swap {X Y : Ext} {w0 w : World} (h : @Old X w0 w) (ho : ∀ k, @Ext.own X k ↔ @Ext.own Y k) : @Old Y w0 w :=
  @Old.mk Y w0 w (@Old.size X w0 w h) (fun k hk hn => @Old.same X w0 w h k hk fun g => hn ((ho k).1 g)) (fun a v hv g => @Old.cell X w0 w h a v hv ((ho _).2 g))
def inK : Nat → List (Nat × VO) → Bool
  | _, [] => false
  | i, (j, _) :: l => match Nat.beq i j with
    | true => true
    | false => inK i l
theorem inK_mem {i : Nat} : ∀ {l : List (Nat × VO)}, inK i l = true → ∃ p ∈ l, p.1 = i
  | [], h => by simp [inK] at h
  | (j, o) :: l, h => by
    simp only [inK] at h
    split at h
    · rename_i hb
      exact ⟨(j, o), List.mem_cons_self, (Nat.eq_of_beq_eq_true hb).symm⟩
    · obtain ⟨p, h1, h2⟩ := inK_mem h
      exact ⟨p, List.mem_cons_of_mem _ h1, h2⟩
/-- All of the first blocks are blocks that were handed in. -/
def subB (m : TT Nat) (pre : List (Nat × VO)) : Nat → Bool
  | 0 => true
  | j + 1 => match m.get j with
    | some i => match inK i pre with
      | true => subB m pre j
      | false => false
    | none => false
theorem subB_ok {m : TT Nat} {pre : List (Nat × VO)} : ∀ {n : Nat}, subB m pre n = true → ∀ j, j < n → ∃ i, m.get j = some i ∧ ∃ p ∈ pre, p.1 = i
  | 0, _, j, hj => by omega
  | n + 1, h, j, hj => by
    simp only [subB] at h
    split at h
    · rename_i i hi
      split at h
      · rename_i hk
        by_cases e : j = n
        · rw [e]; exact ⟨i, hi, inK_mem hk⟩
        · exact subB_ok h j (by omega)
      · cases h
    · cases h
/-- An old number stands for the block that it stood for. -/
def invB (m1 m2 : TT Nat) (n0 : Nat) : Nat → Bool
  | 0 => true
  | i + 1 => match m2.get i with
    | some j => match Nat.blt j n0, m1.get j with
      | true, some i' => match Nat.beq i' i with
        | true => invB m1 m2 n0 i
        | false => false
      | _, _ => false
    | none => invB m1 m2 n0 i
theorem invB_ok {m1 m2 : TT Nat} {n0 : Nat} : ∀ {n : Nat}, invB m1 m2 n0 n = true → ∀ i j, i < n → m2.get i = some j → j < n0 ∧ m1.get j = some i
  | 0, _, i, j, hi, _ => by omega
  | n + 1, h, i, j, hi, hj => by
    simp only [invB] at h
    by_cases e : i = n
    · subst e
      rw [hj] at h
      simp only at h
      split at h
      · rename_i i' h1 h2
        split at h
        · rename_i h3
          rw [Nat.eq_of_beq_eq_true h3] at h2
          exact ⟨lt_of_blt h1, h2⟩
        · cases h
      · cases h
    · have : invB m1 m2 n0 n = true := by
        split at h
        · split at h
          · split at h
            · exact h
            · cases h
          · cases h
        · exact h
      exact invB_ok this i j (by omega) hj
def addInv (m1 : TT Nat) : Nat → TT Nat → TT Nat
  | 0, m => m
  | j + 1, m => addInv m1 j (match m1.get j with | some i => m.put i j | none => m)
def mapPs (o : Option Prs) (xs ys : List VV) : Bool := match o with
  | some ps => fstsE ps xs ys
  | none => false
theorem mapPs_ok {o : Option Prs} {xs ys : List VV} (h : mapPs o xs ys = true) : ∃ ps, o = some ps ∧ fstsE ps xs ys = true := by
  unfold mapPs at h
  split at h
  · exact ⟨_, rfl, h⟩
  · cases h
/-- Does a call, as it is known, fit a function's first and last cut? -/
def adaptM (n0 : Nat) (c d : CutP) (e : KE2) (zs1 ys1 zs2 ys2 : List VV) (m1 m2 : TT Nat) : Bool := match subB m1 e.pre n0, invB m1 m2 n0 e.nx, preQ ⟨Env.none, putL e.post .lf, 0⟩ e.post, mapPs (mvS 0 n0 m1 (listT e.xs 0 .lf) (putL e.pre .lf) c.a0 c.l) zs1 ys1 with
  | true, true, true, true => mapPs (mvS 0 e.ny m2 d.a0 d.l (listT [e.r] 0 .lf) (putL e.post .lf)) zs2 ys2
  | _, _, _, _ => false
def adaptB (n0 : Nat) (c d : CutP) (e : KE2) (zs1 ys1 zs2 ys2 : List VV) : Bool :=
  adaptM n0 c d e zs1 ys1 zs2 ys2 (findM (listT e.xs 0 .lf) (putL e.pre .lf) c.a0 c.l) (findS (addInv (findM (listT e.xs 0 .lf) (putL e.pre .lf) c.a0 c.l) n0 .lf) d.a0 d.l (listT [e.r] 0 .lf) (putL e.post .lf))
theorem VRs_of {φ : Phi} : ∀ {xs : List VV} {vs : List Value}, xs.length = vs.length → (∀ (t : Nat) x v, xs[t]? = some x → vs[t]? = some v → VR φ x v) → VRs φ xs vs
  | [], [], _, _ => by simp only [VRs]
  | x :: xs, [], h, _ => by simp at h
  | [], v :: vs, h, _ => by simp at h
  | x :: xs, v :: vs, h, k => by
    simp only [VRs]
    exact ⟨v, vs, rfl, k 0 x v rfl rfl, VRs_of (by simpa using h) fun t y u h1 h2 => k (t + 1) y u (by simpa using h1) (by simpa using h2)⟩
theorem ke2_of {P : Program} {X : Ext} {rc : CE} {fn : Func} {body : Code} {S : List Nat} {fuel : Nat} {C : List CutP} {n0 : Nat} (A : @AutoH X P rc fn body S fuel C (fun _ => none) n0) {e : KE2} (hf : P.funcs[e.f]? = some fn) (hbody : fn.body = some body) {args : List VV} {c d : CutP} {q' p0 : Nat}
    (h1 : Nat.ble args.length fn.ntmps = true) (hl : args.length = e.xs.length) (hc : lget C p0 = some c) (e1 : c.lab = none) (e2 : c.a0 = listT args 0 .lf) (e3 : c.nH = n0) (hd : lget C q' = some d) {zs1 ys1 zs2 ys2 : List VV} (hwf : wf2 e = true) (hB : adaptB n0 c d e zs1 ys1 zs2 ys2 = true) {ρ : Rho} {w0 : World}
    (hcal : ∃ ρc ρ' k, carry ρ ρc zs1 ys1 ∧ @RunsH X C w0 q' ρ' k p0 ρc ∧ carry ρ' ρ zs2 ys2) (hno : ∀ k, ¬ @Ext.own X k := by intro k h; exact h) : KE2ok P ρ w0 e := by
  have hXT : ∀ k, @Ext.own X k ↔ @Ext.own extTrue k := fun k => ⟨fun g => (hno k g).elim, fun g => False.elim g⟩
  obtain ⟨ρc, ρ', kk, hc1, hr, hc2⟩ := hcal
  intro φ vs w hφ hsz hold hv hpre hown hinj hfr
  subst hφ
  unfold adaptB at hB
  generalize findM (listT e.xs 0 .lf) (putL e.pre .lf) c.a0 c.l = m1 at hB
  generalize findS (addInv m1 n0 .lf) d.a0 d.l (listT [e.r] 0 .lf) (putL e.post .lf) = m2 at hB
  unfold adaptM at hB
  split at hB
  · rename_i b1 b2 b3 b4
    obtain ⟨ps1, s1, s2⟩ := mapPs_ok b4
    obtain ⟨ps2, s3, s4⟩ := mapPs_ok hB
    unfold wf2 at hwf
    split at hwf
    · rename_i w1 w2 w3
      have w1 := Nat.le_of_ble_eq_true w1
      have w2 := Nat.le_of_ble_eq_true w2
      have kpost := keysB_mem w3
      have kpre := keysB_mem hwf
      have cargs := Nat.le_of_ble_eq_true h1
      have lv := VRs_length _ _ hv
      have ptop : ∀ p ∈ e.pre, p.1 < top := fun p hp => Nat.lt_of_lt_of_le (kpre p hp) (Nat.le_trans w1 w2)
      have pget : ∀ i o, (putL e.pre .lf).get i = some o → (i, o) ∈ e.pre := fun i o h => by
        rcases putL_get ptop h with g | ⟨_, g⟩
        · exact g
        · cases g
      -- the start, as the caller sees it
      have st0 : @HSim extTrue w0 φ ⟨envOf φ.ρ, putL e.pre .lf, e.nx⟩ w := by
        letI : Ext := extTrue
        refine ⟨envOf_ok, (fun r b h => by cases h), ⟨hsz, hold, fun _ _ _ => id⟩, fun i inf hi => (hown i inf hi).1, Nat.le_trans w1 w2, fun i o ho => ?_, fun i j oi oj inf jnf hoi hoj hi hj hb => hinj _ (pget i oi hoi) _ (pget j oj hoj) inf jnf hi hj hb, hfr, fun i inf hi => (hown i inf hi).2⟩
        obtain ⟨inf, o', g1, g2, g3⟩ := hpre _ (pget i o ho)
        exact ⟨inf, o', g1, g2, g3, rfl⟩
      have ta := TR_args (nt := fn.ntmps) hv (by omega) A.nt
      obtain ⟨cst, hcst, hcok⟩ := @RunsH.ok X _ _ _ _ _ _ _ hr
      rw [hc] at hcst
      cases hcst
      -- as the function sees it
      obtain ⟨t1, g1⟩ := @HSim.move extTrue w0 φ ρc 0 n0 m1 (listT e.xs 0 .lf) c.a0 ⟨envOf φ.ρ, putL e.pre .lf, e.nx⟩ c.l ps1 (envOf ρc) _ w ta st0 s1 rfl (fun i hi => by omega) (carry_ok s2 hc1) (fun ψ hψ => by rw [← hψ]; exact envOf_ok)
      have g2 : @HSim X w0 ⟨(φ.mv m1 ρc).f, ρc⟩ ⟨c.env ρc, c.l, c.nH⟩ w := by
        rw [e3]
        obtain ⟨_, k1, k2, k3, k4, k5, k6, k7, k8⟩ := g1
        have hblk : (c.env ρc).blk = fun _ => none := A.blk p0 c hc _ _
        refine @HSim.mk X w0 _ _ w ((hcok.env ⟨(φ.mv m1 ρc).f, ρc⟩ rfl).ok hcok.ext) (fun r b h => by
          have h : (c.env ρc).blk r = some b := h
          rw [hblk] at h; cases h) (k2.swap fun k => (hXT k).symm) (fun i inf hi => (k3 i inf hi).imp id (hXT _).2) k4 (fun i o ho => ?_) k6 k7 k8
        obtain ⟨inf, o', q1, q2, q3, _⟩ := k5 i o ho
        exact ⟨inf, o', q1, q2, q3, by show (c.env ρc).blk inf.blk = none; rw [hblk]⟩
      have hF : ∀ i inf, (φ.mv m1 ρc) i = some inf → i < n0 := fun i inf hi => by
        rcases Nat.lt_or_ge i n0 with k | k
        · exact k
        · have := @HSim.fresh extTrue _ _ _ _ g1 i k
          rw [this] at hi
          cases hi
      have hargs : VRs ⟨(φ.mv m1 ρc).f, ρc⟩ args vs := VRs_of (by omega) fun t x v hx hv' => by
        have ht := t1 t
        rw [e2] at ht
        have hlt : t < args.length := (List.getElem?_eq_some_iff.1 hx).1
        rw [listT_get args 0 .lf t (by have := A.nt; omega), if_pos ⟨by omega, by omega⟩] at ht
        simp only [Nat.sub_zero, hx, Option.getD_some] at ht
        simp only [Array.getD_eq_getD_getElem?, Array.getElem?_append, List.size_toArray] at ht
        rw [if_pos (by omega)] at ht
        have e5 : ((⟨vs⟩ : Array Value)[t]?) = some v := by simpa using hv'
        rw [e5] at ht
        exact ht
      let F : Frm := ⟨w, (φ.mv m1 ρc).f⟩
      refine (@autoH_calls P X rc fn body S fuel C (fun _ => none) n0 A e.f hf hbody F hF w0 args vs ρc ρ' c d kk q' p0 h1 hc e1 e2 hd g2 hargs hr).mono ?_
      rintro en w' ⟨v, rfl, φx, hρx, hvx, hsx, hfx⟩
      subst hρx
      -- blocks of the start are blocks that were handed in
      have inpre : ∀ j inf, (φ.mv m1 ρc) j = some inf → ∃ p ∈ e.pre, m1.get j = some p.1 ∧ φ p.1 = some inf := fun j inf hj => by
        obtain ⟨i, q1, p, q2, q3⟩ := subB_ok b1 j (hF j inf hj)
        refine ⟨p, q2, by rw [q3]; exact q1, ?_⟩
        rw [Phi.mv_at q1] at hj
        rw [q3]
        exact hj
      have sx : @HSim extTrue w0 φx ⟨envOf φx.ρ, d.l, d.nH⟩ w' := by
        obtain ⟨_, k1, k2, k3, k4, k5, k6, k7, k8⟩ := hsx
        refine @HSim.mk extTrue w0 _ _ w' envOf_ok (fun r b h => by cases h) (k2.swap hXT) (fun i inf hi => (k3 i inf hi).imp id (hXT _).1) k4 (fun i o ho => ?_) k6 k7 k8
        obtain ⟨inf, o', q1, q2, q3, _⟩ := k5 i o ho
        exact ⟨inf, o', q1, q2, q3, rfl⟩
      -- the end, as the caller sees it
      have tx : TR φx d.a0 ((⟨[v]⟩ : Array Value) ++ Array.replicate (1 - (⟨[v]⟩ : Array Value).size) undef) := fun t => by
        have key := TT.all2_get (p := keyT) rfl (show TT.all2 keyT d.a0 (listT [e.r] 0 .lf) = true by
          unfold mvS at s3
          split at s3
          · assumption
          · cases s3) t
        by_cases e0 : t = 0
        · subst e0
          exact hvx
        · have hn : (listT [e.r] 0 .lf).get t = none := by
            show (TT.put .lf 0 e.r).get t = none
            rw [TT.get_put_other _ _ _ _ e0]
            rfl
          rw [hn] at key
          cases hx : d.a0.get t with
          | none =>
            unfold tget
            rw [hx]
            have : (((⟨[v]⟩ : Array Value) ++ Array.replicate (1 - (⟨[v]⟩ : Array Value).size) undef).getD t undef) = undef := by
              have hsz1 : ((⟨[v]⟩ : Array Value) ++ Array.replicate (1 - (⟨[v]⟩ : Array Value).size) undef).size = 1 := rfl
              rw [Array.getD_eq_getD_getElem?, Array.getElem?_eq_none (by omega)]
              rfl
            rw [this]
            exact VR_undef φx
          | some x => rw [hx] at key; cases key
      obtain ⟨t2, g3⟩ := @HSim.move extTrue w0 φx φ.ρ 0 e.ny m2 d.a0 (listT [e.r] 0 .lf) ⟨envOf φx.ρ, d.l, d.nH⟩ (putL e.post .lf) ps2 (envOf φ.ρ) _ w' tx sx s3 rfl (fun i hi => by omega) (carry_ok s4 hc2) (fun ψ hψ => by rw [← hψ]; exact envOf_ok)
      let φ' : Phi := ⟨fun i => if i < e.nx then φ i else (φx.mv m2 φ.ρ) i, φ.ρ⟩
      have lo : ∀ i, i < e.nx → φ' i = φ i := fun i hi => if_pos hi
      have hi' : ∀ i, e.nx ≤ i → φ' i = (φx.mv m2 φ.ρ) i := fun i hi => if_neg (by omega)
      have oldn : ∀ i inf, i < e.nx → (φx.mv m2 φ.ρ) i = some inf → φ i = some inf ∧ ∃ p ∈ e.pre, p.1 = i := fun i inf hlt hi => by
        obtain ⟨j, q1, q2⟩ := Phi.mv_of hi
        obtain ⟨q3, q4⟩ := invB_ok b2 i j hlt q1
        obtain ⟨i2, q5, p, q6, q7⟩ := subB_ok b1 j q3
        rw [q4] at q5
        cases q5
        obtain ⟨knf, o', q8, _⟩ := hpre p q6
        rw [q7] at q8
        have q9 : (φ.mv m1 ρc) j = some knf := by rw [Phi.mv_at q4]; exact q8
        have := hfx.pin j knf q9
        rw [q2] at this
        cases this
        exact ⟨q8, p, q6, q7⟩
      have le2 : (φx.mv m2 φ.ρ).le φ' := by
        refine ⟨fun i inf hi => ?_, rfl⟩
        by_cases hlt : i < e.nx
        · rw [lo i hlt]; exact (oldn i inf hlt hi).1
        · rw [hi' i (by omega)]; exact hi
      have le1 : φ.le φ' := by
        refine ⟨fun i inf hi => ?_, rfl⟩
        by_cases hlt : i < e.nx
        · rw [lo i hlt]; exact hi
        · rw [hfr i (by omega)] at hi; cases hi
      have postt : ∀ p ∈ e.post, ∃ inf o', (φx.mv m2 φ.ρ) p.1 = some inf ∧ w'.heap[inf.blk]? = some o' ∧ OR (φx.mv m2 φ.ρ) inf p.2 o' := fun p hp => by
        have := preQ_get b3 p hp
        obtain ⟨inf, o', q1, q2, q3, _⟩ := @HSim.live extTrue _ _ _ _ g3 p.1 p.2 this
        exact ⟨inf, o', q1, q2, q3⟩
      have hr0 : VR φ' e.r v := by
        have := t2 0
        have e6 : tget (listT [e.r] 0 .lf) 0 = e.r := by
          show tget (TT.put .lf 0 e.r) 0 = e.r
          unfold tget
          rw [TT.get_put_same _ _ _ (by decide)]
        rw [e6] at this
        exact this.mono le2
      refine ⟨v, φ', rfl, hr0, ⟨le1, hfx.wk, fun k hk hn => ?_, fun i inf hi => ?_, fun p hp => ?_, fun p hp inf hi => ?_, fun p hp q hq inf jnf hi hj hb => ?_⟩⟩
      · refine hfx.frame k hk ?_
        rintro ⟨j, inf, q1, q2⟩
        obtain ⟨p, q3, _, q4⟩ := inpre j inf q1
        exact hn p q3 inf q4 q2
      · by_cases hlt : i < e.nx
        · rw [lo i hlt] at hi
          exact .inl hi
        · rw [hi' i (by omega)] at hi
          refine .inr ⟨?_, @HSim.bound extTrue _ _ _ _ g3 i inf hi, ?_⟩
          · rcases Nat.lt_or_ge i e.ny with k | k
            · exact k
            · have := @HSim.fresh extTrue _ _ _ _ g3 i k
              rw [this] at hi
              cases hi
          · obtain ⟨j, _, q2⟩ := Phi.mv_of hi
            rcases hfx.own j inf q2 with ⟨j', jnf, k1, k2⟩ | k1
            · obtain ⟨p, q3, _, q4⟩ := inpre j' jnf k1
              exact .inl ⟨p, q3, jnf, q4, k2⟩
            · exact .inr k1
      · obtain ⟨inf, o', q1, q2, q3⟩ := postt p hp
        exact ⟨inf, o', le2.1 _ _ q1, q2, q3.mono le2⟩
      · obtain ⟨jnf, o', q1, q2, q3⟩ := postt p hp
        have hlt : p.1 < e.nx := by
          rcases Nat.lt_or_ge p.1 e.nx with k | k
          · exact k
          · rw [hfr p.1 k] at hi; cases hi
        obtain ⟨_, q, q4, q5⟩ := oldn p.1 jnf hlt q1
        exact ⟨q, q4, inf, by rw [q5]; exact hi, rfl⟩
      · obtain ⟨inf', o', q1, _, _⟩ := postt p hp
        obtain ⟨jnf', o'', r1, _, _⟩ := postt q hq
        have x1 := le2.1 _ _ q1
        have x2 := le2.1 _ _ r1
        rw [hi] at x1
        rw [hj] at x2
        cases x1
        cases x2
        exact @HSim.inj extTrue _ _ _ _ g3 p.1 q.1 p.2 q.2 inf jnf (preQ_get b3 p hp) (preQ_get b3 q hq) q1 r1 hb
    · cases hwf
  · cases hB
end
end Go.Ev
