/- Engine, part Pl: known calls whose outcomes are alike, whatever loops run around them: these are put aside, and put back. -/
import Derived.Test.YticgadnmlbfmfaaEvPk
import Derived.Test.YticgadnmlbfmfaaEv0
namespace Go.Ev
noncomputable section
open Go.RowKit
def isLp : VO → Bool
  | .loop .. => true
  | .miter .. => true
  | .txt .. => true
  | .siter .. => true
  | _ => false
def lpsN (t : TT VO) : Nat → List (Nat × VO)
  | 0 => []
  | k + 1 => match t.get k with
    | some o => match isLp o with
      | true => (k, o) :: lpsN t k
      | false => lpsN t k
    | none => lpsN t k
def delL : List (Nat × VO) → TT VO → TT VO
  | [], t => t
  | (k, _) :: l, t => (delL l t).del k
def putL : List (Nat × VO) → TT VO → TT VO
  | [], t => t
  | (k, o) :: l, t => (putL l t).put k o
def idN (t : TT VO) : Nat → TT Nat
  | 0 => .lf
  | k + 1 => match t.get k with
    | some _ => (idN t k).put k k
    | none => idN t k
def oldB (t u : TT VO) : Nat → Bool
  | 0 => true
  | k + 1 => match t.get k, u.get k with
    | some _, none => false
    | _, _ => oldB t u k
theorem lpsN_mem {t : TT VO} : ∀ {n : Nat} {p : Nat × VO}, p ∈ lpsN t n → p.1 < n ∧ t.get p.1 = some p.2
  | 0, p, h => by cases h
  | n + 1, p, h => by
    simp only [lpsN] at h
    cases hg : t.get n with
    | none => rw [hg] at h; have := lpsN_mem h; exact ⟨by omega, this.2⟩
    | some o =>
      rw [hg] at h
      simp only at h
      cases hl : isLp o with
      | false => rw [hl] at h; have := lpsN_mem h; exact ⟨by omega, this.2⟩
      | true =>
        rw [hl] at h
        rcases List.mem_cons.1 h with rfl | h
        · exact ⟨Nat.lt_succ_self _, hg⟩
        · have := lpsN_mem h; exact ⟨by omega, this.2⟩
theorem delL_get {t : TT VO} {i : Nat} {o : VO} : ∀ {l : List (Nat × VO)}, (∀ p ∈ l, p.1 < top) → (delL l t).get i = some o → t.get i = some o ∧ ∀ p ∈ l, p.1 ≠ i
  | [], _, h => ⟨h, fun p hp => by cases hp⟩
  | (k, x) :: l, hl, h => by
    simp only [delL] at h
    by_cases e : i = k
    · subst e
      rw [TT.get_del_same _ _ (hl (i, x) (List.mem_cons_self))] at h
      cases h
    · rw [TT.get_del_other _ _ _ e] at h
      obtain ⟨h1, h2⟩ := delL_get (fun p hp => hl p (List.mem_cons_of_mem _ hp)) h
      refine ⟨h1, fun p hp => ?_⟩
      rcases List.mem_cons.1 hp with rfl | hp
      · exact fun e' => e e'.symm
      · exact h2 p hp
theorem putL_get {t : TT VO} {i : Nat} {o : VO} : ∀ {l : List (Nat × VO)}, (∀ p ∈ l, p.1 < top) → (putL l t).get i = some o → (i, o) ∈ l ∨ t.get i = some o
  | [], _, h => .inr h
  | (k, x) :: l, hl, h => by
    simp only [putL] at h
    by_cases e : i = k
    · subst e
      rw [TT.get_put_same _ _ _ (hl (i, x) (List.mem_cons_self))] at h
      cases h
      exact .inl (List.mem_cons_self)
    · rw [TT.get_put_other _ _ _ _ e] at h
      rcases putL_get (fun p hp => hl p (List.mem_cons_of_mem _ hp)) h with h | h
      · exact .inl (List.mem_cons_of_mem _ h)
      · exact .inr h
theorem idN_get {t : TT VO} {i j : Nat} : ∀ {n : Nat}, n ≤ top → (idN t n).get j = some i → i = j ∧ j < n ∧ ∃ o, t.get j = some o
  | 0, _, h => by cases h
  | n + 1, hn, h => by
    simp only [idN] at h
    cases hg : t.get n with
    | none => rw [hg] at h; obtain ⟨h1, h2, h3⟩ := idN_get (by omega) h; exact ⟨h1, by omega, h3⟩
    | some o =>
      rw [hg] at h
      simp only at h
      by_cases e : j = n
      · subst e
        rw [TT.get_put_same _ _ _ (by omega)] at h
        cases h
        exact ⟨rfl, by omega, o, hg⟩
      · rw [TT.get_put_other _ _ _ _ e] at h
        obtain ⟨h1, h2, h3⟩ := idN_get (by omega) h
        exact ⟨h1, by omega, h3⟩
theorem idN_of {t : TT VO} {j : Nat} {o : VO} (ho : t.get j = some o) : ∀ {n : Nat}, n ≤ top → j < n → (idN t n).get j = some j
  | 0, _, h => by omega
  | n + 1, hn, h => by
    simp only [idN]
    by_cases e : j = n
    · subst e
      rw [ho]
      simp only
      rw [TT.get_put_same _ _ _ (by omega)]
    · have ih := idN_of ho (n := n) (by omega) (by omega)
      cases hg : t.get n with
      | none => exact ih
      | some x => simp only; rw [TT.get_put_other _ _ _ _ e]; exact ih
theorem oldB_ok {t u : TT VO} {j : Nat} {o : VO} (ho : t.get j = some o) : ∀ {n : Nat}, oldB t u n = true → j < n → ∃ x, u.get j = some x
  | 0, _, h => by omega
  | n + 1, h, hj => by
    simp only [oldB] at h
    by_cases e : j = n
    · subst e
      rw [ho] at h
      cases hu : u.get j with
      | some x => exact ⟨x, rfl⟩
      | none => rw [hu] at h; cases h
    · split at h
      · cases h
      · exact oldB_ok ho h (by omega)
def sameAt (k : Nat) (o : VO) : List (VV × VH) → Bool
  | [] => true
  | r :: l => match r.2.locs.get k with
    | some x => match voEq x o with
      | true => sameAt k o l
      | false => false
    | none => false
/-- What is the same at each outcome. -/
def meetT (outs : List (VV × VH)) : Nat → Nat → TT VO → TT VO
  | 0, _, t => t
  | n + 1, i, t => meetT outs n (i + 1) (match t.get i with
    | some o => match sameAt i o outs with
      | true => t
      | false => t.del i
    | none => t)
def oneOutM (H : VH) : List (VV × VH) → Option (VV × VH)
  | [] => none
  | r :: l => match alikeX r.1 ⟨H.base, meetT (r :: l) (r.2.next - H.next) H.next r.2.locs, r.2.next⟩ (r :: l) with
    | true => some (r.1, ⟨H.base, meetT (r :: l) (r.2.next - H.next) H.next r.2.locs, r.2.next⟩)
    | false => none
def nilP : Option Prs → Bool
  | some [] => true
  | _ => false
theorem nilP_eq {l : Option Prs} (h : nilP l = true) : l = some [] := by
  unfold nilP at h
  split at h
  · rfl
  · cases h
def knY3 (H : VH) (D : List (Nat × VO)) (l' : TT VO) (v : VV) (H1 : VH) : Option (VV × VH) := match nilP (mvV 0 (idN H1.locs H1.next) v v []), nilP (mvH 0 (idN H1.locs H1.next) H1.locs (TT.ents H1.locs 1 0 []) []), oldB H1.locs l' H.next, Nat.ble H.next H1.next with
  | true, true, true, true => some (v, ⟨H.base, putL D H1.locs, H1.next⟩)
  | _, _, _, _ => none
def knY2 (xf : XFE) (f : FuncId) (args : List VV) (H : VH) (D : List (Nat × VO)) (l' : TT VO) : Option (VV × VH) := match nilP (mvVs 0 (idN l' H.next) args args []), nilP (mvH 0 (idN l' H.next) H.locs (TT.ents l' 1 0 []) []) with
  | true, true => match xf f args ⟨Env.none, l', H.next⟩ with
    | some outs => match oneOutM ⟨Env.none, l', H.next⟩ outs with
      | some r => knY3 H D l' r.1 r.2
      | none => none
    | none => none
  | _, _ => none
/-- Known calls: those of functions whose outcomes are all alike; loops that run around them are put aside. -/
def knY (xl : List FuncId) (xf : XFE) : KN := fun f args H => match memN f xl with
  | true => knY2 xf f args H (lpsN H.locs H.next) (delL (lpsN H.locs H.next) H.locs)
  | false => none
theorem oneOut_ok {H : VH} {outs : List (VV × VH)} {v : VV} {H1 : VH} (h : oneOutM H outs = some (v, H1)) : H1.base = H.base ∧ ∀ r ∈ outs, r.1 = v ∧ wkB .lf r.2 .lf H1 = true := by
  unfold oneOutM at h
  split at h
  · cases h
  · split at h
    · rename_i hal
      simp only [Option.some.injEq, Prod.mk.injEq] at h
      obtain ⟨rfl, rfl⟩ := h
      exact ⟨rfl, fun r hr => alikeX_of hal r hr⟩
    · cases h
theorem agree0 (ρ ρ' : Rho) : agree 0 ρ ρ' := fun _ h => absurd h (Nat.not_lt_zero _)
theorem ents_of {t : TT VO} {j : Nat} {o : VO} (h : t.get j = some o) : (j, o) ∈ TT.ents t 1 0 [] := by
  have := TT.ents_mem (a := 1) (b := 0) (l := []) h
  simpa only [Nat.one_mul, Nat.add_zero] using this
theorem knY_ok [Ext] (hx0 : ∀ w, Ext.ok phi0.ρ w) {P : Program} {xl : List FuncId} {xf : XFE} (hxf : XFok P xf) : KnOK P (knY xl xf) := by
  intro w0 f args H v H' h φ w args' ha hs
  unfold knY at h
  split at h
  rotate_left
  · cases h
  generalize hD : lpsN H.locs H.next = D at h
  have hDm : ∀ p ∈ D, p.1 < H.next ∧ H.locs.get p.1 = some p.2 := fun p hp => lpsN_mem (by rw [hD]; exact hp)
  have hDt : ∀ p ∈ D, p.1 < top := fun p hp => Nat.lt_of_lt_of_le (hDm p hp).1 hs.small
  generalize hl' : delL D H.locs = l' at h
  have hl : ∀ {i o}, l'.get i = some o → H.locs.get i = some o ∧ ∀ p ∈ D, p.1 ≠ i := fun {i o} hi => delL_get hDt (by rw [hl']; exact hi)
  clear hl' hD
  unfold knY2 at h
  split at h
  rotate_left
  · cases h
  rename_i s1 s2
  replace s1 := nilP_eq s1
  replace s2 := nilP_eq s2
  split at h
  rotate_left
  · cases h
  rename_i outs hx
  split at h
  rotate_left
  · cases h
  rename_i r hone
  obtain ⟨v1, H1⟩ := r
  unfold knY3 at h
  split at h
  rotate_left
  · cases h
  rename_i t1 t2 t3 t4
  replace t1 := nilP_eq t1
  replace t2 := nilP_eq t2
  replace t4 := Nat.le_of_ble_eq_true t4
  simp only [Option.some.injEq, Prod.mk.injEq] at h
  obtain ⟨rfl, rfl⟩ := h
  simp only at t1 t2 t3 t4
  generalize hm : idN l' H.next = m at s1 s2
  have hmg : ∀ {i j}, m.get j = some i → i = j ∧ j < H.next ∧ ∃ o, l'.get j = some o := fun {i j} hi => idN_get hs.small (by rw [hm]; exact hi)
  have hmo : ∀ {j o}, l'.get j = some o → j < H.next → m.get j = some j := fun {j o} ho hj => by rw [← hm]; exact idN_of ho hs.small hj
  clear hm
  have hφm : ∀ {i inf}, (φ.mv m phi0.ρ) i = some inf → φ i = some inf ∧ ∃ o, l'.get i = some o := fun {i inf} hi => by
    obtain ⟨i', h1, h2⟩ := Phi.mv_of hi
    obtain ⟨rfl, _, h3⟩ := hmg h1
    exact ⟨h2, h3⟩
  have hn0 : ∀ p ∈ ([] : Prs), Car φ.ρ phi0.ρ p := fun p hp => by cases hp
  have ha' : VRs (φ.mv m phi0.ρ) args args' := (mvVs_ok (agree0 _ _) _ _ _ _ _ s1 hn0 ha).1
  have hs' : HSim w0 (φ.mv m phi0.ρ) ⟨Env.none, l', H.next⟩ w := by
    refine ⟨⟨hx0 _, (fun i => ⟨Int.le_refl _, Int.le_refl _⟩), (fun f hf => by cases hf), (fun i c hc => by cases hc)⟩, (fun r b hb => by cases hb), hs.old, fun i inf hi => hs.own i inf (hφm hi).1, hs.small, fun j o hj => ?_, fun i j oi oj inf jnf hi hj h1 h2 h3 => ?_, fun i hi => ?_, fun i inf hi => hs.bound i inf (hφm hi).1⟩
    · obtain ⟨i, o1, g1, g2, g3⟩ := mvH_ok (agree0 _ _) s2 hn0 j o (ents_of hj)
      obtain ⟨rfl, _, _⟩ := hmg g1
      obtain ⟨inf, x, h1, h2, h3, h4⟩ := hs.live i o1 g2
      exact ⟨inf, x, by rw [Phi.mv_at g1]; exact h1, h2, g3 inf x h3, rfl⟩
    · exact hs.inj i j oi oj inf jnf (hl hi).1 (hl hj).1 (hφm h1).1 (hφm h2).1 h3
    · cases hq : (φ.mv m phi0.ρ) i with
      | none => rfl
      | some inf =>
        have := hs.lt (hφm hq).1
        have hi' : H.next ≤ i := hi
        omega
  refine (hxf w0 f args _ outs hx _ w args' ha' hs').mono ?_
  rintro e w' ⟨r, hr, v', φ', rfl, k1, k2, k3, k4⟩
  obtain ⟨b1, b2⟩ := oneOut_ok hone
  obtain ⟨rfl, b3⟩ := b2 r hr
  have k3 : HSim w0 φ' H1 w' := wkB_sim b3 (b1.trans k4.symm) k3
  generalize hm2 : idN H1.locs H1.next = m2 at t1 t2
  have hmg2 : ∀ {i j}, m2.get j = some i → i = j ∧ j < H1.next ∧ ∃ o, H1.locs.get j = some o := fun {i j} hi => idN_get k3.small (by rw [hm2]; exact hi)
  have hmo2 : ∀ {j o}, H1.locs.get j = some o → m2.get j = some j := fun {j o} ho => by
    rw [← hm2]
    obtain ⟨inf, _, g, _⟩ := k3.live j o ho
    exact idN_of ho k3.small (k3.lt g)
  clear hm2
  have hn2 : ∀ p ∈ ([] : Prs), Car φ'.ρ φ.ρ p := fun p hp => by cases hp
  generalize hψ : (⟨fun i => match m2.get i with | some _ => φ' i | none => φ i, φ.ρ⟩ : Phi) = ψ
  have hψ1 : ∀ {i}, m2.get i = some i → ψ i = φ' i := fun {i} hi => by
    subst hψ
    show (match m2.get i with | some _ => φ' i | none => φ i) = φ' i
    rw [hi]
  have hψ2 : ∀ {i}, m2.get i = none → ψ i = φ i := fun {i} hi => by
    subst hψ
    show (match m2.get i with | some _ => φ' i | none => φ i) = φ i
    rw [hi]
  have hψρ : ψ.ρ = φ.ρ := by subst hψ; rfl
  clear hψ
  have hψc : ∀ {i inf}, ψ i = some inf → (m2.get i = some i ∧ φ' i = some inf) ∨ (m2.get i = none ∧ φ i = some inf) := fun {i inf} hi => by
    cases hq : m2.get i with
    | none => exact .inr ⟨rfl, by rw [hψ2 hq] at hi; exact hi⟩
    | some i' =>
      obtain ⟨rfl, _⟩ := hmg2 hq
      exact .inl ⟨rfl, by rw [hψ1 hq] at hi; exact hi⟩
  have le3 : (φ'.mv m2 φ.ρ).le ψ := by
    refine ⟨fun i inf hi => ?_, hψρ⟩
    obtain ⟨i', h1, h2⟩ := Phi.mv_of hi
    obtain ⟨rfl, _⟩ := hmg2 h1
    rw [hψ1 h1]
    exact h2
  have le1 : φ.le ψ := by
    refine ⟨fun i inf hi => ?_, hψρ⟩
    cases hq : m2.get i with
    | none => rw [hψ2 hq]; exact hi
    | some i' =>
      obtain ⟨rfl, _, o, ho⟩ := hmg2 hq
      have hlt := hs.lt hi
      obtain ⟨x, hx1⟩ := oldB_ok ho t3 hlt
      rw [hψ1 hq]
      exact k1.le.1 _ inf (by rw [Phi.mv_at (hmo hx1 hlt)]; exact hi)
  have kept : ∀ {i inf}, (φ.mv m phi0.ρ) i = some inf → ∃ o, H.locs.get i = some o ∧ φ i = some inf ∧ H.base.blk inf.blk = none ∧ ∀ p ∈ D, p.1 ≠ i := fun {i inf} hi => by
    obtain ⟨h1, o, h2⟩ := hφm hi
    obtain ⟨h3, h4⟩ := hl h2
    obtain ⟨inf', _, g1, _, _, g2⟩ := hs.live i o h3
    rw [h1] at g1
    cases g1
    exact ⟨o, h3, h1, g2, h4⟩
  have hst : St φ w ψ w' := by
    refine ⟨le1, k1.wk, fun k hk hn => k1.frame k hk fun i inf hi => hn i inf (hφm hi).1, fun i inf hi => ?_⟩
    rcases hψc hi with ⟨_, h2⟩ | ⟨_, h2⟩
    · rcases k1.own i inf h2 with ⟨j, jnf, g1, g2⟩ | g
      · exact .inl ⟨j, jnf, (hφm g1).1, g2⟩
      · exact .inr g
    · exact .inl ⟨i, inf, h2, rfl⟩
  have hmix : ∀ {i j : Nat} {oi : VO} {inf jnf : Inf}, (i, oi) ∈ D → φ i = some inf → φ' j = some jnf → inf.blk ≠ jnf.blk := by
    intro i j oi inf jnf hi h1 h2 e
    rcases k1.own j jnf h2 with ⟨q, qnf, g1, g2⟩ | g
    · obtain ⟨o, g3, g4, _, g5⟩ := kept g1
      have := hs.inj i q oi o inf qnf (hDm _ hi).2 g3 h1 g4 (e.trans g2.symm)
      exact g5 _ hi this
    · have := hs.bound i inf h1
      omega
  have hdat : ∀ {i : Nat} {o : VO}, (i, o) ∈ D → ∀ {inf : Inf}, ψ i = some inf → φ i = some inf := by
    intro i o hi inf h1
    obtain ⟨jnf, _, g1, _⟩ := hs.live i o (hDm _ hi).2
    have := le1.1 i jnf g1
    rw [h1] at this
    cases this
    exact g1
  have hnat : ∀ {i : Nat} {o : VO}, H1.locs.get i = some o → ∀ {inf : Inf}, ψ i = some inf → φ' i = some inf := by
    intro i o hi inf h1
    rw [hψ1 (hmo2 hi)] at h1
    exact h1
  have hDt1 : ∀ p ∈ D, p.1 < top := hDt
  refine ⟨r.1, v', ψ, ⟨H.base, putL D H1.locs, H1.next⟩, rfl, hst, ((mvV_ok (agree0 _ _) _ _ _ _ _ t1 hn2 k2).1).mono le3, ?_, rfl, rfl, rfl⟩
  refine ⟨hs.env.mono le1, fun q b hb => ?_, k3.old, fun i inf hi => ?_, k3.small, fun i o hi => ?_, fun i j oi oj inf jnf hi hj h1 h2 h3 => ?_, fun i hi => ?_, fun i inf hi => ?_⟩
  · obtain ⟨o, g1, g2⟩ := hs.base q b hb
    refine ⟨o, ?_, g2⟩
    rw [k1.frame q (get_lt g1) fun i inf hi e => ?_]
    · exact g1
    · obtain ⟨_, _, _, g3, _⟩ := kept hi
      rw [e] at g3
      have hb' : H.base.blk q = some b := hb
      rw [hb'] at g3
      cases g3
  · rcases hψc hi with ⟨_, h2⟩ | ⟨_, h2⟩
    · exact k3.own i inf h2
    · exact hs.own i inf h2
  · rcases putL_get hDt1 hi with hd | hd
    · obtain ⟨inf, x, h1, h2, h3, h4⟩ := hs.live i o (hDm _ hd).2
      refine ⟨inf, x, le1.1 i inf h1, ?_, h3.mono le1, h4⟩
      rw [k1.frame inf.blk (hs.bound i inf h1) fun j jnf hj e => ?_]
      · exact h2
      · obtain ⟨o', g1, g2, _, g3⟩ := kept hj
        exact g3 _ hd (hs.inj i j o o' inf jnf (hDm _ hd).2 g1 h1 g2 e.symm)
    · obtain ⟨i', o1, g1, g2, g3⟩ := mvH_ok (agree0 _ _) t2 hn2 i o (ents_of hd)
      obtain ⟨rfl, _⟩ := hmg2 g1
      obtain ⟨inf, x, h1, h2, h3, h4⟩ := k3.live i' o1 g2
      refine ⟨inf, x, by rw [hψ1 g1]; exact h1, h2, (g3 inf x h3).mono le3, ?_⟩
      rcases k1.own i' inf h1 with ⟨q, qnf, q1, q2⟩ | q
      · obtain ⟨_, _, _, q3, _⟩ := kept q1
        rw [q2] at q3
        exact q3
      · show H.base.blk inf.blk = none
        cases hb : H.base.blk inf.blk with
        | none => rfl
        | some b =>
          obtain ⟨o', g4, _⟩ := hs.base _ b hb
          have := get_lt g4
          omega
  · rcases putL_get hDt1 hi with hd | hd <;> rcases putL_get hDt1 hj with hd' | hd'
    · exact hs.inj i j oi oj inf jnf (hDm _ hd).2 (hDm _ hd').2 (hdat hd h1) (hdat hd' h2) h3
    · exact absurd h3 (hmix hd (hdat hd h1) (hnat hd' h2))
    · exact absurd h3.symm (hmix hd' (hdat hd' h2) (hnat hd h1))
    · exact k3.inj i j oi oj inf jnf hd hd' (hnat hd h1) (hnat hd' h2) h3
  · have hi' : H1.next ≤ i := hi
    cases hq : ψ i with
    | none => rfl
    | some inf =>
      rcases hψc hq with ⟨_, h2⟩ | ⟨_, h2⟩
      · have := k3.lt h2
        omega
      · have := hs.lt h2
        omega
  · rcases hψc hi with ⟨_, h2⟩ | ⟨_, h2⟩
    · exact k3.bound i inf h2
    · exact Nat.lt_of_lt_of_le (hs.bound i inf h2) k1.wk.size
def knN (P : Program) (n : Nat) (xl mf : List FuncId) : KN := knY xl (xN P (drawRun P (evN P (drawRun P) kn0 n).2) (evN P (drawRun P) kn0 n).2 mf n).2
theorem knN_ok {P : Program} (hng : NoNG P) (hm : P.follows .mixedOrders = true) {n : Nat} {xl mf : List FuncId} : KnOK P (knN P n xl mf) := by
  have hdr := fun fe (hfe : FEok P fe) => drawRun_sound hng hm hfe
  have hev := evN_sound hng hdr (kn0_ok (P := P)) n
  exact knY_ok (fun _ => trivial) (xN_sound hng (hdr _ hev.2.2) hev.2.2 n).2
/-- A closed run: does it tell true? -/
def runY (P : Program) (K xl mf : List FuncId) (n : Nat) (f : FuncId) : Bool := match (evN P (drawRun P) (stepK (knT K) (knN P n xl mf)) n).2.call f [] ⟨Env.none, .lf, 0⟩ with
  | some (.bool b, _) => b
  | _ => false
theorem runY_calls {P : Program} (hng : NoNG P) (hm : P.follows .mixedOrders = true) {K : List FuncId} (hK : ∀ f ∈ K, ∀ w : World, Calls P f #[] w fun e w' => e = .returned (.bool true) ∧ Below w.heap.size w w') {xl mf : List FuncId} {n : Nat} {f : FuncId} (h : runY P K xl mf n f = true) (w : World) :
    Calls P f #[] w fun e w' => e = .returned (.bool true) ∧ Below w.heap.size w w' := by
  unfold runY at h
  cases hr : (evN P (drawRun P) (stepK (knT K) (knN P n xl mf)) n).2.call f [] ⟨Env.none, .lf, 0⟩ with
  | none => rw [hr] at h; cases h
  | some vh =>
    obtain ⟨v, H'⟩ := vh
    rw [hr] at h
    have hc := (evF_ok hng hm (stepK_sound (knT_ok hK) (knN_ok hng hm)) n).call w f [] ⟨Env.none, .lf, 0⟩ v H' hr phi0 w [] (by simp [VRs]) (HSim.start w)
    refine hc.mono ?_
    rintro e w' ⟨u, v', φ', H'', rfl, k1, k2, k3, _, rfl, rfl⟩
    cases u with
    | bool b =>
      have hb : b = true := h
      subst hb
      simp only [VR] at k2
      subst k2
      exact ⟨rfl, below_of k1 k3⟩
    | _ => cases h
end
end Go.Ev
