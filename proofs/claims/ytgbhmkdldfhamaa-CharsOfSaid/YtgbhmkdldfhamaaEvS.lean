/- Engine, part S: regions that draw their order: sound. -/
import Derived.Test.YtgbhmkdldfhamaaEvR
namespace Go.Ev
noncomputable section
theorem wpOpIn_of {r : Option Nat} {P : Program} {all : List Oper} {Q : Exit → Act → World → Prop} {i : Nat} {K : Act → World → Prop} {act : Act} {w : World} {o : Oper} (ho : lget all i = some o)
    (h1 : Region.wanted o (yielded ⟨all⟩ act.tmps) = true → o.wpIn (Fr r) 0 P act w K Q) (h2 : Region.wanted o (yielded ⟨all⟩ act.tmps) = false → K (act.put o.dst undef) w) : wpOpIn (Fr r) 0 P ⟨all⟩ Q i K act w := by
  have hg : (⟨all⟩ : Array Oper)[i]? = some o := by rw [lget_eq] at ho; simpa using ho
  unfold wpOpIn
  rw [hg]
  simp only
  cases hw : Region.wanted o (yielded ⟨all⟩ act.tmps) with
  | true => rw [if_pos rfl]; exact h1 hw
  | false => rw [if_neg (by simp)]; exact ⟨fun _ _ => trivial, h2 hw⟩
theorem getD_big {t : Nat} {tmps : Array Value} (h : ¬ t < tmps.size) : tmps.getD t undef = undef := by simp [Array.getD, h]
section
variable {C : Ctx} {done rest : List Nat} {a : VT} {H : VH} {pd : List Nat} {L : Array Bool} {act actg : Act} {w : World} {φ : Phi} {bl : Nat → Nat}
theorem Lb_ne {i j : Nat} (hi : i < L.size) (h : j ≠ i) : Lb (L.setIfInBounds i true) j = Lb L j := by rw [Lb_set hi, if_neg h]
theorem Lb_up {i j : Nat} (hi : i < L.size) (h : Lb L j = true) : Lb (L.setIfInBounds i true) j = true := by
  rw [Lb_set hi]; split
  · rfl
  · exact h
theorem Lb_self {i : Nat} (hi : i < L.size) : Lb (L.setIfInBounds i true) i = true := by rw [Lb_set hi, if_pos rfl]
/-- What was read is told. -/
theorem Inv.stepD1 (ok : C.Ok) (I : Inv C done rest a H pd L act actg w φ bl) {i : Nat} (hi : i ∈ done) (hL : Lb L i = false) {o : Oper} (ho : lget C.all i = some o) (hr : ∀ e ∈ o.after.toList, bindB e = true → Lb L e.on = true)
    {v : VV} {v' : Value} (hv : VR φ v v') (hd : ∀ d, o.dst = some d → tget a d = v) : Inv C done rest a H pd (L.setIfInBounds i true) (act.put o.dst v') (actg.put o.dst v') w φ bl := by
  have hsz : i < L.size := by rw [I.Lsz]; exact lget_lt ho
  refine ⟨I.run, I.ord, I.cov, I.dlt, I.closed, by simpa using I.Lsz, ?_, ?_, ?_, ?_, by rw [put_size]; exact I.sz1, by rw [put_size]; exact I.sz2, by rw [put_defs]; exact I.defs, ?_, ?_, ?_, ?_, I.sim, I.st, I.base⟩
  · intro j oj hj hoj e he hb
    by_cases hji : j = i
    · subst hji; rw [ho] at hoj; cases hoj; exact Lb_up hsz (hr e he hb)
    · rw [Lb_ne hsz hji] at hj
      exact Lb_up hsz (I.Lcl j oj hj hoj e he hb)
  · intro j hj hq
    have hji : j ≠ i := fun e => I.apart hj (e ▸ hi)
    rw [Lb_ne hsz hji] at hq
    exact I.early j hj hq
  · intro j hj hq
    have hji : j ≠ i := fun e => by subst e; rw [Lb_self hsz] at hq; cases hq
    rw [Lb_ne hsz hji] at hq
    exact I.late j hj hq
  · intro t
    rw [put_getD]
    by_cases h : o.dst = some t ∧ t < actg.tmps.size
    · rw [if_pos h, hd t h.1]; exact hv
    · rw [if_neg h]; exact I.tr t
  · intro t h
    rw [put_getD, put_getD, I.sz1, I.sz2]
    by_cases hc : o.dst = some t ∧ t < C.sz
    · rw [if_pos hc, if_pos hc]
    · rw [if_neg hc, if_neg hc]
      by_cases hdt : o.dst = some t
      · have hlt : ¬ t < C.sz := fun hx => hc ⟨hdt, hx⟩
        rw [getD_big (by rw [I.sz1]; exact hlt), getD_big (by rw [I.sz2]; exact hlt)]
      · refine I.agree t fun x hx => ?_
        have hxi : x ≠ i := fun e => by subst e; rw [dstOf_eq ho] at hx; exact hdt hx
        have := h x hx
        rw [Lb_ne hsz hxi] at this
        exact this
  · intro j oj hj hq hoj
    have hji : j ≠ i := fun e => by subst e; rw [Lb_self hsz] at hq; cases hq
    rw [Lb_ne hsz hji] at hq
    exact I.reads j oj hj hq hoj
  · intro j oj hj hq hoj
    have hji : j ≠ i := fun e => I.apart hj (e ▸ hi)
    rw [Lb_ne hsz hji] at hq
    refine (I.allocs j oj hj hq hoj).mono φ.le_refl rfl (fun d hdj => ?_) rfl (fun k inf hk => ?_)
    · rw [put_getD, if_neg]
      rintro ⟨e, _⟩
      have hka := I.early j hj hq
      have := ok.pairs.tame j d (by rw [dstOf_eq hoj]; exact hdj) (by rw [hka]; simp) i (lget_lt ho) (Ne.symm hji) (hits_iff.2 (.inr (by rw [dstOf_eq ho]; exact e)))
      exact I.apart hj (I.predD ok this fun o' ho' => I.closed i o' hi ho')
    · obtain ⟨_, _, _, _, _, _, _, _, _, _, _, hu⟩ := I.allocs j oj hj hq hoj
      exact hu k inf hk
  · intro x y hx hy hlx hly
    have hxi : x ≠ i := fun e => I.apart hx (e ▸ hi)
    have hyi : y ≠ i := fun e => I.apart hy (e ▸ hi)
    rw [Lb_ne hsz hxi] at hlx
    rw [Lb_ne hsz hyi] at hly
    exact I.dist x y hx hy hlx hly
theorem Inv.stepD (ok : C.Ok) (I : Inv C done rest a H pd L act actg w φ bl) {i : Nat} (hi : i ∈ done) (hL : Lb L i = false) {o : Oper} (ho : lget C.all i = some o) (hr : ∀ e ∈ o.after.toList, bindB e = true → Lb L e.on = true)
    (r : Option Nat) {K : Act → World → Prop} {Q : Exit → Act → World → Prop} (hK : ∀ act' actg', Inv C done rest a H pd (L.setIfInBounds i true) act' actg' w φ bl → K act' w) : wpOpIn (Fr r) 0 C.P ⟨C.all⟩ Q i K act w := by
  have hsm := I.same ok ho hL (fun e he hb => I.closed i o hi ho e he hb) hr
  have hwant := hsm.wanted.trans (wantedV_sound (ops := C.all) I.tr o)
  have hrd := I.reads i o hi hL ho
  refine wpOpIn_of ho (fun hw => ?_) (fun hw => ?_)
  · rcases hrd with ⟨h1, _⟩ | ⟨h1, v, h2, h3, _⟩
    · rw [hwant, h1] at hw; cases hw
    · obtain ⟨hs1, hs2⟩ := evR_noSelect h2
      refine ⟨fun _ _ => trivial, ?_⟩
      rw [show (Fr r).round = r from rfl, Oper.semAt_eq _ _ _ hs2, hsm.exec hs1]
      obtain ⟨v', k1, k2⟩ := RNR_get h2 (evR_sound (P := C.P) I.tr I.sim o)
      rw [k1]
      exact hK _ _ (I.stepD1 ok hi hL ho hr k2 h3)
  · rcases hrd with ⟨_, h2⟩ | ⟨h1, _⟩
    · exact hK _ _ (I.stepD1 ok hi hL ho hr (VR_undef φ) h2)
    · rw [hwant, h1] at hw; cases hw
theorem cRun_alloc {P : Program} {fe : FE} {nt : Nat} {all : List Oper} {ks : List SK} {mk : List Nat} {i : Nat} {r : VT × VH} (hk : getK ks i = .a) {o : Oper} (ho : lget all i = some o) {t : TypeId} (ht : o.op = .alloc t) : ∀ {rest before : List Nat} {a : VT} {H : VH} {pd : List Nat}, ordOk all ks mk before rest = true → cRun P fe nt all ks mk rest a H pd = some r → i ∈ rest →
    o.guard = none ∧ (∃ z, tzero P t = some z) ∧ ∀ d, o.dst = some d → d < nt
  | [], _, _, _, _, _, _, hi => by cases hi
  | x :: rest, before, a, H, pd, hord, hrun, hi => by
    obtain ⟨ox, hox, _, _, hga, _, hord'⟩ := ordOk_cons hord
    by_cases hxi : i = x
    · subst hxi
      rw [ho] at hox
      cases hox
      have hg := (hga hk).1
      refine ⟨hg, ?_⟩
      rcases cRun_cons hrun ho with ⟨h1, _⟩ | ⟨_, h2, _⟩ | ⟨_, _, v, H₁, a₁, h3, _, h5, _⟩
      · rw [hg] at h1; cases h1
      · rw [hk] at h2; cases h2
      · rw [ht] at h3
        obtain ⟨z, hz, _⟩ := opRun_alloc h3
        refine ⟨⟨z, hz⟩, fun d hd => ?_⟩
        rcases putD_cases h5 with ⟨q, _⟩ | ⟨u, q, hu, _⟩
        · rw [q] at hd; cases hd
        · rw [q] at hd; cases hd; exact hu
    · have hi' : i ∈ rest := by
        rcases List.mem_cons.1 hi with h | h
        · exact absurd h hxi
        · exact h
      rcases cRun_cons hrun hox with ⟨_, _, _, h⟩ | ⟨_, _, _, _, _, _, h⟩ | ⟨_, _, _, _, _, _, _, _, h⟩
      · exact cRun_alloc hk ho ht hord' h hi'
      · exact cRun_alloc hk ho ht hord' h hi'
      · exact cRun_alloc hk ho ht hord' h hi'
/-- A variable is made early. -/
theorem Inv.stepA (ok : C.Ok) (I : Inv C done rest a H pd L act actg w φ bl) {i : Nat} (hi : i ∈ rest) (hk : getK C.ks i = .a) (hL : Lb L i = false) {o : Oper} (ho : lget C.all i = some o) (hr : ∀ e ∈ o.after.toList, bindB e = true → Lb L e.on = true)
    (r : Option Nat) {K : Act → World → Prop} {Q : Exit → Act → World → Prop} (hK : ∀ act' w' bl', Inv C done rest a H pd (L.setIfInBounds i true) act' actg w' φ bl' → K act' w') : wpOpIn (Fr r) 0 C.P ⟨C.all⟩ Q i K act w := by
  have hc : cls C.P o.op = 2 := kind_a ho (by rw [ok.ks] at hk; exact hk)
  obtain ⟨t, ht⟩ := cls2 hc
  obtain ⟨hg, ⟨z, hz⟩, hlt⟩ := cRun_alloc hk ho ht I.ord I.run hi
  obtain ⟨z', z1, z2⟩ := run_zero' (P := C.P) (w := w) hz φ
  have z3 := VR_cells z2
  have hrun : (execOp act.eval o).run C.P w = .ok (.value (.pointer (some ⟨w.heap.size, 0, none⟩))) (w.alloc (.cells z'.cells t)) := by
    obtain ⟨dst, op, type, pos, after, guard⟩ := o
    simp only at ht
    subst ht
    simp [execOp, Instr.alloc, z1, newVar, newRow]
  have hsz : i < L.size := by rw [I.Lsz]; exact lget_lt ho
  refine wpOpIn_of ho (fun hw => ?_) (fun hw => ?_)
  · refine ⟨fun _ _ => trivial, ?_⟩
    rw [show (Fr r).round = r from rfl, Oper.semAt_eq _ _ _ (by rw [ht]; intro c hcc; cases hcc), hrun]
    refine hK _ _ (fun x => if x = i then w.heap.size else bl x) ?_
    refine ⟨I.run, I.ord, I.cov, I.dlt, I.closed, by simpa using I.Lsz, ?_, ?_, ?_, I.tr, by rw [put_size]; exact I.sz1, I.sz2, by rw [put_defs]; exact I.defs, ?_, ?_, ?_, ?_, I.sim.grow _, I.st.trans (St.grow _ _ _), I.base⟩
    · intro j oj hj hoj e he hb
      by_cases hji : j = i
      · subst hji; rw [ho] at hoj; cases hoj; exact Lb_up hsz (hr e he hb)
      · rw [Lb_ne hsz hji] at hj
        exact Lb_up hsz (I.Lcl j oj hj hoj e he hb)
    · intro j hj hq
      by_cases hji : j = i
      · subst hji; exact hk
      · rw [Lb_ne hsz hji] at hq
        exact I.early j hj hq
    · intro j hj hq
      have hji : j ≠ i := fun e => by subst e; rw [Lb_self hsz] at hq; cases hq
      rw [Lb_ne hsz hji] at hq
      exact I.late j hj hq
    · intro t' h
      have hne : o.dst ≠ some t' := fun e => by
        have := (h i (by rw [dstOf_eq ho]; exact e)).2 hi
        rw [Lb_self hsz] at this; cases this
      rw [put_getD, if_neg (fun e => hne e.1)]
      refine I.agree t' fun x hx => ?_
      have hxi : x ≠ i := fun e => by subst e; rw [dstOf_eq ho] at hx; exact hne hx
      have := h x hx
      rw [Lb_ne hsz hxi] at this
      exact this
    · intro j oj hj hq hoj
      have hji : j ≠ i := fun e => by subst e; rw [Lb_self hsz] at hq; cases hq
      rw [Lb_ne hsz hji] at hq
      exact I.reads j oj hj hq hoj
    · intro j oj hj hq hoj
      by_cases hji : j = i
      · subst hji
        rw [ho] at hoj
        cases hoj
        simp only [if_true]
        have hl := VRs_length _ _ z3
        refine ⟨t, z, _, ht, hz, alloc_new, ⟨_, _, _, rfl, ⟨?_, fun _ => rfl, ?_, ?_⟩⟩, ?_, I.st.wk.size, I.sim.oldSize, ?_, ?_⟩
        · simp only [spare]
          have : z'.cells.size = z'.cells.toList.length := by simp
          omega
        · intro k x hx
          obtain ⟨y, h1, h2⟩ := VRs_get _ _ z3 k x hx
          refine ⟨y, ?_, h2⟩
          simpa using h1
        · intro k _ _ hx
          simp at hx
        · intro d hd
          rw [put_getD, if_pos ⟨hd, by rw [I.sz1]; exact Nat.lt_of_lt_of_le (hlt d hd) ok.sz⟩]
        · cases hb : H.base w.heap.size with
          | none => rfl
          | some y => obtain ⟨ob, hw, _⟩ := I.sim.base _ y hb; have := get_lt hw; omega
        · intro k inf hki
          have := I.sim.bound k inf hki
          omega
      · rw [Lb_ne hsz hji] at hq
        simp only [if_neg hji]
        have hE := I.allocs j oj hj hq hoj
        obtain ⟨_, _, _, _, _, hb, _, _, _, _, _, hu⟩ := id hE
        refine hE.mono φ.le_refl (alloc_old (get_lt hb)) (fun d hdj => ?_) rfl hu
        rw [put_getD, if_neg]
        rintro ⟨e, _⟩
        have := ok.pairs.tame i d (by rw [dstOf_eq ho]; exact e) (by rw [hk]; simp) j (lget_lt hoj) hji (hits_iff.2 (.inr (by rw [dstOf_eq hoj]; exact hdj)))
        rw [I.predL ok this (fun o' ho' => I.Lcl j o' hq ho')] at hL
        cases hL
    · intro x y hx hy hlx hly hbb
      have small : ∀ u, u ∈ rest → u ≠ i → Lb L u = true → bl u < w.heap.size := by
        intro u hu _ hlu
        obtain ⟨_, ou, hou⟩ := ordOk_mem I.ord u hu
        obtain ⟨_, _, _, _, _, hb, _⟩ := I.allocs u ou hu hlu hou
        exact get_lt hb
      by_cases hxi : x = i
      · by_cases hyi : y = i
        · rw [hxi, hyi]
        · rw [Lb_ne hsz hyi] at hly
          rw [if_pos hxi, if_neg hyi] at hbb
          have := small y hy hyi hly
          omega
      · rw [Lb_ne hsz hxi] at hlx
        by_cases hyi : y = i
        · rw [if_neg hxi, if_pos hyi] at hbb
          have := small x hx hxi hlx
          omega
        · rw [Lb_ne hsz hyi] at hly
          rw [if_neg hxi, if_neg hyi] at hbb
          exact I.dist x y hx hy hlx hly hbb
  · rw [wanted_getD, hg] at hw
    cases hw
/-- A step that all others know. -/
theorem Inv.stepE1 (ok : C.Ok) {i : Nat} (I : Inv C done (i :: rest) a H pd L act actg w φ bl) (hk : getK C.ks i = .e) (hL : Lb L i = false) {o : Oper} (ho : lget C.all i = some o) (hr : ∀ e ∈ o.after.toList, bindB e = true → Lb L e.on = true)
    {v : VV} {v' : Value} {φ₁ : Phi} {w₁ : World} {H₁ : VH} {a₁ : VT} {pd₁ : List Nat} (hst : St φ w φ₁ w₁) (hv : VR φ₁ v v') (hs : HSim C.w0 φ₁ H₁ w₁) (hb : H₁.base = H.base) (hp : putD C.nt a o.dst v = some a₁) (hrun : cRun C.P C.fe C.nt C.all C.ks C.ms rest a₁ H₁ pd₁ = some C.res)
    (hT : ∀ j oj, lget C.all j = some oj → rch C.ms j i = false → (j ∈ pd → j ∈ pd₁) ∧ (cls C.P oj.op = 0 ∨ (j ∈ pd → still C.P a H₁ oj = true) ∨ H₁ = H)) :
    Inv C (i :: done) rest a₁ H₁ pd₁ (L.setIfInBounds i true) (act.put o.dst v') (actg.put o.dst v') w₁ φ₁ bl := by
  obtain ⟨o', ho', hnd, hed, _, _, hord⟩ := ordOk_cons I.ord
  rw [ho] at ho'
  cases ho'
  have hsz : i < L.size := by rw [I.Lsz]; exact lget_lt ho
  have hed' : ∀ o', lget C.all i = some o' → ∀ e ∈ o'.after.toList, bindB e = true → e.on ∈ done := fun o' ho' => by rw [ho] at ho'; cases ho'; exact hed
  have hr' : ∀ o', lget C.all i = some o' → ∀ e ∈ o'.after.toList, bindB e = true → Lb L e.on = true := fun o' ho' => by rw [ho] at ho'; cases ho'; exact hr
  have apt := ordOk_mem hord
  obtain ⟨p1, p2, p3⟩ := putD_sound (act := actg) (I.tr.mono hst.le) (by rw [I.sz2]; exact ok.sz) ok.nt hv hp
  refine ⟨hrun, hord, ?_, ?_, ?_, by simpa using I.Lsz, ?_, ?_, ?_, p1, by rw [put_size]; exact I.sz1, by rw [p2]; exact I.sz2, by rw [put_defs]; exact I.defs, ?_, ?_, ?_, ?_, hs, I.st.trans hst, hb.trans I.base⟩
  · intro j hj
    rcases I.cov j hj with h | h
    · exact .inl (by simp [h])
    · rcases List.mem_cons.1 h with rfl | h
      · exact .inl (by simp)
      · exact .inr h
  · intro j hj
    rcases List.mem_cons.1 hj with rfl | hj
    · exact ⟨o, ho⟩
    · exact I.dlt j hj
  · intro j oj hj hoj e he hb
    rcases List.mem_cons.1 hj with rfl | hj
    · rw [ho] at hoj; cases hoj; exact List.mem_cons_of_mem _ (hed e he hb)
    · exact List.mem_cons_of_mem _ (I.closed j oj hj hoj e he hb)
  · intro j oj hj hoj e he hb
    by_cases hji : j = i
    · subst hji; rw [ho] at hoj; cases hoj; exact Lb_up hsz (hr e he hb)
    · rw [Lb_ne hsz hji] at hj
      exact Lb_up hsz (I.Lcl j oj hj hoj e he hb)
  · intro j hj hq
    have hji : j ≠ i := fun e => by subst e; exact (apt j hj).1 (by simp)
    rw [Lb_ne hsz hji] at hq
    exact I.early j (List.mem_cons_of_mem _ hj) hq
  · intro j hj hq
    have hji : j ≠ i := fun e => by subst e; rw [Lb_self hsz] at hq; cases hq
    rw [Lb_ne hsz hji] at hq
    rcases List.mem_cons.1 hj with h | hj
    · exact absurd h hji
    · exact I.late j hj hq
  · intro t h
    rw [put_getD, put_getD, I.sz1, I.sz2]
    by_cases hc : o.dst = some t ∧ t < C.sz
    · rw [if_pos hc, if_pos hc]
    · rw [if_neg hc, if_neg hc]
      by_cases hdt : o.dst = some t
      · have hlt : ¬ t < C.sz := fun hx => hc ⟨hdt, hx⟩
        rw [getD_big (by rw [I.sz1]; exact hlt), getD_big (by rw [I.sz2]; exact hlt)]
      · refine I.agree t fun x hx => ?_
        have hxi : x ≠ i := fun e => by subst e; rw [dstOf_eq ho] at hx; exact hdt hx
        have := h x hx
        rw [Lb_ne hsz hxi] at this
        refine ⟨fun hxd => this.1 (List.mem_cons_of_mem _ hxd), fun hxr => ?_⟩
        rcases List.mem_cons.1 hxr with e | hxr
        · exact absurd e hxi
        · exact this.2 hxr
  · intro j oj hj hq hoj
    have hji : j ≠ i := fun e => by subst e; rw [Lb_self hsz] at hq; cases hq
    rw [Lb_ne hsz hji] at hq
    have hjd : j ∈ done := by
      rcases List.mem_cons.1 hj with h | hj
      · exact absurd h hji
      · exact hj
    have hrf : rch C.ms j i = false := by
      cases hx : rch C.ms j i with
      | false => rfl
      | true => rw [I.predL ok hx hr'] at hq; cases hq
    have hno : ∀ d, o.dst = some d → d ∉ looksOf C.all j ∧ dstOf C.all j ≠ some d := fun d hd => I.nohit ok hnd hjd (by rw [dstOf_eq ho]; exact hd) (.inr hrf)
    obtain ⟨t1, t2⟩ := hT j oj hoj hrf
    refine Told.step (I.reads j oj hjd hq hoj) (sameV_putD ok.nt hp fun t h => ?_) (fun d hd => ?_) t1 t2
    · have := (hno t h).1
      rwa [looksOf_eq hoj] at this
    · rw [tget_putD ok.nt hp, if_neg]
      intro e
      exact (hno d e).2 (by rw [dstOf_eq hoj]; exact hd)
  · intro j oj hj hq hoj
    have hji : j ≠ i := fun e => by subst e; exact (apt j hj).1 (by simp)
    rw [Lb_ne hsz hji] at hq
    have hj' := List.mem_cons_of_mem i hj
    have hE := I.allocs j oj hj' hq hoj
    obtain ⟨_, _, _, _, _, hbk, _, _, _, _, _, hu⟩ := id hE
    refine hE.mono hst.le (hst.frame _ (get_lt hbk) hu) (fun d hdj => ?_) hb (fun k inf hki hbb => ?_)
    · rw [put_getD, if_neg]
      rintro ⟨e, _⟩
      have hka := I.early j hj' hq
      have := ok.pairs.tame j d (by rw [dstOf_eq hoj]; exact hdj) (by rw [hka]; simp) i (lget_lt ho) (Ne.symm hji) (hits_iff.2 (.inr (by rw [dstOf_eq ho]; exact e)))
      exact I.apart hj' (I.predD ok this hed')
    · rcases hst.own k inf hki with ⟨k', jnf, h1, h2⟩ | h
      · exact hu k' jnf h1 (h2.trans hbb)
      · have := get_lt hbk
        omega
  · intro x y hx hy hlx hly
    have hxi : x ≠ i := fun e => by subst e; exact (apt x hx).1 (by simp)
    have hyi : y ≠ i := fun e => by subst e; exact (apt y hy).1 (by simp)
    rw [Lb_ne hsz hxi] at hlx
    rw [Lb_ne hsz hyi] at hly
    exact I.dist x y (List.mem_cons_of_mem _ hx) (List.mem_cons_of_mem _ hy) hlx hly
theorem Inv.stepE (ok : C.Ok) {i : Nat} (I : Inv C done (i :: rest) a H pd L act actg w φ bl) (hk : getK C.ks i = .e) (hL : Lb L i = false) {o : Oper} (ho : lget C.all i = some o) (hr : ∀ e ∈ o.after.toList, bindB e = true → Lb L e.on = true)
    (r : Option Nat) {K : Act → World → Prop} {Q : Exit → Act → World → Prop} (hK : ∀ a₁ H₁ pd₁ act' actg' w' φ', Inv C (i :: done) rest a₁ H₁ pd₁ (L.setIfInBounds i true) act' actg' w' φ' bl → K act' w') : wpOpIn (Fr r) 0 C.P ⟨C.all⟩ Q i K act w := by
  obtain ⟨o', ho', _, hed, _⟩ := ordOk_cons I.ord
  rw [ho] at ho'
  cases ho'
  have hsm := I.same ok ho hL hed hr
  have hwant := hsm.wanted.trans (wantedV_sound (ops := C.all) I.tr o)
  rcases cRun_cons I.run ho with ⟨h1, a₁, h2, h3⟩ | ⟨_, h2, _⟩ | ⟨h1, _, v, H₁, a₁, h3, h4, h5, h6⟩
  · refine wpOpIn_of ho (fun hw => by rw [hwant, h1] at hw; cases hw) (fun _ => ?_)
    exact hK _ _ _ _ _ _ _ (I.stepE1 ok hk hL ho hr (.refl φ w) (VR_undef φ) I.sim rfl h2 h3 fun j oj _ _ => ⟨id, .inr (.inr rfl)⟩)
  · rw [hk] at h2; cases h2
  · refine wpOpIn_of ho (fun _ => ?_) (fun hw => by rw [hwant, h1] at hw; cases hw)
    refine opRun_same ok.ng ok.fe I.tr I.sim hsm h3 r _ _ ?_
    intro v' w₁ φ₁ k1 k2 k3 k4
    exact hK _ _ _ _ _ _ _ (I.stepE1 ok hk hL ho hr k1 k2 k3 k4 h5 h6 fun j oj hoj hrf => ⟨fun hp => keepP_mem hp hrf, .inr (.inl fun hp => stable_spec h4 j hp hrf oj hoj)⟩)
/-! ### the region -/
theorem Inv.finish (ok : C.Ok) (I : Inv C done rest a H pd L act actg w φ bl) (hall : ∀ i, i < C.all.length → Lb L i = true) :
    ∃ φ', St C.φ0 C.ws φ' w ∧ TR φ' C.res.1 act.tmps ∧ HSim C.w0 φ' C.res.2 w ∧ C.res.2.base = C.H0.base ∧ act.tmps.size = C.sz ∧ act.defers = [] := by
  obtain ⟨done', rest', a', H', pd', actg', φ', J, hJ⟩ := Inv.norm ok rest done a H pd actg φ I
  rcases hJ with rfl | ⟨i, r, rfl, hL, _⟩
  · have hrun := J.run
    simp only [cRun, Option.some.injEq] at hrun
    refine ⟨φ', J.st, ?_, ?_, ?_, J.sz1, J.defs⟩
    · rw [← hrun]
      intro t
      rw [J.agree t fun x hx => ⟨fun _ => hall x (dstOf_lt hx), fun h => by cases h⟩]
      exact J.tr t
    · rw [← hrun]; exact J.sim
    · rw [← hrun]; exact J.base
  · obtain ⟨_, o, ho⟩ := ordOk_mem J.ord i (by simp)
    rw [hall i (lget_lt ho)] at hL
    cases hL
theorem getD_true_Lb (hsz : L.size = C.all.length) {i : Nat} (hi : i < C.all.length) : L.getD i true = Lb L i := by
  unfold Lb
  have : i < L.size := by omega
  simp [this]
theorem ready_iff (hsz : L.size = C.all.length) {i : Nat} : i ∈ Region.ready .any ⟨C.all⟩ L ↔ Lb L i = false ∧ ∃ o, lget C.all i = some o ∧ ∀ e ∈ o.after.toList, bindB e = true → Lb L e.on = true := by
  rw [mem_ready]
  have e0 : (⟨C.all⟩ : Array Oper)[i]? = lget C.all i := by rw [lget_eq]; simp
  rw [e0]
  constructor
  · rintro ⟨h1, o, h2, h3⟩
    rw [getD_true_Lb hsz (lget_lt h2)] at h1
    exact ⟨h1, o, h2, fun e he hb => h3 e (by simpa using he) (by rw [← bindB_eq]; exact hb)⟩
  · rintro ⟨h1, o, h2, h3⟩
    rw [← getD_true_Lb hsz (lget_lt h2)] at h1
    exact ⟨h1, o, h2, fun e he hb => h3 e (by simpa using he) (by rw [bindB_eq]; exact hb)⟩
theorem none_ready (hsz : L.size = C.all.length) (hr : Region.ready .any ⟨C.all⟩ L = []) {ks : List SK} {mk : List Nat} : ∀ {rest before : List Nat}, ordOk C.all ks mk before rest = true → (∀ x ∈ before, Lb L x = true) → ∀ x ∈ rest, Lb L x = true
  | [], _, _, _, x, hx => by cases hx
  | i :: rest, before, ho, hb, x, hx => by
    obtain ⟨o, h1, _, h2, _, _, h3⟩ := ordOk_cons ho
    have hi : Lb L i = true := by
      cases hq : Lb L i with
      | true => rfl
      | false =>
        have : i ∈ Region.ready .any ⟨C.all⟩ L := (ready_iff hsz).2 ⟨hq, o, h1, fun e he hbe => hb _ (h2 e he hbe)⟩
        rw [hr] at this
        cases this
    rcases List.mem_cons.1 hx with rfl | hx
    · exact hi
    · exact none_ready hsz hr h3 (fun y hy => by
        rcases List.mem_cons.1 hy with rfl | hy
        · exact hi
        · exact hb y hy) x hx
end
theorem Inv.any {C : Ctx} (ok : C.Ok) {ord : List Nat} (hord : ordOk C.all C.ks C.ms [] ord = true) (hcov : ∀ i, i < C.all.length → i ∈ ord) (r : Option Nat) {Q : Exit → Act → World → Prop}
    (hQ : ∀ act w φ, St C.φ0 C.ws φ w → TR φ C.res.1 act.tmps → HSim C.w0 φ C.res.2 w → C.res.2.base = C.H0.base → act.tmps.size = C.sz → act.defers = [] → Q .normal act w) : ∀ (fuel : Nat) (l : List Nat) (done rest : List Nat) (a : VT) (H : VH) (pd : List Nat) (L : Array Bool) (act actg : Act) (w : World) (φ : Phi) (bl : Nat → Nat),
    Inv C done rest a H pd L act actg w φ bl → (∀ i, i < C.all.length → Lb L i = false → i ∈ l) → l.length ≤ fuel → wpAnyIn (Fr r) 0 C.P .any ⟨C.all⟩ Q fuel L act w := by
  intro fuel
  have fin : ∀ {done rest : List Nat} {a : VT} {H : VH} {pd : List Nat} {L : Array Bool} {act actg : Act} {w : World} {φ : Phi} {bl : Nat → Nat}, Inv C done rest a H pd L act actg w φ bl → (∀ i, i < C.all.length → Lb L i = true) → Q .normal act w := by
    intro done rest a H pd L act actg w φ bl I hall
    obtain ⟨φ', h1, h2, h3, h4, h5, h6⟩ := I.finish ok hall
    exact hQ act w φ' h1 h2 h3 h4 h5 h6
  induction fuel with
  | zero =>
    intro l done rest a H pd L act actg w φ bl I hl hlen
    have hall : ∀ i, i < C.all.length → Lb L i = true := by
      intro i hi
      cases hq : Lb L i with
      | true => rfl
      | false => have := hl i hi hq; rw [List.length_eq_zero_iff.1 (Nat.le_zero.1 hlen)] at this; cases this
    refine ⟨?_, fin I hall⟩
    refine List.eq_nil_iff_forall_not_mem.2 fun i hi => ?_
    obtain ⟨h1, o, h2, _⟩ := (ready_iff I.Lsz).1 hi
    rw [hall i (lget_lt h2)] at h1
    cases h1
  | succ fuel ih =>
    intro l done rest a H pd L act actg w φ bl I hl hlen
    refine ⟨fun hr => fin I fun i hi => none_ready I.Lsz hr hord (fun x hx => by cases hx) i (hcov i hi), ?_⟩
    intro i hi
    obtain ⟨hL, o, ho, hrd⟩ := (ready_iff I.Lsz).1 hi
    have hil := lget_lt ho
    have hisz : i < L.size := by rw [I.Lsz]; exact hil
    have hl' : ∀ j, j < C.all.length → Lb (L.setIfInBounds i true) j = false → j ∈ l.erase i := by
      intro j hj hq
      have hji : j ≠ i := fun e => by subst e; rw [Lb_self hisz] at hq; cases hq
      rw [Lb_ne hisz hji] at hq
      exact (List.mem_erase_of_ne hji).2 (hl j hj hq)
    have hlen' : (l.erase i).length ≤ fuel := by
      rw [List.length_erase_of_mem (hl i hil hL)]
      omega
    obtain ⟨done', rest', a', H', pd', actg', φ', J, hJ⟩ := Inv.norm ok rest done a H pd actg φ I
    have hrdo : ∀ o', lget C.all i = some o' → ∀ e ∈ o'.after.toList, bindB e = true → Lb L e.on = true := fun o' ho' => by rw [ho] at ho'; cases ho'; exact hrd
    rcases J.cov i hil with hd | hd
    · exact J.stepD ok hd hL ho hrd r fun act' actg'' K => ih _ _ _ _ _ _ _ _ _ _ _ _ K hl' hlen'
    · by_cases hka : getK C.ks i = .a
      · exact J.stepA ok hd hka hL ho hrd r fun act' w' bl' K => ih _ _ _ _ _ _ _ _ _ _ _ _ K hl' hlen'
      · rcases hJ with rfl | ⟨h, rr, rfl, hLh, hkh⟩
        · cases hd
        · have hih : i = h := by
            rcases List.mem_cons.1 hd with e | hd
            · exact e
            · exfalso
              have key : ∀ x, rch C.ms x i = true → Lb L x = true := fun x hx => J.predL ok hx hrdo
              cases hkk : getK C.ks h with
              | r => exact hkh hkk
              | e =>
                obtain ⟨p, q, hpq⟩ := List.append_of_mem hd
                have := ordOk_eff J.ord (h :: p) i q (by simp [hpq]) hka h (.inr (by simp)) hkk
                rw [key h this] at hLh
                cases hLh
              | a =>
                obtain ⟨_, _, _, _, hga, _, hordr⟩ := ordOk_cons J.ord
                obtain ⟨pre, k, post, h1, h2, h3, h4⟩ := headOk_spec (hga hkk).2 i hd hka
                rcases h4 with rfl | h4
                · rw [key h h3] at hLh; cases hLh
                · obtain ⟨p, q, hpq⟩ := List.append_of_mem h4
                  have hr1 := ordOk_eff hordr (pre ++ k :: p) i q (by rw [h1, hpq]; simp) hka k (.inr (by simp)) h2
                  have hLk := key k hr1
                  have := J.early k (by rw [h1]; simp) hLk
                  rw [h2] at this
                  cases this
          subst hih
          have hke : getK C.ks i = .e := by
            cases hkk : getK C.ks i with
            | r => exact absurd hkk hkh
            | a => exact absurd hkk hka
            | e => rfl
          exact J.stepE ok hke hL ho hrd r fun a₁ H₁ pd₁ act' actg'' w' φ'' K => ih _ _ _ _ _ _ _ _ _ _ _ _ K hl' hlen'
theorem drawRun_sound {P : Program} (hng : NoNG P) (hm : P.follows .mixedOrders = true) {fe : FE} (hfe : FEok P fe) : DEok P (drawRun P fe) := by
  intro w0 nt id ops a H a₁ H₁ h hb r φ act w ht hs hn hd
  unfold drawRun at h
  generalize hms : masks ops [] = ms at h
  generalize hks : kinds P ops ms ops.length 0 ops = ks at h
  generalize hord : canonOrd ks ms ops.length = ord at h
  cases hok : regOk ops ks ms ord ops.length with
  | false => rw [hok] at h; cases h
  | true =>
    rw [hok] at h
    simp only at h
    unfold regOk at hok
    cases h1 : ordOk ops ks ms [] ord with
    | false => rw [h1] at hok; cases hok
    | true =>
      rw [h1] at hok
      simp only at hok
      cases h2 : allN (fun i => memN i ord) (upto ops.length 0) with
      | false => rw [h2] at hok; cases hok
      | true =>
        rw [h2] at hok
        simp only at hok
        have hcov : ∀ i, i < ops.length → i ∈ ord := fun i hi => memN_iff.1 (allN_iff.1 h2 i (mem_upto.2 ⟨by omega, by omega⟩))
        have hpairs : Pairs ops ks ms := pairs_of rfl fun x hx => allN_iff.1 hok x (mem_upto.2 ⟨by omega, by omega⟩)
        refine wpIn_region_any hm ?_
        let C : Ctx := { P, fe, nt, all := ops, ks, ms, w0, ws := { w with drawn := w.drawn + 1 }, φ0 := φ, H0 := H, sz := act.tmps.size, res := (a₁, H₁) }
        have ok : C.Ok := ⟨hng, hfe, hb, hn, hms.symm, hks.symm, hpairs⟩
        have hL0 : ∀ i, Lb (Array.replicate ops.length false) i = false := by
          intro i
          unfold Lb
          simp only [Array.getD_eq_getD_getElem?, Array.getElem?_replicate]
          split <;> rfl
        have hdr : St φ w φ { w with drawn := w.drawn + 1 } := St.drew rfl rfl rfl rfl
        refine Inv.any (C := C) ok h1 hcov r (Q := PostC w0 φ w act.tmps.size H .normal a₁ H₁) ?_ ops.length (upto ops.length 0) [] ord a H [] (Array.replicate ops.length false) act act { w with drawn := w.drawn + 1 } φ (fun _ => 0) ?_ ?_ ?_
        · intro act' w' φ' k1 k2 k3 k4 k5 k6
          exact ⟨φ', rfl, hdr.trans k1, k2, k3, k4, k5, k6⟩
        · refine ⟨h, h1, fun i hi => .inr (hcov i hi), (fun i hi => by cases hi), (fun j o hj => by cases hj), (by simp [C]), ?_, ?_, (fun i hi => by cases hi), ht, rfl, rfl, hd, (fun _ _ => rfl), (fun i o hi => by cases hi), ?_, ?_, hs.heap rfl, St.refl _ _, rfl⟩
          · intro j o hj; rw [hL0] at hj; cases hj
          · intro i _ hq; rw [hL0] at hq; cases hq
          · intro i o _ hq; rw [hL0] at hq; cases hq
          · intro i j _ _ hq; rw [hL0] at hq; cases hq
        · intro i hi _
          exact mem_upto.2 ⟨by omega, by simpa [C] using hi⟩
        · have : ∀ n s, (upto n s).length = n := by
            intro n
            induction n with
            | zero => intro s; rfl
            | succ n ih => intro s; simp [upto, ih]
          rw [this]
          exact Nat.le_refl _
end
end Go.Ev
