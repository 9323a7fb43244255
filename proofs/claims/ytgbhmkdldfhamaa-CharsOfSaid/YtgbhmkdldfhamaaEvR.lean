/- Engine, part R: regions that draw their order: the steps. -/
import Derived.Test.YtgbhmkdldfhamaaEvQ
namespace Go.Ev
noncomputable section
section
variable {C : Ctx} {done rest : List Nat} {a : VT} {H : VH} {pd : List Nat} {L : Array Bool} {act actg : Act} {w : World} {φ : Phi} {bl : Nat → Nat}
theorem sameV_putD {nt : Nat} (hb : nt ≤ top) {all : List Oper} {o : Oper} {a a₁ : VT} {d : Option Nat} {v : VV} (h : putD nt a d v = some a₁) (hn : ∀ t, d = some t → t ∉ looks all o) : SameV all o a a₁ := by
  intro t ht
  rw [tget_putD hb h]
  rw [if_neg (fun e => hn t e ht)]
/-- What is read and not yet told. -/
def Told (C : Ctx) (a : VT) (H : VH) (pd : List Nat) (i : Nat) (o : Oper) : Prop :=
  (wantedV C.all a o.guard = false ∧ ∀ d, o.dst = some d → tget a d = vundef) ∨
    (wantedV C.all a o.guard = true ∧ ∃ v, (evR C.P o.op a H).get = some v ∧ (∀ d, o.dst = some d → tget a d = v) ∧ (cls C.P o.op = 0 ∨ i ∈ pd))
theorem Told.step {o : Oper} {i : Nat} {a₁ : VT} {pd₁ : List Nat} {H₁ : VH} (h : Told C a H pd i o) (hs : SameV C.all o a a₁) (hd : ∀ d, o.dst = some d → tget a₁ d = tget a d) (hp : i ∈ pd → i ∈ pd₁)
    (hH : cls C.P o.op = 0 ∨ (i ∈ pd → still C.P a H₁ o = true) ∨ H₁ = H) : Told C a₁ H₁ pd₁ i o := by
  rcases h with ⟨h1, h2⟩ | ⟨h1, v, h2, h3, h4⟩
  · exact .inl ⟨by rw [← hs.wanted]; exact h1, fun d hdd => by rw [hd d hdd]; exact h2 d hdd⟩
  · refine .inr ⟨by rw [← hs.wanted]; exact h1, ?_⟩
    have case0 : cls C.P o.op = 0 → ∃ v, (evR C.P o.op a₁ H₁).get = some v ∧ (∀ d, o.dst = some d → tget a₁ d = v) ∧ (cls C.P o.op = 0 ∨ i ∈ pd₁) := fun h0 =>
      ⟨v, by rw [← hs.evR, evR_pure h0 (K := H)]; exact h2, fun d hdd => by rw [hd d hdd]; exact h3 d hdd, .inl h0⟩
    rcases hH with h0 | hH | rfl
    · exact case0 h0
    · rcases h4 with h0 | h4
      · exact case0 h0
      · obtain ⟨u, k1, k2⟩ := still_spec (hH h4)
        exact ⟨u, by rw [← hs.evR]; exact k1, fun d hdd => by rw [hd d hdd]; exact k2 d hdd, .inr (hp h4)⟩
    · exact ⟨v, by rw [← hs.evR]; exact h2, fun d hdd => by rw [hd d hdd]; exact h3 d hdd, h4.imp id hp⟩
/-- What only reads is put first. -/
theorem Inv.advR1 (ok : C.Ok) {i : Nat} (I : Inv C done (i :: rest) a H pd L act actg w φ bl) (hk : getK C.ks i = .r) {o : Oper} (ho : lget C.all i = some o) {v : VV} {v' : Value} (hv : VR φ v v') {a₁ : VT} (hp : putD C.nt a o.dst v = some a₁) {pd₁ : List Nat}
    (hrun : cRun C.P C.fe C.nt C.all C.ks C.ms rest a₁ H pd₁ = some C.res) (hpd : ∀ x ∈ pd, x ∈ pd₁) (ht : SameV C.all o a a₁ → Told C a₁ H pd₁ i o) : Inv C (i :: done) rest a₁ H pd₁ L act (actg.put o.dst v') w φ bl := by
  have hL : Lb L i = false := by
    cases h : Lb L i with
    | false => rfl
    | true => have := I.early i (by simp) h; rw [hk] at this; cases this
  obtain ⟨o', ho', hnd, hed, _, _, hord⟩ := ordOk_cons I.ord
  rw [ho] at ho'
  cases ho'
  have hno : ∀ k ∈ done, ∀ d, o.dst = some d → d ∉ looksOf C.all k ∧ dstOf C.all k ≠ some d := fun k hkd d hd => I.nohit ok hnd hkd (by rw [dstOf_eq ho]; exact hd) (.inl (by rw [hk]; simp))
  obtain ⟨p1, p2, p3⟩ := putD_sound I.tr (by rw [I.sz2]; exact ok.sz) ok.nt hv hp
  refine ⟨hrun, hord, ?_, ?_, ?_, I.Lsz, I.Lcl, ?_, ?_, p1, I.sz1, by rw [p2]; exact I.sz2, I.defs, ?_, ?_, ?_, ?_, I.sim, I.st, I.base⟩
  · intro j hj
    rcases I.cov j hj with h | h
    · exact .inl (by simp [h])
    · rcases List.mem_cons.1 h with rfl | h
      · exact .inl (by simp)
      · exact .inr h
  · intro j hj
    rcases List.mem_cons.1 hj with rfl | hj
    · exact ⟨o, ho⟩
    · exact I.dlt j hj
  · intro j oj hj hoj e he hb
    rcases List.mem_cons.1 hj with rfl | hj
    · rw [ho] at hoj; cases hoj; exact List.mem_cons_of_mem _ (hed e he hb)
    · exact List.mem_cons_of_mem _ (I.closed j oj hj hoj e he hb)
  · exact fun j hj => I.early j (List.mem_cons_of_mem _ hj)
  · intro j hj hq
    rcases List.mem_cons.1 hj with rfl | hj
    · exact hk
    · exact I.late j hj hq
  · intro t h
    have hne : o.dst ≠ some t := fun e => by
      have := (h i (by rw [dstOf_eq ho]; exact e)).1 (by simp)
      rw [hL] at this; cases this
    rw [put_getD, if_neg (fun e => hne e.1)]
    refine I.agree t fun x hx => ⟨fun hd => (h x hx).1 (List.mem_cons_of_mem _ hd), fun hr => ?_⟩
    rcases List.mem_cons.1 hr with rfl | hr
    · exact hL
    · exact (h x hx).2 hr
  · intro j oj hj hq hoj
    rcases List.mem_cons.1 hj with rfl | hj
    · rw [ho] at hoj
      cases hoj
      refine ht (sameV_putD ok.nt hp fun t h => ?_)
      have := ok.pairs.self j t (lget_lt ho) (by rw [dstOf_eq ho]; exact h) (by rw [hk]; simp)
      rwa [looksOf_eq ho] at this
    · refine Told.step (I.reads j oj hj hq hoj) (sameV_putD ok.nt hp fun t h => ?_) (fun d hd => ?_) (hpd j) (.inr (.inr rfl))
      · have := (hno j hj t h).1
        rwa [looksOf_eq hoj] at this
      · rw [tget_putD ok.nt hp, if_neg]
        intro e
        exact (hno j hj d e).2 (by rw [dstOf_eq hoj]; exact hd)
  · exact fun j oj hj hq hoj => I.allocs j oj (List.mem_cons_of_mem _ hj) hq hoj
  · exact fun x y hx hy => I.dist x y (List.mem_cons_of_mem _ hx) (List.mem_cons_of_mem _ hy)
theorem Inv.advR (ok : C.Ok) {i : Nat} (I : Inv C done (i :: rest) a H pd L act actg w φ bl) (hk : getK C.ks i = .r) : ∃ a₁ pd₁ actg₁, Inv C (i :: done) rest a₁ H pd₁ L act actg₁ w φ bl := by
  obtain ⟨o, ho, _⟩ := ordOk_cons I.ord
  rcases cRun_cons I.run ho with ⟨h1, a₁, h2, h3⟩ | ⟨h1, h2, v, a₁, h3, h4, h5⟩ | ⟨_, h2, _⟩
  · refine ⟨a₁, pd, _, I.advR1 ok hk ho (VR_undef φ) h2 h3 (fun _ h => h) fun hs => ?_⟩
    exact .inl ⟨by rw [← hs.wanted]; exact h1, fun d hd => by rw [tget_putD ok.nt h2, if_pos hd]⟩
  · obtain ⟨v', k1, k2⟩ := RNR_get h3 (evR_sound (P := C.P) I.tr I.sim o)
    refine ⟨a₁, _, _, I.advR1 ok hk ho k2 h4 h5 (fun x hx => ?_) fun hs => ?_⟩
    · split
      · exact hx
      · exact List.mem_cons_of_mem _ hx
    · refine .inr ⟨by rw [← hs.wanted]; exact h1, v, by rw [← hs.evR]; exact h3, fun d hd => by rw [tget_putD ok.nt h4, if_pos hd], ?_⟩
      split
      · exact .inl (by assumption)
      · exact .inr (by simp)
  · exact absurd hk h2
theorem cls2 {P : Program} {op : Op} (h : cls P op = 2) : ∃ t, op = .alloc t := by
  cases op with
  | alloc t => exact ⟨t, rfl⟩
  | convert s d x =>
    simp only [cls] at h
    split at h <;> cases h
  | call c =>
    obtain ⟨callee, args, ts⟩ := c
    cases callee with
    | builtin bi => cases bi <;> simp [cls] at h
    | _ => simp [cls] at h
  | _ => simp [cls] at h
theorem opRun_alloc {P : Program} {fe : FE} {t : TypeId} {a : VT} {H : VH} {v : VV} {H₁ : VH} (h : opRun P fe (.alloc t) a H = some (v, H₁)) : ∃ z, tzero P t = some z ∧ H.next < top ∧ v = .ptr (some ⟨.loc H.next, 0⟩) ∧ H₁ = H.alloc (.cells z.cells none 0) := by
  simp only [opRun, cls, evE] at h
  cases hz : tzero P t with
  | none => rw [hz] at h; simp [Out.get] at h
  | some z =>
    rw [hz] at h
    simp only [newPtr] at h
    cases hn : Nat.blt H.next top with
    | false => rw [hn] at h; simp [Out.get] at h
    | true =>
      rw [hn] at h
      simp only [Out.get, Option.some.injEq, Prod.mk.injEq] at h
      exact ⟨z, rfl, lt_of_blt hn, h.1.symm, h.2.symm⟩
theorem Early.mono {φ₁ : Phi} {H₁ : VH} {act₁ : Act} {w₁ : World} {b : Nat} {o : Oper} (h : Early C φ H act w b o) (hle : φ.le φ₁) (hw : w₁.heap[b]? = w.heap[b]?) (ha : ∀ d, o.dst = some d → act₁.tmps.getD d undef = act.tmps.getD d undef) (hb : H₁.base = H.base)
    (hun : ∀ j inf, φ₁ j = some inf → inf.blk ≠ b) : Early C φ₁ H₁ act₁ w₁ b o := by
  obtain ⟨t, z, o', h1, h2, h3, h4, h5, h6, h7, h8, h9⟩ := h
  exact ⟨t, z, o', h1, h2, by rw [hw]; exact h3, h4.mono hle, fun d hd => by rw [ha d hd]; exact h5 d hd, h6, h7, by rw [hb]; exact h8, hun⟩
/-- A variable that was made early is made now. -/
theorem Inv.advA (ok : C.Ok) {i : Nat} (I : Inv C done (i :: rest) a H pd L act actg w φ bl) (hk : getK C.ks i = .a) (hL : Lb L i = true) : ∃ a₁ H₁ pd₁ actg₁ φ₁, Inv C (i :: done) rest a₁ H₁ pd₁ L act actg₁ w φ₁ bl := by
  obtain ⟨o, ho, hnd, hed, hga, _, hord⟩ := ordOk_cons I.ord
  have hg := (hga hk).1
  rcases cRun_cons I.run ho with ⟨h1, _⟩ | ⟨_, h2, _⟩ | ⟨_, _, v, H₁, a₁, h3, h4, h5, h6⟩
  · rw [hg] at h1; cases h1
  · rw [hk] at h2; cases h2
  · have hE := I.allocs i o (by simp) hL ho
    obtain ⟨t, z, o', e1, e2, e3, e4, e5, e6, e7, e8, e9⟩ := hE
    rw [e1] at h3
    obtain ⟨z', q1, q2, rfl, rfl⟩ := opRun_alloc h3
    rw [e2] at q1
    cases q1
    have hfresh := I.sim.fresh H.next (Nat.le_refl _)
    have hle := Phi.le_ext (φ := φ) ⟨bl i, 0, 0⟩ hfresh
    have hno : ∀ k ∈ done, ∀ d, o.dst = some d → d ∉ looksOf C.all k ∧ dstOf C.all k ≠ some d := fun k hkd d hd => I.nohit ok hnd hkd (by rw [dstOf_eq ho]; exact hd) (.inl (by rw [hk]; simp))
    obtain ⟨p1, p2, p3⟩ := putD_sound (act := actg) (I.tr.mono hle) (by rw [I.sz2]; exact ok.sz) ok.nt (VR_new (φ := φ) (n := H.next) (b := bl i) (s := 0)) h5
    refine ⟨a₁, H.alloc (.cells z.cells none 0), keepP C.ms i pd, actg.put o.dst (.pointer (some ⟨bl i, 0, none⟩)), φ.ext H.next ⟨bl i, 0, 0⟩, ?_⟩
    have apt := ordOk_mem hord
    refine ⟨h6, hord, ?_, ?_, ?_, I.Lsz, I.Lcl, ?_, ?_, p1, I.sz1, by rw [p2]; exact I.sz2, I.defs, ?_, ?_, ?_, ?_, ?_, ?_, I.base⟩
    · intro j hj
      rcases I.cov j hj with h | h
      · exact .inl (by simp [h])
      · rcases List.mem_cons.1 h with rfl | h
        · exact .inl (by simp)
        · exact .inr h
    · intro j hj
      rcases List.mem_cons.1 hj with rfl | hj
      · exact ⟨o, ho⟩
      · exact I.dlt j hj
    · intro j oj hj hoj e he hb
      rcases List.mem_cons.1 hj with rfl | hj
      · rw [ho] at hoj; cases hoj; exact List.mem_cons_of_mem _ (hed e he hb)
      · exact List.mem_cons_of_mem _ (I.closed j oj hj hoj e he hb)
    · exact fun j hj => I.early j (List.mem_cons_of_mem _ hj)
    · intro j hj hq
      rcases List.mem_cons.1 hj with rfl | hj
      · rw [hL] at hq; cases hq
      · exact I.late j hj hq
    · intro t' h
      rw [put_getD]
      by_cases hd : o.dst = some t'
      · have hlt : t' < actg.tmps.size := by
          rcases putD_cases h5 with ⟨q, _⟩ | ⟨u, q, hu, _⟩
          · rw [q] at hd; cases hd
          · rw [q] at hd
            cases hd
            rw [I.sz2]
            exact Nat.lt_of_lt_of_le hu ok.sz
        rw [if_pos ⟨hd, hlt⟩]
        exact e5 t' hd
      · rw [if_neg (fun e => hd e.1)]
        refine I.agree t' fun x hx => ⟨fun hxd => (h x hx).1 (List.mem_cons_of_mem _ hxd), fun hr => ?_⟩
        rcases List.mem_cons.1 hr with rfl | hr
        · rw [dstOf_eq ho] at hx; exact absurd hx hd
        · exact (h x hx).2 hr
    · intro j oj hj hq hoj
      rcases List.mem_cons.1 hj with rfl | hj
      · rw [hL] at hq; cases hq
      · have hrf : rch C.ms j i = false := by
          cases hr : rch C.ms j i with
          | false => rfl
          | true => rw [I.predL ok hr (fun o' ho' => I.Lcl i o' hL ho')] at hq; cases hq
        refine Told.step (I.reads j oj hj hq hoj) (sameV_putD ok.nt h5 fun t h => ?_) (fun d hd => ?_) (fun hp => keepP_mem hp hrf) (.inr (.inl fun hp => stable_spec h4 j hp hrf oj hoj))
        · have := (hno j hj t h).1
          rwa [looksOf_eq hoj] at this
        · rw [tget_putD ok.nt h5, if_neg]
          intro e
          exact (hno j hj d e).2 (by rw [dstOf_eq hoj]; exact hd)
    · intro j oj hj hq hoj
      refine (I.allocs j oj (List.mem_cons_of_mem _ hj) hq hoj).mono hle rfl (fun _ _ => rfl) rfl fun k inf hki => ?_
      unfold Phi.ext at hki
      split at hki
      · cases hki
        intro hbb
        have := I.dist i j (by simp) (List.mem_cons_of_mem _ hj) hL hq hbb
        subst this
        exact (apt i hj).1 (by simp)
      · obtain ⟨_, _, _, _, _, _, _, _, _, _, _, hu⟩ := I.allocs j oj (List.mem_cons_of_mem _ hj) hq hoj
        exact hu k inf hki
    · exact fun x y hx hy => I.dist x y (List.mem_cons_of_mem _ hx) (List.mem_cons_of_mem _ hy)
    · exact I.sim.adopt q2 e3 e9 e8 e7 e4
    · exact I.st.adopt hfresh e6
end
/-- All that may be put first is put first. -/
theorem Inv.norm {C : Ctx} (ok : C.Ok) {L : Array Bool} {act : Act} {w : World} {bl : Nat → Nat} : ∀ (rest done : List Nat) (a : VT) (H : VH) (pd : List Nat) (actg : Act) (φ : Phi), Inv C done rest a H pd L act actg w φ bl →
    ∃ done' rest' a' H' pd' actg' φ', Inv C done' rest' a' H' pd' L act actg' w φ' bl ∧ (rest' = [] ∨ ∃ i r, rest' = i :: r ∧ Lb L i = false ∧ getK C.ks i ≠ .r)
  | [], done, a, H, pd, actg, φ, I => ⟨done, [], a, H, pd, actg, φ, I, .inl rfl⟩
  | i :: rest, done, a, H, pd, actg, φ, I => by
    cases hk : getK C.ks i with
    | r =>
      obtain ⟨a₁, pd₁, actg₁, I₁⟩ := I.advR ok hk
      exact Inv.norm ok rest _ _ _ _ _ _ I₁
    | a =>
      cases hL : Lb L i with
      | false => exact ⟨done, i :: rest, a, H, pd, actg, φ, I, .inr ⟨i, rest, rfl, hL, by rw [hk]; simp⟩⟩
      | true =>
        obtain ⟨a₁, H₁, pd₁, actg₁, φ₁, I₁⟩ := I.advA ok hk hL
        exact Inv.norm ok rest _ _ _ _ _ _ I₁
    | e =>
      have hL : Lb L i = false := by
        cases h : Lb L i with
        | false => rfl
        | true => have := I.early i (by simp) h; rw [hk] at this; cases this
      exact ⟨done, i :: rest, a, H, pd, actg, φ, I, .inr ⟨i, rest, rfl, hL, by rw [hk]; simp⟩⟩
end
end Go.Ev
