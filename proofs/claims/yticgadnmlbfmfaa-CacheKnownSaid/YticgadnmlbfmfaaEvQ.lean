/- Engine, part Q: regions that draw their order: what holds on the way. -/
import Derived.Test.YticgadnmlbfmfaaEvP
namespace Go.Ev
theorem putD_cases {nt : Nat} {a a₁ : VT} {d : Option Nat} {v : VV} (h : putD nt a d v = some a₁) : (d = none ∧ a₁ = a) ∨ ∃ t, d = some t ∧ t < nt ∧ a₁ = a.put t v := by
  cases d with
  | none => simp only [putD, Option.some.injEq] at h; exact .inl ⟨rfl, h.symm⟩
  | some t =>
    simp only [putD] at h
    cases hb : Nat.blt t nt with
    | false => rw [hb] at h; cases h
    | true => rw [hb] at h; simp only [Option.some.injEq] at h; exact .inr ⟨t, rfl, lt_of_blt hb, h.symm⟩
theorem tget_putD {nt : Nat} (hb : nt ≤ top) {a a₁ : VT} {d : Option Nat} {v : VV} (h : putD nt a d v = some a₁) (t : Nat) : tget a₁ t = if d = some t then v else tget a t := by
  rcases putD_cases h with ⟨rfl, rfl⟩ | ⟨u, rfl, hu, rfl⟩
  · simp
  · by_cases e : t = u
    · subst e; simp [tget, TT.get_put_same a t v (by omega)]
    · rw [if_neg (by simp; exact fun h => e h.symm)]
      simp [tget, TT.get_put_other a u t v e]
theorem put_getD (act : Act) (d : Option Nat) (v : Value) (t : Nat) : (act.put d v).tmps.getD t undef = if d = some t ∧ t < act.tmps.size then v else act.tmps.getD t undef := by
  cases d with
  | none => simp [Act.put]
  | some u =>
    simp only [Act.put, Array.getD_eq_getD_getElem?, Array.getElem?_setIfInBounds, Option.some.injEq]
    by_cases e : u = t
    · subst e
      by_cases hs : u < act.tmps.size
      · simp [hs]
      · simp [hs]
    · rw [if_neg e, if_neg (by simp [e])]
theorem put_size (act : Act) (d : Option Nat) (v : Value) : (act.put d v).tmps.size = act.tmps.size := by
  cases d <;> simp [Act.put]
theorem put_defs (act : Act) (d : Option Nat) (v : Value) : (act.put d v).defers = act.defers := by
  cases d <;> rfl
def Lb (L : Array Bool) (i : Nat) : Bool := L.getD i false
theorem Lb_set {L : Array Bool} {i : Nat} (h : i < L.size) (j : Nat) : Lb (L.setIfInBounds i true) j = if j = i then true else Lb L j := by
  unfold Lb
  by_cases e : j = i
  · subst e; simp [h]
  · rw [if_neg e, getD_set_ne false (Ne.symm e)]
/-! ### a block that lies there already -/
theorem HSim.adopt [Ext] {w0 : World} {φ : Phi} {H : VH} {w : World} (h : HSim w0 φ H w) (hn : H.next < top) {b : Nat} {o : VO} {o' : Obj} (hw : w.heap[b]? = some o') (hun : ∀ j inf, φ j = some inf → inf.blk ≠ b) (hb : H.base.blk b = none) (h0 : w0.heap.size ≤ b)
    (ho : OR φ ⟨b, 0, 0⟩ o o') : HSim w0 (φ.ext H.next ⟨b, 0, 0⟩) (H.alloc o) w := by
  have hf := h.fresh H.next (Nat.le_refl _)
  have hle := Phi.le_ext (φ := φ) ⟨b, 0, 0⟩ hf
  have hgo : ∀ j x, (H.locs.put H.next o).get j = some x → j ≠ H.next → H.locs.get j = some x := fun j x hx e => by rwa [TT.get_put_other _ _ _ _ e] at hx
  have old : ∀ k y, k ≠ H.next → φ.ext H.next ⟨b, 0, 0⟩ k = some y → φ k = some y := fun k y hk e => by simpa [Phi.ext, hk] using e
  refine ⟨h.env.mono hle, h.base, h.old, ?_, hn, ?_, ?_, ?_, ?_⟩
  · intro i inf hi
    by_cases e : i = H.next
    · subst e; rw [Phi.ext_self] at hi; cases hi; exact h0
    · exact h.own i inf (old i inf e hi)
  · intro i x hx
    by_cases e : i = H.next
    · subst e
      rw [show (H.alloc o).locs = H.locs.put H.next o from rfl, TT.get_put_same _ _ _ hn] at hx
      cases hx
      exact ⟨_, o', Phi.ext_self _ _ _, hw, ho.mono hle, hb⟩
    · obtain ⟨inf, x', h1, h2, h3, h4⟩ := h.live i x (hgo i x hx e)
      exact ⟨inf, x', hle.1 i inf h1, h2, h3.mono hle, h4⟩
  · intro i j oi oj inf jnf hi hj hfi hfj hbb
    by_cases ei : i = H.next
    · by_cases ej : j = H.next
      · rw [ei, ej]
      · have hj' := old j _ ej hfj
        subst ei
        rw [Phi.ext_self] at hfi
        cases hfi
        exact absurd hbb.symm (hun j jnf hj')
    · have hi' := old i _ ei hfi
      by_cases ej : j = H.next
      · subst ej
        rw [Phi.ext_self] at hfj
        cases hfj
        exact absurd hbb (hun i inf hi')
      · exact h.inj i j oi oj inf jnf (hgo i _ hi ei) (hgo j _ hj ej) hi' (old j _ ej hfj) hbb
  · intro i hi
    have hi' : H.next + 1 ≤ i := hi
    show (if _ then _ else _) = none
    rw [if_neg (by omega)]
    exact h.fresh i (by omega)
  · intro i inf hi
    by_cases e : i = H.next
    · subst e; rw [Phi.ext_self] at hi; cases hi; exact (Array.getElem?_eq_some_iff.1 hw).1
    · exact h.bound i inf (old i inf e hi)
theorem St.adopt {φ0 : Phi} {ws : World} {φ : Phi} {w : World} (h : St φ0 ws φ w) {n b : Nat} (hn : φ n = none) (hb : ws.heap.size ≤ b) : St φ0 ws (φ.ext n ⟨b, 0, 0⟩) w := by
  refine ⟨Phi.le_trans h.le (Phi.le_ext _ hn), h.wk, h.frame, fun i inf hi => ?_⟩
  simp only [Phi.ext] at hi
  split at hi
  · cases hi; exact .inr hb
  · exact h.own i inf hi
/-! ### what holds on the way -/
structure Ctx where
  P : Program
  fe : FE
  nt : Nat
  all : List Oper
  ks : List SK
  ms : List Nat
  w0 : World
  ws : World
  φ0 : Phi
  H0 : VH
  sz : Nat
  ld : List (Nat × VV)
  ds : List Deferred
  res : VT × VH
structure Ctx.Ok [Ext] (C : Ctx) : Prop where
  ng : NoNG C.P
  fe : FEok C.P C.fe
  nt : C.nt ≤ top
  sz : C.nt ≤ C.sz
  ms : C.ms = masks C.all []
  ks : C.ks = kinds C.P C.all C.ms C.all.length 0 [] 0 C.all
  ld : C.ld = lateDs C.P C.all C.ks
  ldt : ∀ p ∈ C.ld, p.1 < C.nt
  pairs : Pairs C.all C.ks C.ms
/-- What is read and not yet told. -/
def Told (C : Ctx) (a : VT) (H : VH) (pd : List Nat) (i : Nat) (o : Oper) : Prop :=
  gOk C.all a o.guard = true ∧ ((wantedV C.all a o.guard = false ∧ ∀ d, o.dst = some d → tget a d = vundef) ∨
    (wantedV C.all a o.guard = true ∧ ∃ v, (evR C.P o.op a H).get = some v ∧ (∀ d, o.dst = some d → tget a d = v) ∧ (cls C.P o.op = 0 ∨ i ∈ pd)))
def EarlyN (C : Ctx) (φ : Phi) (H : VH) (act : Act) (w : World) (b : Nat) (o : Oper) (ρe : Operand → Value) : Prop :=
  ∃ (k : NK) (obj : Obj), (∀ w', (execOp ρe o).run C.P w' = .ok (.value (k.real w'.heap.size)) (w'.alloc obj)) ∧ w.heap[b]? = some obj ∧ (∀ d, o.dst = some d → act.tmps.getD d undef = k.real b) ∧ C.ws.heap.size ≤ b ∧ C.w0.heap.size ≤ b ∧ H.base.blk b = none ∧ (∀ j inf, φ j = some inf → inf.blk ≠ b)
def EarlyP (C : Ctx) (act : Act) (o : Oper) (ρe : Operand → Value) : Prop :=
  ∃ v', (∀ w', (execOp ρe o).run C.P w' = .ok (.value v') w') ∧ (∀ d, o.dst = some d → act.tmps.getD d undef = v')
/-- Operations of which nothing is asked when they come: what begins a map literal, and its inserts. -/
def skipOp (C : Ctx) (o : Oper) : Prop := (∃ m, insM o.op = some m) ∨ grpOf C.all o ≠ []
/-- A late operation that was done early: what it has done. -/
def Early (C : Ctx) (φ : Phi) (H : VH) (act : Act) (w : World) (b : Nat) (o : Oper) : Prop :=
  skipOp C o ∨ ∃ ρe, (∀ x ∈ o.op.operands, ρe x = act.eval x) ∧ ((cls C.P o.op = 2 ∧ EarlyN C φ H act w b o ρe) ∨ (isU o.op = true ∧ EarlyP C act o ρe))
/-- The entries that inserts have made. -/
def Ents (C : Ctx) (act : Act) : List Nat → List MapEntry → Prop
  | [], es => es = []
  | x :: l, es => ∃ o t m k v e es', lget C.all x = some o ∧ o.op = .insert t (.tmp m) k v ∧ es = e :: es' ∧ e.key = act.eval k ∧ e.val = act.eval v ∧ Ents C act l es'
/-- A map literal, as far as it is filled. -/
def MapSt (C : Ctx) (φ : Phi) (H : VH) (L : Array Bool) (act : Act) (w : World) (b m : Nat) : Prop :=
  ∃ (l : List Nat) (es : List MapEntry) (c : Nat), w.heap[b]? = some (.map ⟨es⟩ c) ∧ l.Nodup ∧ (∀ x, x ∈ l ↔ (x ∈ insOf C.all m ∧ Lb L x = true)) ∧ Ents C act l es ∧ act.tmps.getD m undef = .map (some b) ∧
    C.ws.heap.size ≤ b ∧ C.w0.heap.size ≤ b ∧ H.base.blk b = none ∧ (∀ j inf, φ j = some inf → inf.blk ≠ b)
/-- One whose block is not named yet. -/
def Pend (C : Ctx) (rest : List Nat) (L : Array Bool) (i : Nat) : Prop :=
  Lb L i = true ∧ ∃ o, lget C.all i = some o ∧ ((cls C.P o.op = 2 ∧ grpOf C.all o = [] ∧ i ∈ rest) ∨ ∃ m, mkM o = some m ∧ ∃ z ∈ insOf C.all m, z ∈ rest)
structure Inv [Ext] (C : Ctx) (done rest : List Nat) (a : VT) (H : VH) (pd : List Nat) (L : Array Bool) (act actg : Act) (w : World) (φ : Phi) (bl : Nat → Nat) : Prop where
  run : cRun C.P C.fe C.nt C.all C.ks C.ms C.H0.base C.ld rest a H pd = some C.res
  ord : ordOk C.all C.ks C.ms done rest = true
  cov : ∀ i, i < C.all.length → i ∈ done ∨ i ∈ rest
  dlt : ∀ i ∈ done, ∃ o, lget C.all i = some o
  closed : ∀ j o, j ∈ done → lget C.all j = some o → ∀ e ∈ o.after.toList, bindB e = true → e.on ∈ done
  Lsz : L.size = C.all.length
  Lcl : ∀ j o, Lb L j = true → lget C.all j = some o → ∀ e ∈ o.after.toList, bindB e = true → Lb L e.on = true
  early : ∀ i ∈ rest, Lb L i = true → getK C.ks i = .a
  late : ∀ i ∈ done, Lb L i = false → getK C.ks i = .r
  tr : TR φ a actg.tmps
  sz1 : act.tmps.size = C.sz
  sz2 : actg.tmps.size = C.sz
  defs : act.defers = C.ds
  agree : ∀ t, (∀ i, dstOf C.all i = some t → (i ∈ done → Lb L i = true) ∧ (i ∈ rest → Lb L i = false)) → act.tmps.getD t undef = actg.tmps.getD t undef
  reads : ∀ i o, i ∈ done → Lb L i = false → lget C.all i = some o → Told C a H pd i o
  allocs : ∀ i o, i ∈ rest → Lb L i = true → lget C.all i = some o → Early C φ H act w (bl i) o
  maps : ∀ i o m, lget C.all i = some o → mkM o = some m → Lb L i = true → (∃ z ∈ insOf C.all m, z ∈ rest) → MapSt C φ H L act w (bl i) m
  dist : ∀ i j, Pend C rest L i → Pend C rest L j → bl i = bl j → i = j
  lval : ∀ i o, getK C.ks i = .a → Lb L i = true → lget C.all i = some o → ∀ d, o.dst = some d → VR φ (maskV C.P o.type) (act.tmps.getD d undef)
  sim : HSim C.w0 φ H w
  st : St C.φ0 C.ws φ w
  base : H.base = C.H0.base
theorem dstOf_eq {all : List Oper} {i : Nat} {o : Oper} (h : lget all i = some o) : dstOf all i = o.dst := by simp [dstOf, h]
theorem looksOf_eq {all : List Oper} {i : Nat} {o : Oper} (h : lget all i = some o) : looksOf all i = looks all o := by simp [looksOf, h]
theorem lget_lt {all : List Oper} {i : Nat} {o : Oper} (h : lget all i = some o) : i < all.length := by
  rw [lget_eq] at h; exact (List.getElem?_eq_some_iff.1 h).1
section
variable {C : Ctx} {done rest : List Nat} {a : VT} {H : VH} {pd : List Nat} {L : Array Bool} {act actg : Act} {w : World} {φ : Phi} {bl : Nat → Nat}
theorem Inv.predD [Ext] (ok : C.Ok) (I : Inv C done rest a H pd L act actg w φ bl) {j x : Nat} (hr : rch C.ms x j = true) (he : ∀ o, lget C.all j = some o → ∀ e ∈ o.after.toList, bindB e = true → e.on ∈ done) : x ∈ done := by
  rw [ok.ms] at hr
  exact rch_closed (L := fun i => i ∈ done) (fun j o hj ho => I.closed j o hj ho) j x hr he
theorem Inv.predL [Ext] (ok : C.Ok) (I : Inv C done rest a H pd L act actg w φ bl) {j x : Nat} (hr : rch C.ms x j = true) (he : ∀ o, lget C.all j = some o → ∀ e ∈ o.after.toList, bindB e = true → Lb L e.on = true) : Lb L x = true := by
  rw [ok.ms] at hr
  exact rch_closed (L := fun i => Lb L i = true) (fun j o hj ho => I.Lcl j o hj ho) j x hr he
theorem Inv.apart [Ext] (I : Inv C done rest a H pd L act actg w φ bl) {x : Nat} (h : x ∈ rest) : x ∉ done := (ordOk_mem I.ord x h).1
/-- What one that is not done writes, none that is done names. -/
theorem Inv.nohit [Ext] (ok : C.Ok) (I : Inv C done rest a H pd L act actg w φ bl) {x k d : Nat} (hx : x ∉ done) (hk : k ∈ done) (hd : dstOf C.all x = some d) (hq : getK C.ks x ≠ .e ∨ rch C.ms k x = false) : d ∉ looksOf C.all k ∧ dstOf C.all k ≠ some d := by
  have hne : k ≠ x := fun e => hx (e ▸ hk)
  obtain ⟨ok', hok⟩ := I.dlt k hk
  have key : hits C.all d k = true → False := by
    intro hh
    have : rch C.ms x k = true := by
      by_cases hkx : getK C.ks x = .e
      · rcases ok.pairs.eff x d hd hkx k (lget_lt hok) hne hh with h | h
        · exact h
        · rcases hq with hq | hq
          · exact absurd hkx hq
          · rw [h] at hq; cases hq
      · exact ok.pairs.tame x d hd hkx k (lget_lt hok) hne hh
    exact hx (I.predD ok this fun o ho => I.closed k o hk ho)
  exact ⟨fun h => key (hits_iff.2 (.inl h)), fun h => key (hits_iff.2 (.inr h))⟩
/-- One that may come now looks at what is known. -/
theorem Inv.same [Ext] (ok : C.Ok) (I : Inv C done rest a H pd L act actg w φ bl) {j : Nat} {o : Oper} (ho : lget C.all j = some o) (hL : Lb L j = false)
    (hd : ∀ e ∈ o.after.toList, bindB e = true → e.on ∈ done) (hr : ∀ e ∈ o.after.toList, bindB e = true → Lb L e.on = true) : Same C.all o act actg := by
  have hd' : ∀ o', lget C.all j = some o' → ∀ e ∈ o'.after.toList, bindB e = true → e.on ∈ done := fun o' ho' => by rw [ho] at ho'; cases ho'; exact hd
  have hr' : ∀ o', lget C.all j = some o' → ∀ e ∈ o'.after.toList, bindB e = true → Lb L e.on = true := fun o' ho' => by rw [ho] at ho'; cases ho'; exact hr
  intro t ht
  have ht' : t ∈ looksOf C.all j := by rw [looksOf_eq ho]; exact ht
  refine I.agree t fun x hx => ?_
  by_cases e : x = j
  · subst e
    refine ⟨fun hxd => ?_, fun _ => hL⟩
    have := I.late x hxd hL
    exact absurd ht' (ok.pairs.self x t (dstOf_lt hx) hx (by rw [this]; simp))
  · refine ⟨fun hxd => ?_, fun hxr => ?_⟩
    · cases hq : Lb L x with
      | true => rfl
      | false =>
        have := I.late x hxd hq
        have := ok.pairs.tame x t hx (by rw [this]; simp) j (lget_lt ho) (Ne.symm e) (hits_iff.2 (.inl ht'))
        rw [I.predL ok this hr'] at hq
        cases hq
    · cases hq : Lb L x with
      | false => rfl
      | true =>
        have := I.early x hxr hq
        have := ok.pairs.tame x t hx (by rw [this]; simp) j (lget_lt ho) (Ne.symm e) (hits_iff.2 (.inl ht'))
        exact absurd (I.predD ok this hd') (I.apart hxr)
end
theorem Pend.up {C : Ctx} {i : Nat} {rest : List Nat} {L : Array Bool} {j : Nat} (h : Pend C rest L j) : Pend C (i :: rest) L j := by
  obtain ⟨h1, o, h2, h3⟩ := h
  refine ⟨h1, o, h2, ?_⟩
  rcases h3 with ⟨h4, h5, h6⟩ | ⟨m, h4, z, h5, h6⟩
  · exact .inl ⟨h4, h5, List.mem_cons_of_mem _ h6⟩
  · exact .inr ⟨m, h4, z, h5, List.mem_cons_of_mem _ h6⟩
theorem cRun_cons {P : Program} {fe : FE} {nt : Nat} {all : List Oper} {ks : List SK} {mk : List Nat} {E0 : Env} {ld : List (Nat × VV)} {i : Nat} {rest : List Nat} {a : VT} {H : VH} {pd : List Nat} {r : VT × VH} (h : cRun P fe nt all ks mk E0 ld (i :: rest) a H pd = some r) {o : Oper} (ho : lget all i = some o) :
    gOk all a o.guard = true ∧ ((wantedV all a o.guard = false ∧ ∃ a₁, putD nt a o.dst vundef = some a₁ ∧ cRun P fe nt all ks mk E0 ld rest a₁ H pd = some r) ∨
    (wantedV all a o.guard = true ∧ getK ks i = .r ∧ ∃ v a₁, (evR P o.op a H).get = some v ∧ putD nt a o.dst v = some a₁ ∧ cRun P fe nt all ks mk E0 ld rest a₁ H (match cls P o.op with | 0 => pd | _ => i :: pd) = some r) ∨
    (wantedV all a o.guard = true ∧ (getK ks i = .e ∨ (getK ks i = .a ∧ insM o.op = none ∧ grpOf all o = [])) ∧ (getK ks i = .a → lateOk P E0 all ld rest o a = true) ∧ ∃ v H₁ a₁, opRun P fe o.op a H = some (v, H₁) ∧ stable P all mk i a H₁ pd = true ∧ putD nt a o.dst v = some a₁ ∧ cRun P fe nt all ks mk E0 ld rest a₁ H₁ (keepP mk i pd) = some r) ∨
    (getK ks i = .a ∧ lateOk P E0 all ld rest o a = true ∧ grpOf all o ≠ [] ∧ insM o.op = none ∧ ∃ a₁, putD nt a o.dst .one = some a₁ ∧ cRun P fe nt all ks mk E0 ld rest a₁ H pd = some r) ∨
    (getK ks i = .a ∧ lateOk P E0 all ld rest o a = true ∧ ∃ m, insM o.op = some m ∧ ((anyIn (insOf all m) rest = true ∧ cRun P fe nt all ks mk E0 ld rest a H pd = some r) ∨
      (anyIn (insOf all m) rest = false ∧ ∃ a₁ H₁, sealR nt all m a H = some (a₁, H₁) ∧ stable P all mk i a H₁ pd = true ∧ cRun P fe nt all ks mk E0 ld rest a₁ H₁ (keepP mk i pd) = some r)))) := by
  simp only [cRun, ho] at h
  cases hgo : gOk all a o.guard with
  | false => rw [hgo] at h; cases h
  | true =>
  rw [hgo] at h
  simp only at h
  refine ⟨rfl, ?_⟩
  cases hw : wantedV all a o.guard with
  | false =>
    rw [hw] at h
    simp only at h
    cases hp : putD nt a o.dst vundef with
    | none => rw [hp] at h; cases h
    | some a₁ => rw [hp] at h; exact .inl ⟨rfl, a₁, rfl, h⟩
  | true =>
    rw [hw] at h
    simp only at h
    have other : (match opRun P fe o.op a H with
          | some (v, H₁) => match stable P all mk i a H₁ pd with
            | true => match putD nt a o.dst v with
              | some a₁ => cRun P fe nt all ks mk E0 ld rest a₁ H₁ (keepP mk i pd)
              | none => none
            | false => none
          | none => none) = some r → ∃ v H₁ a₁, opRun P fe o.op a H = some (v, H₁) ∧ stable P all mk i a H₁ pd = true ∧ putD nt a o.dst v = some a₁ ∧ cRun P fe nt all ks mk E0 ld rest a₁ H₁ (keepP mk i pd) = some r := by
      intro h
      cases hr : opRun P fe o.op a H with
      | none => rw [hr] at h; cases h
      | some vh =>
        obtain ⟨v, H₁⟩ := vh
        rw [hr] at h
        simp only at h
        cases hs : stable P all mk i a H₁ pd with
        | false => rw [hs] at h; cases h
        | true =>
          rw [hs] at h
          simp only at h
          cases hp : putD nt a o.dst v with
          | none => rw [hp] at h; cases h
          | some a₁ => rw [hp] at h; exact ⟨v, H₁, a₁, rfl, hs, hp, h⟩
    cases hk : getK ks i with
    | r =>
      rw [hk] at h
      simp only at h
      cases hr : (evR P o.op a H).get with
      | none => rw [hr] at h; cases h
      | some v =>
        rw [hr] at h
        simp only at h
        cases hp : putD nt a o.dst v with
        | none => rw [hp] at h; cases h
        | some a₁ => rw [hp] at h; exact .inr (.inl ⟨rfl, rfl, v, a₁, rfl, hp, h⟩)
    | a =>
      rw [hk] at h
      simp only at h
      cases hlo : lateOk P E0 all ld rest o a with
      | false => rw [hlo] at h; cases h
      | true =>
        rw [hlo] at h
        simp only at h
        cases him : insM o.op with
        | some m =>
          rw [him] at h
          simp only at h
          refine .inr (.inr (.inr (.inr ⟨rfl, rfl, m, rfl, ?_⟩)))
          cases han : anyIn (insOf all m) rest with
          | true => rw [han] at h; exact .inl ⟨rfl, h⟩
          | false =>
            rw [han] at h
            simp only at h
            cases hse : sealR nt all m a H with
            | none => rw [hse] at h; cases h
            | some ah =>
              obtain ⟨a₁, H₁⟩ := ah
              rw [hse] at h
              simp only at h
              cases hst : stable P all mk i a H₁ pd with
              | false => rw [hst] at h; cases h
              | true => rw [hst] at h; exact .inr ⟨rfl, a₁, H₁, rfl, hst, h⟩
        | none =>
          rw [him] at h
          simp only at h
          cases hgr : grpOf all o with
          | nil => rw [hgr] at h; exact .inr (.inr (.inl ⟨rfl, .inr ⟨rfl, rfl, rfl⟩, fun _ => rfl, other h⟩))
          | cons y ys =>
            rw [hgr] at h
            simp only at h
            cases hp : putD nt a o.dst .one with
            | none => rw [hp] at h; cases h
            | some a₁ => rw [hp] at h; exact .inr (.inr (.inr (.inl ⟨rfl, rfl, by simp, rfl, a₁, rfl, h⟩)))
    | e => rw [hk] at h; exact .inr (.inr (.inl ⟨rfl, .inl rfl, (fun e => by cases e), other h⟩))
end Go.Ev
