/- Engine, part G: operations that write or make memory. -/
import Derived.Test.YticgadnmlbfmfaaEvF
namespace Go.Ev
noncomputable section
/-- A step of the real world that the virtual heap follows. -/
structure St (φ : Phi) (w : World) (φ₁ : Phi) (w₁ : World) : Prop where
  le : φ.le φ₁
  wk : WK w w₁
  frame : ∀ k, k < w.heap.size → (∀ i inf, φ i = some inf → inf.blk ≠ k) → w₁.heap[k]? = w.heap[k]?
  own : ∀ i inf, φ₁ i = some inf → (∃ j jnf, φ j = some jnf ∧ jnf.blk = inf.blk) ∨ w.heap.size ≤ inf.blk
theorem St.refl (φ : Phi) (w : World) : St φ w φ w := ⟨φ.le_refl, .refl w, fun _ _ _ => rfl, fun i inf h => .inl ⟨i, inf, h, rfl⟩⟩
theorem St.trans {φ ψ χ : Phi} {u v w : World} (h : St φ u ψ v) (k : St ψ v χ w) : St φ u χ w := by
  refine ⟨Phi.le_trans h.le k.le, h.wk.trans k.wk, fun b hb hn => ?_, fun i inf hi => ?_⟩
  · rw [k.frame b (Nat.lt_of_lt_of_le hb h.wk.size) ?_]
    · exact h.frame b hb hn
    · intro i inf hi e
      rcases h.own i inf hi with ⟨j, jnf, h1, h2⟩ | h1
      · exact hn j jnf h1 (h2.trans e)
      · omega
  · rcases k.own i inf hi with ⟨j, jnf, h1, h2⟩ | h1
    · rcases h.own j jnf h1 with ⟨l, lnf, h3, h4⟩ | h3
      · exact .inl ⟨l, lnf, h3, h4.trans h2⟩
      · exact .inr (by omega)
    · exact .inr (Nat.le_trans h.wk.size h1)
theorem St.upd {φ : Phi} {w w₁ : World} {i : Nat} {inf : Inf} {o : Obj} (hφ : φ i = some inf) (u : Upd w w₁ inf.blk o) : St φ w φ w₁ :=
  ⟨φ.le_refl, u.wk, fun k _ hn => u.there k (fun e => hn i inf hφ e.symm), fun j jnf h => .inl ⟨j, jnf, h, rfl⟩⟩
theorem St.drew {φ : Phi} {w w₁ : World} (h : w₁.heap = w.heap) (h1 : w₁.os = w.os) (h2 : w₁.tape = w.tape) (h3 : w₁.output = w.output) : St φ w φ w₁ :=
  ⟨φ.le_refl, ⟨h1, h2, h3, by rw [h]; exact Nat.le_refl _⟩, fun k _ _ => by rw [h], fun j jnf h => .inl ⟨j, jnf, h, rfl⟩⟩
theorem WK.alloc (w : World) (o : Obj) : WK w (w.alloc o) := ⟨rfl, rfl, rfl, by rw [World.size_alloc]; omega⟩
theorem St.alloc [Ext] {w0 : World} {φ : Phi} {H : VH} {w : World} (h : HSim w0 φ H w) (o : Obj) (s : Nat) : St φ w (φ.ext H.next ⟨w.heap.size, 0, s⟩) (w.alloc o) := by
  refine ⟨Phi.le_ext _ (h.fresh _ (Nat.le_refl _)), WK.alloc w o, fun k hk _ => ?_, fun i inf hi => ?_⟩
  · show (w.heap.push o)[k]? = _
    rw [Array.getElem?_push, if_neg (by omega)]
  · simp only [Phi.ext] at hi
    split at hi
    · cases hi; exact .inr (Nat.le_refl _)
    · exact .inl ⟨i, inf, hi, rfl⟩
theorem alloc_old {w : World} {o : Obj} {k : Nat} (hk : k < w.heap.size) : (w.alloc o).heap[k]? = w.heap[k]? := by
  show (w.heap.push o)[k]? = _
  rw [Array.getElem?_push, if_neg (by omega)]
theorem alloc_new {w : World} {o : Obj} : (w.alloc o).heap[w.heap.size]? = some o := by
  show (w.heap.push o)[w.heap.size]? = _
  simp
theorem get_lt {w : World} {k : Nat} {o : Obj} (h : w.heap[k]? = some o) : k < w.heap.size := (Array.getElem?_eq_some_iff.1 h).1
theorem HSim.grow [Ext] {w0 : World} {φ : Phi} {H : VH} {w : World} (h : HSim w0 φ H w) (o : Obj) : HSim w0 φ H (w.alloc o) := by
  have hsz := h.oldSize
  refine ⟨h.env, ?_, ?_, h.own, h.small, ?_, h.inj, h.fresh, ?_⟩
  · intro r b hb
    obtain ⟨x, h1, h2⟩ := h.base r b hb
    exact ⟨x, by rw [alloc_old (get_lt h1)]; exact h1, h2⟩
  · intro k hk
    rw [alloc_old (by omega)]
    exact h.old k hk
  · intro i x hx
    obtain ⟨inf, x', h1, h2, h3, h4⟩ := h.live i x hx
    exact ⟨inf, x', h1, by rw [alloc_old (get_lt h2)]; exact h2, h3, h4⟩
  · intro i inf hi
    have := h.bound i inf hi
    rw [World.size_alloc]
    omega
theorem St.grow (φ : Phi) (w : World) (o : Obj) : St φ w φ (w.alloc o) :=
  ⟨φ.le_refl, WK.alloc w o, fun _ hk _ => alloc_old hk, fun i inf hi => .inl ⟨i, inf, hi, rfl⟩⟩
/-- A block that no name stands for is turned. -/
theorem HSim.apart [Ext] {w0 : World} {φ : Phi} {H : VH} {w w₁ : World} (h : HSim w0 φ H w) {r : Nat} {o : Obj} (u : Upd w w₁ r o) (hun : ∀ i inf, φ i = some inf → inf.blk ≠ r) (h0 : w0.heap.size ≤ r) (hb : H.base.blk r = none) : HSim w0 φ H w₁ := by
  refine ⟨h.env, ?_, ?_, h.own, h.small, ?_, h.inj, h.fresh, ?_⟩
  · intro k b hk
    rw [u.there k (fun e => by rw [e, hb] at hk; cases hk)]
    exact h.base k b hk
  · intro k hk
    rw [u.there k (by omega)]
    exact h.old k hk
  · intro i x hx
    obtain ⟨inf, x', h1, h2, h3, h4⟩ := h.live i x hx
    exact ⟨inf, x', h1, by rw [u.there _ (hun i inf h1)]; exact h2, h3, h4⟩
  · intro i inf hi
    rw [u.size]
    exact h.bound i inf hi
theorem St.apart {φ0 : Phi} {ws : World} {φ : Phi} {w w₁ : World} (h : St φ0 ws φ w) {r : Nat} {o : Obj} (u : Upd w w₁ r o) (hr : ws.heap.size ≤ r) : St φ0 ws φ w₁ :=
  ⟨h.le, h.wk.trans u.wk, fun k hk hn => by rw [u.there k (by omega)]; exact h.frame k hk hn, h.own⟩
/-- The outcome of an operation. -/
inductive Out where
  | val (v : VV) (H : VH)
  | skip (H : VH)
  | enter (f : FuncId) (args : List VV)
  | round (i : Nat) (args : List VV)
  | chk (b : Bool) (o : Out)
  | ite (b : Bool) (x y : Out)
  | bad
def OutR [Ext] (w0 : World) (φ : Phi) (H : VH) (w : World) (r : Result Next) : Out → Prop
  | .val v H₁ => ∃ v' w₁ φ₁, r = .ok (.value v') w₁ ∧ St φ w φ₁ w₁ ∧ VR φ₁ v v' ∧ HSim w0 φ₁ H₁ w₁ ∧ H₁.base = H.base
  | .skip H₁ => ∃ w₁ φ₁, r = .ok .skip w₁ ∧ St φ w φ₁ w₁ ∧ HSim w0 φ₁ H₁ w₁ ∧ H₁.base = H.base
  | .enter f args => ∃ args', r = .ok (.enter f ⟨args'⟩) w ∧ VRs φ args args'
  | .round i args => ∃ inf L args', φ i = some inf ∧ w.heap[inf.blk]? = some (.loop L) ∧ args'.length = L.params.size ∧ VRs φ args args' ∧ r = .ok (.round inf.blk L.fn ((L.params.zip ⟨args'⟩).foldl (fun tmps (p : Tmp × Value) => tmps.setIfInBounds p.1 p.2) L.tmps) L.assign L.body) w
  | .chk b o => b = true → OutR w0 φ H w r o
  | .ite b x y => (b = true → OutR w0 φ H w r x) ∧ (b = false → OutR w0 φ H w r y)
  | .bad => True
def VH.alloc? (H : VH) (o : VO) : Option (Nat × VH) := match Nat.blt H.next top with
  | true => some (H.next, H.alloc o)
  | false => none
/-- New cells. -/
theorem HSim.cells [Ext] {w0 : World} {φ : Phi} {H : VH} {w : World} (h : HSim w0 φ H w) (hn : H.next < top) {c : List VV} {c' : List Value} (hc : VRs φ c c') (e : TypeId) (g : Option Nat) (s ro : Nat) (et : Option TypeId) (rest : List Value) (fr : Nat × Nat)
    (hg : g = none → s = 0) (hsz : spare g s ≤ rest.length) (hfr : fr.2 ≤ ro) (het : ∀ t, et = some t → e = t ∧ (g = none → rest = [])) :
    HSim w0 (φ.ext H.next ⟨w.heap.size, 0, s⟩) (H.alloc (.cells c g ro et)) (w.alloc (.cells ⟨c' ++ rest⟩ e fr)) := by
  have hl := VRs_length _ _ hc
  refine h.alloc hn s _ _ ⟨_, e, fr, rfl, ⟨by simp; omega, hg, ?_, by simpa using hfr, fun t ht => ⟨(het t ht).1, fun hgn => ⟨rfl, by rw [(het t ht).2 hgn]; simpa using hl.symm⟩⟩⟩⟩
  · intro j x hx
    obtain ⟨y, h1, h2⟩ := VRs_get _ _ hc j x hx
    refine ⟨y, ?_, h2.mono (Phi.le_ext _ (h.fresh _ (Nat.le_refl _)))⟩
    have hj : j < c'.length := by
      rw [List.getElem?_eq_some_iff] at h1; exact h1.1
    simp [List.getElem?_append_left hj, h1]
theorem HSim.cells0 [Ext] {w0 : World} {φ : Phi} {H : VH} {w : World} (h : HSim w0 φ H w) (hn : H.next < top) {c : List VV} {c' : Array Value} (hc : VRs φ c c'.toList) (e : TypeId) :
    HSim w0 (φ.ext H.next ⟨w.heap.size, 0, 0⟩) (H.alloc (.cells c none 0 none)) (w.alloc (.cells c' e)) := by
  have := h.cells hn hc e none 0 0 none [] (0, 0) (fun _ => rfl) (by simp [spare]) (Nat.le_refl _) (fun t ht => by cases ht)
  simpa using this
theorem VR_new {φ : Phi} {n b s : Nat} : VR (φ.ext n ⟨b, 0, s⟩) (.ptr (some ⟨.loc n, 0⟩)) (.pointer (some ⟨b, 0, none⟩)) := by
  simp only [VR]
  exact ⟨_, s, by unfold AR; exact ⟨_, Phi.ext_self _ _ _, rfl, rfl⟩, rfl⟩
theorem VR_newSlice {φ : Phi} {n b s l c : Nat} : VR (φ.ext n ⟨b, 0, s⟩) (.slice (some ⟨.loc n, 0⟩) l c) (.slice (some ⟨b, 0, none⟩) l (c + s)) := by
  simp only [VR]
  exact ⟨_, s, by unfold AR; exact ⟨_, Phi.ext_self _ _ _, rfl, rfl⟩, rfl⟩
def newPtr (H : VH) (c : List VV) : Out := match Nat.blt H.next top with
  | true => .val (.ptr (some ⟨.loc H.next, 0⟩)) (H.alloc (.cells c none 0 none))
  | false => .bad
def newSl (H : VH) (c : List VV) (l cap : Nat) : Out := match Nat.blt H.next top with
  | true => .val (.slice (some ⟨.loc H.next, 0⟩) l cap) (H.alloc (.cells c none 0 none))
  | false => .bad
theorem lt_of_blt {a b : Nat} (h : Nat.blt a b = true) : a < b := by
  have : Nat.ble (a + 1) b = true := h
  exact Nat.le_of_ble_eq_true this
theorem newPtr_sound [Ext] {w0 : World} {φ : Phi} {H : VH} {w : World} (h : HSim w0 φ H w) {c : List VV} {c' : Array Value} (hc : VRs φ c c'.toList) {e : TypeId} {r : Result Next} (hr : r = .ok (.value (.pointer (some ⟨w.heap.size, 0, none⟩))) (w.alloc (.cells c' e))) :
    OutR w0 φ H w r (newPtr H c) := by
  unfold newPtr
  cases hn : Nat.blt H.next top with
  | false => trivial
  | true => exact ⟨_, _, _, hr, St.alloc h _ 0, VR_new, h.cells0 (lt_of_blt hn) hc e, rfl⟩
theorem newSl_sound [Ext] {w0 : World} {φ : Phi} {H : VH} {w : World} (h : HSim w0 φ H w) {c : List VV} {c' : Array Value} (hc : VRs φ c c'.toList) {e : TypeId} {l cap : Nat} {r : Result Next} (hr : r = .ok (.value (.slice (some ⟨w.heap.size, 0, none⟩) l cap)) (w.alloc (.cells c' e))) :
    OutR w0 φ H w r (newSl H c l cap) := by
  unfold newSl
  cases hn : Nat.blt H.next top with
  | false => trivial
  | true => exact ⟨_, _, _, hr, St.alloc h _ 0, by have := VR_newSlice (φ := φ) (n := H.next) (b := w.heap.size) (s := 0) (l := l) (c := cap); simpa using this, h.cells0 (lt_of_blt hn) hc e, rfl⟩
/-! ### repeated cells -/
def rep : Nat → List VV → List VV
  | 0, _ => []
  | n + 1, z => z ++ rep n z
theorem rep_length (z : List VV) : ∀ n, (rep n z).length = n * z.length
  | 0 => by simp [rep]
  | n + 1 => by simp only [rep, List.length_append, rep_length z n, Nat.add_mul, Nat.one_mul]; omega
theorem rep_get (z : List VV) : ∀ (n j : Nat), j < n * z.length → (rep n z)[j]? = z[j % z.length]?
  | 0, j, h => by simp at h
  | n + 1, j, h => by
    simp only [rep]
    have hpos : 0 < z.length := by
      rcases Nat.eq_zero_or_pos z.length with h0 | h0
      · rw [h0] at h; simp at h
      · exact h0
    by_cases hj : j < z.length
    · rw [List.getElem?_append_left hj, Nat.mod_eq_of_lt hj]
    · rw [List.getElem?_append_right (by omega), rep_get z n (j - z.length) (by rw [Nat.add_mul, Nat.one_mul] at h; omega)]
      rw [Nat.mod_eq_sub_mod (by omega : j ≥ z.length)]
theorem rep_sound {φ : Phi} {z : List VV} {z' : Array Value} (hz : VRs φ z z'.toList) (n : Nat) : VRs φ (rep n z) ((Array.range (n * z.length)).map (fun i => z'[i % z'.size]!)).toList := by
  have hl := VRs_length _ _ hz
  simp only [Array.length_toList] at hl
  refine VRs_of_get _ _ (by simp [rep_length]) fun j x v hx hv => ?_
  have hj : j < n * z.length := by
    have := (List.getElem?_eq_some_iff.1 hx).1
    rwa [rep_length] at this
  rw [rep_get z n j hj] at hx
  obtain ⟨y, h1, h2⟩ := VRs_get _ _ hz _ x hx
  rw [Array.getElem?_toList] at h1 hv
  have hpos : 0 < z.length := by
    rcases Nat.eq_zero_or_pos z.length with h0 | h0
    · rw [h0] at hj; simp at hj
    · exact h0
  have hlt : j % z'.size < z'.size := by rw [← hl]; exact Nat.mod_lt _ hpos
  simp only [Array.getElem?_map, Array.getElem?_range, hj, if_true, Option.map_some, Option.some.injEq] at hv
  subst hv
  rw [hl] at h1
  have : z'[j % z'.size]! = y := by
    rw [getElem!_pos z' _ hlt]
    have h1' := Array.getElem?_eq_some_iff.1 h1
    exact h1'.2
  rw [this]; exact h2
/-! ### new blocks -/
/-- What a new block is handed back as. -/
inductive NK where
  | ptr
  | sl (l c : Nat)
  | map
def NK.vv : NK → Nat → VV
  | .ptr, n => .ptr (some ⟨.loc n, 0⟩)
  | .sl l c, n => .slice (some ⟨.loc n, 0⟩) l c
  | .map, n => .map (some (.loc n))
def NK.real : NK → Nat → Value
  | .ptr, b => .pointer (some ⟨b, 0, none⟩)
  | .sl l c, b => .slice (some ⟨b, 0, none⟩) l c
  | .map, b => .map (some b)
theorem NK.rel (k : NK) (φ : Phi) (n b : Nat) : VR (φ.ext n ⟨b, 0, 0⟩) (k.vv n) (k.real b) := by
  cases k with
  | ptr => exact VR_new
  | sl l c => have := VR_newSlice (φ := φ) (n := n) (b := b) (s := 0) (l := l) (c := c); simpa [NK.vv, NK.real] using this
  | map => simp only [NK.vv, NK.real, VR, BR]; exact ⟨_, ⟨_, Phi.ext_self _ _ _, rfl⟩, rfl⟩
theorem NK.one (k : NK) (b : Nat) : (k.real b).oneCell' = true := by cases k <;> rfl
/-- A run that makes one block, whatever the world. -/
def NewOK (P : Program) (φ : Phi) (s : Sem Next) (k : NK) (o : VO) : Prop :=
  ∃ obj, (∀ w, s.run P w = .ok (.value (k.real w.heap.size)) (w.alloc obj)) ∧ ∀ b, OR φ ⟨b, 0, 0⟩ o obj
def newOf (H : VH) : Option (NK × VO) → Out
  | some (k, o) => match Nat.blt H.next top with
    | true => .val (k.vv H.next) (H.alloc o)
    | false => .bad
  | none => .bad
theorem newOf_sound [Ext] {P : Program} {w0 : World} {φ : Phi} {H : VH} {w : World} (h : HSim w0 φ H w) {s : Sem Next} {x : Option (NK × VO)} (hx : ∀ k o, x = some (k, o) → NewOK P φ s k o) : OutR w0 φ H w (s.run P w) (newOf H x) := by
  cases x with
  | none => trivial
  | some ko =>
    obtain ⟨k, o⟩ := ko
    simp only [newOf]
    cases hn : Nat.blt H.next top with
    | false => trivial
    | true =>
      obtain ⟨obj, h1, h2⟩ := hx k o rfl
      exact ⟨_, _, _, h1 w, St.alloc h _ 0, k.rel φ _ _, h.alloc (lt_of_blt hn) 0 _ _ ((h2 _).mono (Phi.le_ext _ (h.fresh _ (Nat.le_refl _)))), rfl⟩
theorem OR_cells {φ : Phi} {c : List VV} {c' : Array Value} (hc : VRs φ c c'.toList) (e : TypeId) (b : Nat) {et : Option TypeId} (het : ∀ t, et = some t → e = t) : OR φ ⟨b, 0, 0⟩ (.cells c none 0 et) (.cells c' e) := by
  have hl := VRs_length _ _ hc
  refine ⟨c', e, (0, 0), rfl, ⟨?_, fun _ => rfl, ?_, by simp, fun t ht => ⟨het t ht, fun _ => ⟨rfl, by simpa using hl.symm⟩⟩⟩⟩
  · simp only [spare]
    have : c'.size = c'.toList.length := by simp
    omega
  · intro j x hx
    obtain ⟨y, h1, h2⟩ := VRs_get _ _ hc j x hx
    refine ⟨y, ?_, h2⟩
    simpa using h1
theorem run_zeroU {P : Program} {t : TypeId} {z : VV} (h : tzero P t = some z) (φ : Phi) : ∃ z', (∀ w, (zeroValue t).run P w = .ok z' w) ∧ VR φ z z' := by
  unfold tzero at h
  cases hi : P.info? t with
  | none => rw [hi] at h; simp at h
  | some i =>
    rw [hi] at h
    simp only at h
    cases hz : i.zero with
    | none => rw [hz] at h; simp at h
    | some z' => rw [hz] at h; exact ⟨z', fun w => by simp [zeroValue, typeInfo, hi, hz], VR_emb φ z' z h⟩
def buildSl (P : Program) (t : TypeId) (len : Nat) (parts : List (Nat × VV)) : Option (NK × VO) :=
  match P.underlying t with
  | some (.slice e) => match P.info? e, tzero P e with
    | some i, some z => match Nat.ble (len * i.size) 16777216, Nat.beq z.cells.length i.size, Nat.beq (len * i.size) 0 with
      | true, true, false => match fillL (fun k => some (k * i.size, i.size)) (rep len z.cells) parts with
        | some cs => some (.sl len len, .cells cs none 0 none)
        | none => none
      | true, _, true => match fillL (fun k => some (k * i.size, i.size)) [] parts with
        | some cs => some (.sl len len, .cells cs none 0 none)
        | none => none
      | _, _, _ => none
    | _, _ => none
  | _ => none
theorem buildSl_sound {P : Program} {φ : Phi} {t : TypeId} {len : Nat} {parts : List (Nat × VV)} {parts' : List (Nat × Value)} (hna : ∀ p ∈ parts, isAny p.2 = false) (hp : VRs φ (parts.map (·.2)) (parts'.map (·.2))) (hi : parts.map (·.1) = parts'.map (·.1)) {k : NK} {o : VO} (hb : buildSl P t len parts = some (k, o)) :
    NewOK P φ (do pure (Next.value (← Instr.buildSlice t len ⟨parts'⟩)) : Sem Next) k o := by
  unfold buildSl at hb
  cases hu : P.underlying t with
  | none => rw [hu] at hb; cases hb
  | some d => cases d with
    | slice e =>
      rw [hu] at hb
      simp only at hb
      cases hie : P.info? e with
      | none => rw [hie] at hb; cases hb
      | some i => cases hz : tzero P e with
        | none => rw [hie, hz] at hb; cases hb
        | some z =>
          rw [hie, hz] at hb
          simp only at hb
          obtain ⟨z', z1, z2⟩ := run_zeroU (P := P) hz φ
          have zc := VR_cells (tzero_notAny hz) z2
          cases h1 : Nat.ble (len * i.size) 16777216 with
          | false => rw [h1] at hb; cases hb
          | true =>
            rw [h1] at hb
            have h1' : len * i.size ≤ 16777216 := Nat.le_of_ble_eq_true h1
            have hcap : ¬ (len * tsize P e > 2 ^ 24) := by
              have e24 : (2 : Nat) ^ 24 = 16777216 := by decide
              rw [tsize_eq hie, e24]
              omega
            cases h3 : Nat.beq (len * i.size) 0 with
            | false =>
              rw [h3] at hb
              have h3' : len * i.size ≠ 0 := by intro e0; rw [e0] at h3; simp at h3
              cases h2 : Nat.beq z.cells.length i.size with
              | false => rw [h2] at hb; cases hb
              | true =>
                rw [h2] at hb
                have h2' : z.cells.length = i.size := Nat.eq_of_beq_eq_true h2
                simp only at hb
                cases hf : fillL (fun k => some (k * i.size, i.size)) (rep len z.cells) parts with
                | none => rw [hf] at hb; cases hb
                | some cs =>
                  rw [hf] at hb
                  simp only [Option.some.injEq, Prod.mk.injEq] at hb
                  obtain ⟨rfl, rfl⟩ := hb
                  have hrep := rep_sound zc len
                  rw [h2'] at hrep
                  obtain ⟨r', r1, r2⟩ := fillL_sound parts parts' _ ((Array.range (len * i.size)).map (fun k => z'.cells[k % z'.cells.size]!)) cs hna (by simpa using hrep) hp hi hf
                  refine ⟨_, fun w => ?_, fun b => OR_cells (c' := r') r2 e b (fun _ h => by cases h)⟩
                  have hrun : (Instr.buildSlice t len ⟨parts'⟩).run P w = .ok (.slice (some ⟨w.heap.size, 0, none⟩) len len) (w.alloc (.cells r' e)) := by
                    simp only [Instr.buildSlice, Sem.run_bind, run_underlying hu, Result.andThen_ok, run_sizeOf' hie]
                    rw [if_neg hcap]
                    rw [tsize_eq hie, if_neg h3']
                    simp [z1, r1, newRow]
                  simp [hrun, NK.real]
            | true =>
              rw [h3] at hb
              have h3' : len * i.size = 0 := Nat.eq_of_beq_eq_true h3
              have hb' : (match fillL (fun k => some (k * i.size, i.size)) [] parts with
                  | some cs => some (NK.sl len len, VO.cells cs none 0 none)
                  | none => none) = some (k, o) := by
                cases h2 : Nat.beq z.cells.length i.size <;> (rw [h2] at hb; exact hb)
              cases hf : fillL (fun k => some (k * i.size, i.size)) [] parts with
              | none => rw [hf] at hb'; cases hb'
              | some cs =>
                rw [hf] at hb'
                simp only [Option.some.injEq, Prod.mk.injEq] at hb'
                obtain ⟨rfl, rfl⟩ := hb'
                obtain ⟨r', r1, r2⟩ := fillL_sound parts parts' [] #[] cs hna (by simp [VRs]) hp hi hf
                refine ⟨_, fun w => ?_, fun b => OR_cells (c' := r') r2 e b (fun _ h => by cases h)⟩
                have hrun : (Instr.buildSlice t len ⟨parts'⟩).run P w = .ok (.slice (some ⟨w.heap.size, 0, none⟩) len len) (w.alloc (.cells r' e)) := by
                  simp only [Instr.buildSlice, Sem.run_bind, run_underlying hu, Result.andThen_ok, run_sizeOf' hie]
                  rw [if_neg hcap]
                  rw [tsize_eq hie, h3']
                  simp [show Array.range 0 = #[] from rfl, r1, newRow]
                simp [hrun, NK.real]
    | _ => rw [hu] at hb; cases hb
/-- 'make([]T, len, cap)'. -/
def makeSl (P : Program) (t : TypeId) (l c : VV) : Option (NK × VO) :=
  match P.underlying t with
  | some (.slice e) => match P.info? e, tzero P e with
    | some i, some z => match l, c with
      | .int _ l, .int _ c => match decide (0 ≤ l), decide (l ≤ c), decide (c < 1099511627776), decide (i.bytes * c ≤ 281474976710656), Nat.beq z.cells.length i.size with
        | true, true, true, true, true => some (.sl l.toNat c.toNat, .cells (rep c.toNat z.cells) none 0 none)
        | _, _, _, _, _ => none
      | _, _ => none
    | _, _ => none
  | _ => none
theorem wrap_small {n : Int} (h0 : 0 ≤ n) (h1 : n < 1099511627776) : IntKind.i64.wrap n = n := by
  rw [IntKind.wrap_i64]
  omega
theorem makeSl_sound {P : Program} {φ : Phi} {t : TypeId} {l c : VV} {l' c' : Value} (hl : VR φ l l') (hc : VR φ c c') {k : NK} {o : VO} (hm : makeSl P t l c = some (k, o)) :
    NewOK P φ (do pure (Next.value (← Instr.makeSlice t l' c')) : Sem Next) k o := by
  unfold makeSl at hm
  split at hm
  · rename_i e hu
    split at hm
    · rename_i i z hie hz
      split at hm
      · rename_i k1 l k2 c
        split at hm
        · rename_i h0 h1 h2 h3 hb
          simp only [Option.some.injEq, Prod.mk.injEq] at hm
          obtain ⟨rfl, rfl⟩ := hm
          have h0' := of_decide_eq_true h0
          have h1' := of_decide_eq_true h1
          have h2' := of_decide_eq_true h2
          have h3' := of_decide_eq_true h3
          have hb' : z.cells.length = i.size := Nat.eq_of_beq_eq_true hb
          obtain ⟨z', z1, z2⟩ := run_zeroU (P := P) hz φ
          have zc := VR_cells (tzero_notAny hz) z2
          simp only [VR] at hl hc
          subst hl; subst hc
          have hrep := rep_sound zc c.toNat
          rw [hb'] at hrep
          have wl := wrap_small h0' (by omega : l < 1099511627776)
          have wc := wrap_small (by omega : 0 ≤ c) h2'
          have hti : ∀ w, (typeInfo e).run P w = .ok i w := fun w => by simp [typeInfo, hie]
          have hneg : ¬ ((decide (c < 0) || decide (↑i.bytes * c > 2 ^ 48) || decide (l < 0) || decide (l > c)) = true) := by
            simp only [Bool.or_eq_true, decide_eq_true_eq, not_or]
            refine ⟨⟨⟨by omega, by omega⟩, by omega⟩, by omega⟩
          by_cases h4 : c.toNat * i.size = 0
          · have hr : ∀ w, (Instr.makeSlice t (.int k1 l) (.int k2 c)).run P w = .ok (.slice (some ⟨w.heap.size, 0, none⟩) l.toNat c.toNat) (w.alloc (.cells #[] e)) := by
              intro w
              simp only [Instr.makeSlice, Sem.run_bind, run_underlying hu, Result.andThen_ok, asInt, asIntOf, Sem.run_pure, hti, wl, wc]
              rw [if_neg hneg]
              simp only [Sem.run_bind, run_askRoom, Result.andThen_ok, run_sizeOf' hie, tsize_eq hie]
              rw [if_pos h4]
              simp [newRow, h4, show Array.range 0 = #[] from rfl]
            have hz0 : rep c.toNat z.cells = [] := List.eq_nil_of_length_eq_zero (by rw [rep_length, hb', h4])
            refine ⟨_, fun w => ?_, fun b => OR_cells (c' := #[]) (by rw [hz0]; simp [VRs]) e b (fun _ h => by cases h)⟩
            simp [hr, NK.real]
          · have hr : ∀ w, (Instr.makeSlice t (.int k1 l) (.int k2 c)).run P w = .ok (.slice (some ⟨w.heap.size, 0, none⟩) l.toNat c.toNat) (w.alloc (.cells ((Array.range (c.toNat * i.size)).map (fun k => z'.cells[k % z'.cells.size]!)) e)) := by
              intro w
              simp only [Instr.makeSlice, Sem.run_bind, run_underlying hu, Result.andThen_ok, asInt, asIntOf, Sem.run_pure, hti, wl, wc]
              rw [if_neg hneg]
              simp only [Sem.run_bind, run_askRoom, Result.andThen_ok, run_sizeOf' hie, tsize_eq hie]
              rw [if_neg h4]
              simp [newRow, z1]
            refine ⟨_, fun w => ?_, fun b => OR_cells hrep e b (fun _ h => by cases h)⟩
            simp [hr, NK.real]
        · cases hm
      · cases hm
    · cases hm
  · cases hm
/-- An operation that makes one block. -/
def evNew (P : Program) (o : Op) (a : VT) : Option (NK × VO) :=
  match o with
  | .alloc t => match tzero P t with
    | some z => some (.ptr, .cells z.cells none 0 (some t))
    | none => none
  | .box _ x => match evOperand a x with
    | some v => some (.ptr, .cells v.cells none 0 none)
    | none => none
  | .buildSlice t len ⟨parts⟩ => match evParts a parts with
    | some ps => buildSl P t len ps
    | none => none
  | .makeMap t r => match r with
    | none => some (.map, .map [] 0)
    | some r => match P.underlying t, evOperand a r with
      | some (.map _ _), some (.int _ _) => some (.map, .map [] 0)
      | _, _ => none
  | .makeSlice t l c => match evOperand a l, evOperand a c with
    | some l, some c => makeSl P t l c
    | _, _ => none
  | _ => none
theorem evNew_sound {P : Program} {φ : Phi} {a : VT} {act : Act} (ht : TR φ a act.tmps) (o : Oper) {k : NK} {vo : VO} (h : evNew P o.op a = some (k, vo)) : NewOK P φ (execOp act.eval o) k vo := by
  obtain ⟨dst, op, type, pos, after, guard⟩ := o
  simp only at h
  cases op with
  | alloc t =>
    simp only [evNew] at h
    cases hz : tzero P t with
    | none => rw [hz] at h; cases h
    | some z =>
      rw [hz] at h
      simp only [Option.some.injEq, Prod.mk.injEq] at h
      obtain ⟨rfl, rfl⟩ := h
      obtain ⟨z', z1, z2⟩ := run_zeroU (P := P) hz φ
      exact ⟨_, fun w => by simp [execOp, Instr.alloc, z1, newVar, newRow, NK.real], fun b => OR_cells (VR_cells (tzero_notAny hz) z2) t b (fun _ h => by cases h; rfl)⟩
  | box t x =>
    simp only [evNew] at h
    cases hx : evOperand a x with
    | none => rw [hx] at h; cases h
    | some v =>
      rw [hx] at h
      simp only [Option.some.injEq, Prod.mk.injEq] at h
      obtain ⟨rfl, rfl⟩ := h
      exact ⟨_, fun w => by simp [execOp, Instr.box, newVar, newRow, NK.real], fun b => OR_cells (VR_cells (evOperand_notAny hx) (evOperand_sound ht hx)) t b (fun _ h => by cases h)⟩
  | buildSlice t len parts =>
    obtain ⟨parts⟩ := parts
    simp only [evNew] at h
    cases hp : evParts a parts with
    | none => rw [hp] at h; cases h
    | some ps =>
      rw [hp] at h
      obtain ⟨h1, h2⟩ := evParts_sound ht parts ps hp
      have := buildSl_sound (evParts_notAny parts ps hp) h1 h2 h
      simpa [execOp] using this
  | makeMap t r =>
    cases r with
    | none =>
      simp only [evNew, Option.some.injEq, Prod.mk.injEq] at h
      obtain ⟨rfl, rfl⟩ := h
      exact ⟨.map #[] 0, fun w => by simp [execOp, Instr.makeMap, NK.real], fun b => ⟨[], rfl, rfl⟩⟩
    | some r =>
      simp only [evNew] at h
      split at h
      · rename_i k1 e1 kk n hu hr
        simp only [Option.some.injEq, Prod.mk.injEq] at h
        obtain ⟨rfl, rfl⟩ := h
        have hv := evOperand_sound ht hr
        simp only [VR] at hv
        exact ⟨.map #[] 0, fun w => by simp [execOp, Instr.makeMap, run_underlying hu, hv, asInt, asIntOf, NK.real], fun b => ⟨[], rfl, rfl⟩⟩
      · cases h
  | makeSlice t l c =>
    simp only [evNew] at h
    cases hl : evOperand a l with
    | none => rw [hl] at h; cases h
    | some u => cases hc : evOperand a c with
      | none => rw [hl, hc] at h; cases h
      | some v =>
        rw [hl, hc] at h
        have := makeSl_sound (evOperand_sound ht hl) (evOperand_sound ht hc) h
        simpa [execOp] using this
  | _ => cases h
end
end Go.Ev
