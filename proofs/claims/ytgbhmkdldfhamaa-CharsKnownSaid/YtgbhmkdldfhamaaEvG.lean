/- Engine, part G: operations that write or make memory. -/
import Derived.Test.YtgbhmkdldfhamaaEvF
namespace Go.Ev
noncomputable section
/-- A step of the real world that the virtual heap follows. -/
structure St (φ : Phi) (w : World) (φ₁ : Phi) (w₁ : World) : Prop where
  le : φ.le φ₁
  wk : WK w w₁
  frame : ∀ k, k < w.heap.size → (∀ i inf, φ i = some inf → inf.blk ≠ k) → w₁.heap[k]? = w.heap[k]?
  own : ∀ i inf, φ₁ i = some inf → (∃ j jnf, φ j = some jnf ∧ jnf.blk = inf.blk) ∨ w.heap.size ≤ inf.blk
theorem St.refl (φ : Phi) (w : World) : St φ w φ w := ⟨φ.le_refl, .refl w, fun _ _ _ => rfl, fun i inf h => .inl ⟨i, inf, h, rfl⟩⟩
theorem St.trans {φ ψ χ : Phi} {u v w : World} (h : St φ u ψ v) (k : St ψ v χ w) : St φ u χ w := by
  refine ⟨Phi.le_trans h.le k.le, h.wk.trans k.wk, fun b hb hn => ?_, fun i inf hi => ?_⟩
  · rw [k.frame b (Nat.lt_of_lt_of_le hb h.wk.size) ?_]
    · exact h.frame b hb hn
    · intro i inf hi e
      rcases h.own i inf hi with ⟨j, jnf, h1, h2⟩ | h1
      · exact hn j jnf h1 (h2.trans e)
      · omega
  · rcases k.own i inf hi with ⟨j, jnf, h1, h2⟩ | h1
    · rcases h.own j jnf h1 with ⟨l, lnf, h3, h4⟩ | h3
      · exact .inl ⟨l, lnf, h3, h4.trans h2⟩
      · exact .inr (by omega)
    · exact .inr (Nat.le_trans h.wk.size h1)
theorem St.upd {φ : Phi} {w w₁ : World} {i : Nat} {inf : Inf} {o : Obj} (hφ : φ i = some inf) (u : Upd w w₁ inf.blk o) : St φ w φ w₁ :=
  ⟨φ.le_refl, u.wk, fun k _ hn => u.there k (fun e => hn i inf hφ e.symm), fun j jnf h => .inl ⟨j, jnf, h, rfl⟩⟩
theorem St.drew {φ : Phi} {w w₁ : World} (h : w₁.heap = w.heap) (h1 : w₁.os = w.os) (h2 : w₁.tape = w.tape) (h3 : w₁.output = w.output) : St φ w φ w₁ :=
  ⟨φ.le_refl, ⟨h1, h2, h3, by rw [h]; exact Nat.le_refl _⟩, fun k _ _ => by rw [h], fun j jnf h => .inl ⟨j, jnf, h, rfl⟩⟩
theorem WK.alloc (w : World) (o : Obj) : WK w (w.alloc o) := ⟨rfl, rfl, rfl, by rw [World.size_alloc]; omega⟩
theorem St.alloc {w0 : World} {φ : Phi} {H : VH} {w : World} (h : HSim w0 φ H w) (o : Obj) (s : Nat) : St φ w (φ.ext H.next ⟨w.heap.size, 0, s⟩) (w.alloc o) := by
  refine ⟨Phi.le_ext _ (h.fresh _ (Nat.le_refl _)), WK.alloc w o, fun k hk _ => ?_, fun i inf hi => ?_⟩
  · show (w.heap.push o)[k]? = _
    rw [Array.getElem?_push, if_neg (by omega)]
  · unfold Phi.ext at hi
    split at hi
    · cases hi; exact .inr (Nat.le_refl _)
    · exact .inl ⟨i, inf, hi, rfl⟩
/-- The outcome of an operation. -/
inductive Out where
  | val (v : VV) (H : VH)
  | skip (H : VH)
  | enter (f : FuncId) (args : List VV)
  | round (i : Nat) (args : List VV)
  | chk (b : Bool) (o : Out)
  | ite (b : Bool) (x y : Out)
  | bad
def OutR (w0 : World) (φ : Phi) (H : VH) (w : World) (r : Result Next) : Out → Prop
  | .val v H₁ => ∃ v' w₁ φ₁, r = .ok (.value v') w₁ ∧ St φ w φ₁ w₁ ∧ VR φ₁ v v' ∧ HSim w0 φ₁ H₁ w₁ ∧ H₁.base = H.base
  | .skip H₁ => ∃ w₁ φ₁, r = .ok .skip w₁ ∧ St φ w φ₁ w₁ ∧ HSim w0 φ₁ H₁ w₁ ∧ H₁.base = H.base
  | .enter f args => ∃ args', r = .ok (.enter f ⟨args'⟩) w ∧ VRs φ args args'
  | .round i args => ∃ inf st pend fn tmps params assign body d o', φ i = some inf ∧ H.locs.get i = some (.loop st pend fn tmps params assign body d) ∧ w.heap[inf.blk]? = some o' ∧ True ∧
      ∃ args' tmps', r = .ok (.round inf.blk fn tmps' assign body) w ∧ VRs φ args args'
  | .chk b o => b = true → OutR w0 φ H w r o
  | .ite b x y => (b = true → OutR w0 φ H w r x) ∧ (b = false → OutR w0 φ H w r y)
  | .bad => True
def VH.alloc? (H : VH) (o : VO) : Option (Nat × VH) := match Nat.blt H.next top with
  | true => some (H.next, H.alloc o)
  | false => none
/-- New cells. -/
theorem HSim.cells {w0 : World} {φ : Phi} {H : VH} {w : World} (h : HSim w0 φ H w) (hn : H.next < top) {c : List VV} {c' : List Value} (hc : VRs φ c c') (e : TypeId) (g : Option Nat) (s ro : Nat) (rest : List Value) (fr : Nat × Nat)
    (hg : g = none → s = 0) (hsz : spare g s ≤ rest.length) (hfr : ∀ j, j < c.length + spare g s → ¬ (fr.1 ≤ j ∧ j < fr.2)) :
    HSim w0 (φ.ext H.next ⟨w.heap.size, 0, s⟩) (H.alloc (.cells c g ro)) (w.alloc (.cells ⟨c' ++ rest⟩ e fr)) := by
  have hl := VRs_length _ _ hc
  refine h.alloc hn s _ _ ⟨_, e, fr, rfl, ⟨by simp; omega, hg, ?_, ?_⟩⟩
  · intro j x hx
    obtain ⟨y, h1, h2⟩ := VRs_get _ _ hc j x hx
    refine ⟨y, ?_, h2.mono (Phi.le_ext _ (h.fresh _ (Nat.le_refl _)))⟩
    have hj : j < c'.length := by
      rw [List.getElem?_eq_some_iff] at h1; exact h1.1
    simp [List.getElem?_append_left hj, h1]
  · intro j _ hj
    have := hfr j hj
    simpa using this
theorem HSim.cells0 {w0 : World} {φ : Phi} {H : VH} {w : World} (h : HSim w0 φ H w) (hn : H.next < top) {c : List VV} {c' : Array Value} (hc : VRs φ c c'.toList) (e : TypeId) :
    HSim w0 (φ.ext H.next ⟨w.heap.size, 0, 0⟩) (H.alloc (.cells c none 0)) (w.alloc (.cells c' e)) := by
  have := h.cells hn hc e none 0 0 [] (0, 0) (fun _ => rfl) (by simp [spare]) (fun j _ hx => by omega)
  simpa using this
theorem VR_new {φ : Phi} {n b s : Nat} : VR (φ.ext n ⟨b, 0, s⟩) (.ptr (some ⟨.loc n, 0⟩)) (.pointer (some ⟨b, 0, none⟩)) := by
  simp only [VR]
  exact ⟨_, s, by unfold AR; exact ⟨_, Phi.ext_self _ _ _, rfl, rfl⟩, rfl⟩
theorem VR_newSlice {φ : Phi} {n b s l c : Nat} : VR (φ.ext n ⟨b, 0, s⟩) (.slice (some ⟨.loc n, 0⟩) l c) (.slice (some ⟨b, 0, none⟩) l (c + s)) := by
  simp only [VR]
  exact ⟨_, s, by unfold AR; exact ⟨_, Phi.ext_self _ _ _, rfl, rfl⟩, rfl⟩
def newPtr (H : VH) (c : List VV) : Out := match Nat.blt H.next top with
  | true => .val (.ptr (some ⟨.loc H.next, 0⟩)) (H.alloc (.cells c none 0))
  | false => .bad
def newSl (H : VH) (c : List VV) (l cap : Nat) : Out := match Nat.blt H.next top with
  | true => .val (.slice (some ⟨.loc H.next, 0⟩) l cap) (H.alloc (.cells c none 0))
  | false => .bad
theorem lt_of_blt {a b : Nat} (h : Nat.blt a b = true) : a < b := by
  have : Nat.ble (a + 1) b = true := h
  exact Nat.le_of_ble_eq_true this
theorem newPtr_sound {w0 : World} {φ : Phi} {H : VH} {w : World} (h : HSim w0 φ H w) {c : List VV} {c' : Array Value} (hc : VRs φ c c'.toList) {e : TypeId} {r : Result Next} (hr : r = .ok (.value (.pointer (some ⟨w.heap.size, 0, none⟩))) (w.alloc (.cells c' e))) :
    OutR w0 φ H w r (newPtr H c) := by
  unfold newPtr
  cases hn : Nat.blt H.next top with
  | false => trivial
  | true => exact ⟨_, _, _, hr, St.alloc h _ 0, VR_new, h.cells0 (lt_of_blt hn) hc e, rfl⟩
theorem newSl_sound {w0 : World} {φ : Phi} {H : VH} {w : World} (h : HSim w0 φ H w) {c : List VV} {c' : Array Value} (hc : VRs φ c c'.toList) {e : TypeId} {l cap : Nat} {r : Result Next} (hr : r = .ok (.value (.slice (some ⟨w.heap.size, 0, none⟩) l cap)) (w.alloc (.cells c' e))) :
    OutR w0 φ H w r (newSl H c l cap) := by
  unfold newSl
  cases hn : Nat.blt H.next top with
  | false => trivial
  | true => exact ⟨_, _, _, hr, St.alloc h _ 0, by have := VR_newSlice (φ := φ) (n := H.next) (b := w.heap.size) (s := 0) (l := l) (c := cap); simpa using this, h.cells0 (lt_of_blt hn) hc e, rfl⟩
/-! ### repeated cells -/
def rep : Nat → List VV → List VV
  | 0, _ => []
  | n + 1, z => z ++ rep n z
theorem rep_length (z : List VV) : ∀ n, (rep n z).length = n * z.length
  | 0 => by simp [rep]
  | n + 1 => by simp only [rep, List.length_append, rep_length z n, Nat.add_mul, Nat.one_mul]; omega
theorem rep_get (z : List VV) : ∀ (n j : Nat), j < n * z.length → (rep n z)[j]? = z[j % z.length]?
  | 0, j, h => by simp at h
  | n + 1, j, h => by
    simp only [rep]
    have hpos : 0 < z.length := by
      rcases Nat.eq_zero_or_pos z.length with h0 | h0
      · rw [h0] at h; simp at h
      · exact h0
    by_cases hj : j < z.length
    · rw [List.getElem?_append_left hj, Nat.mod_eq_of_lt hj]
    · rw [List.getElem?_append_right (by omega), rep_get z n (j - z.length) (by rw [Nat.add_mul, Nat.one_mul] at h; omega)]
      rw [Nat.mod_eq_sub_mod (by omega : j ≥ z.length)]
theorem rep_sound {φ : Phi} {z : List VV} {z' : Array Value} (hz : VRs φ z z'.toList) (n : Nat) : VRs φ (rep n z) ((Array.range (n * z.length)).map (fun i => z'[i % z'.size]!)).toList := by
  have hl := VRs_length _ _ hz
  simp only [Array.length_toList] at hl
  refine VRs_of_get _ _ (by simp [rep_length]) fun j x v hx hv => ?_
  have hj : j < n * z.length := by
    have := (List.getElem?_eq_some_iff.1 hx).1
    rwa [rep_length] at this
  rw [rep_get z n j hj] at hx
  obtain ⟨y, h1, h2⟩ := VRs_get _ _ hz _ x hx
  rw [Array.getElem?_toList] at h1 hv
  have hpos : 0 < z.length := by
    rcases Nat.eq_zero_or_pos z.length with h0 | h0
    · rw [h0] at hj; simp at hj
    · exact h0
  have hlt : j % z'.size < z'.size := by rw [← hl]; exact Nat.mod_lt _ hpos
  simp only [Array.getElem?_map, Array.getElem?_range, hj, if_true, Option.map_some, Option.some.injEq] at hv
  subst hv
  rw [hl] at h1
  have : z'[j % z'.size]! = y := by
    rw [getElem!_pos z' _ hlt]
    have h1' := Array.getElem?_eq_some_iff.1 h1
    exact h1'.2
  rw [this]; exact h2
def evBuildSlice (P : Program) (H : VH) (t : TypeId) (len : Nat) (parts : List (Nat × VV)) : Out :=
  match P.underlying t with
  | some (.slice e) => match P.info? e, tzero P e with
    | some i, some z => match Nat.ble (len * i.size) 16777216, Nat.beq z.cells.length i.size, Nat.beq (len * i.size) 0 with
      | true, true, false => match fillL (fun k => some (k * i.size, i.size)) (rep len z.cells) parts with
        | some cs => newSl H cs len len
        | none => .bad
      | true, _, true => match fillL (fun k => some (k * i.size, i.size)) [] parts with
        | some cs => newSl H cs len len
        | none => .bad
      | _, _, _ => .bad
    | _, _ => .bad
  | _ => .bad
theorem evBuildSlice_sound {P : Program} {w0 : World} {φ : Phi} {H : VH} {w : World} (h : HSim w0 φ H w) {t : TypeId} {len : Nat} {parts : List (Nat × VV)} {parts' : List (Nat × Value)} (hp : VRs φ (parts.map (·.2)) (parts'.map (·.2))) (hi : parts.map (·.1) = parts'.map (·.1)) :
    OutR w0 φ H w ((do pure (Next.value (← Instr.buildSlice t len ⟨parts'⟩)) : Sem Next).run P w) (evBuildSlice P H t len parts) := by
  unfold evBuildSlice
  cases hu : P.underlying t with
  | none => trivial
  | some d => cases d with
    | slice e =>
      simp only
      cases hie : P.info? e with
      | none => trivial
      | some i => cases hz : tzero P e with
        | none => trivial
        | some z =>
          simp only
          obtain ⟨z', z1, z2⟩ := run_zero' (P := P) (w := w) hz φ
          have zc := VR_cells z2
          cases h1 : Nat.ble (len * i.size) 16777216 with
          | false => trivial
          | true =>
            have h1' : len * i.size ≤ 16777216 := Nat.le_of_ble_eq_true h1
            have hcap : ¬ (len * tsize P e > 2 ^ 24) := by
              have e24 : (2 : Nat) ^ 24 = 16777216 := by decide
              rw [tsize_eq hie, e24]
              omega
            cases h3 : Nat.beq (len * i.size) 0 with
            | false =>
              have h3' : len * i.size ≠ 0 := by intro e0; rw [e0] at h3; simp at h3
              cases h2 : Nat.beq z.cells.length i.size with
              | false => trivial
              | true =>
                have h2' : z.cells.length = i.size := Nat.eq_of_beq_eq_true h2
                simp only
                cases hf : fillL (fun k => some (k * i.size, i.size)) (rep len z.cells) parts with
                | none => trivial
                | some cs =>
                  simp only
                  have hrep := rep_sound zc len
                  rw [h2'] at hrep
                  obtain ⟨r', r1, r2⟩ := fillL_sound parts parts' _ ((Array.range (len * i.size)).map (fun k => z'.cells[k % z'.cells.size]!)) cs (by simpa using hrep) hp hi hf
                  refine newSl_sound h (c' := r') (e := e) r2 ?_
                  have hrun : (Instr.buildSlice t len ⟨parts'⟩).run P w = .ok (.slice (some ⟨w.heap.size, 0, none⟩) len len) (w.alloc (.cells r' e)) := by
                    simp only [Instr.buildSlice, Sem.run_bind, run_underlying hu, Result.andThen_ok, run_sizeOf' hie]
                    rw [if_neg hcap]
                    rw [tsize_eq hie, if_neg h3']
                    simp [z1, r1, newRow]
                  simp [hrun]
            | true =>
              have h3' : len * i.size = 0 := Nat.eq_of_beq_eq_true h3
              have fin : OutR w0 φ H w ((do pure (Next.value (← Instr.buildSlice t len ⟨parts'⟩)) : Sem Next).run P w) (match fillL (fun k => some (k * i.size, i.size)) [] parts with
                  | some cs => newSl H cs len len
                  | none => .bad) := by
                cases hf : fillL (fun k => some (k * i.size, i.size)) [] parts with
                | none => trivial
                | some cs =>
                  simp only
                  obtain ⟨r', r1, r2⟩ := fillL_sound parts parts' [] #[] cs (by simp [VRs]) hp hi hf
                  refine newSl_sound h (c' := r') (e := e) r2 ?_
                  have hrun : (Instr.buildSlice t len ⟨parts'⟩).run P w = .ok (.slice (some ⟨w.heap.size, 0, none⟩) len len) (w.alloc (.cells r' e)) := by
                    simp only [Instr.buildSlice, Sem.run_bind, run_underlying hu, Result.andThen_ok, run_sizeOf' hie]
                    rw [if_neg hcap]
                    rw [tsize_eq hie, h3']
                    simp [show Array.range 0 = #[] from rfl, r1, newRow]
                  simp [hrun]
              cases Nat.beq z.cells.length i.size <;> exact fin
    | _ => trivial
/-- 'make([]T, len, cap)'. -/
def evMakeSlice (P : Program) (H : VH) (t : TypeId) (l c : VV) : Out :=
  match P.underlying t with
  | some (.slice e) => match P.info? e, tzero P e with
    | some i, some z => match l, c with
      | .int _ l, .int _ c => .chk (decide (0 ≤ l)) (.chk (decide (l ≤ c)) (.chk (decide (c < 1099511627776)) (.chk (decide (i.bytes * c ≤ 281474976710656)) (match Nat.beq z.cells.length i.size with
        | true => newSl H (rep c.toNat z.cells) l.toNat c.toNat
        | false => .bad))))
      | _, _ => .bad
    | _, _ => .bad
  | _ => .bad
theorem wrap_small {n : Int} (h0 : 0 ≤ n) (h1 : n < 1099511627776) : IntKind.i64.wrap n = n := by
  rw [IntKind.wrap_i64]
  omega
theorem evMakeSlice_sound {P : Program} {w0 : World} {φ : Phi} {H : VH} {w : World} (h : HSim w0 φ H w) {t : TypeId} {l c : VV} {l' c' : Value} (hl : VR φ l l') (hc : VR φ c c') :
    OutR w0 φ H w ((do pure (Next.value (← Instr.makeSlice t l' c')) : Sem Next).run P w) (evMakeSlice P H t l c) := by
  unfold evMakeSlice
  cases hu : P.underlying t with
  | none => trivial
  | some d => cases d with
    | slice e =>
      simp only
      cases hie : P.info? e with
      | none => trivial
      | some i => cases hz : tzero P e with
        | none => trivial
        | some z =>
          cases l with
          | int k l => cases c with
            | int k' c =>
              simp only [OutR]
              intro h0 h1 h2 h3
              have h0' := of_decide_eq_true h0
              have h1' := of_decide_eq_true h1
              have h2' := of_decide_eq_true h2
              have h3' := of_decide_eq_true h3
              obtain ⟨z', z1, z2⟩ := run_zero' (P := P) (w := w) hz φ
              have zc := VR_cells z2
              cases hb : Nat.beq z.cells.length i.size with
              | false => trivial
              | true =>
                have hb' : z.cells.length = i.size := Nat.eq_of_beq_eq_true hb
                simp only [VR] at hl hc
                subst hl; subst hc
                have hrep := rep_sound zc c.toNat
                rw [hb'] at hrep
                have wl := wrap_small h0' (by omega : l < 1099511627776)
                have wc := wrap_small (by omega : 0 ≤ c) h2'
                have hti : (typeInfo e).run P w = .ok i w := by simp [typeInfo, hie]
                have key : ∀ (cells : Array Value), VRs φ (rep c.toNat z.cells) cells.toList → (Instr.makeSlice t (.int k l) (.int k' c)).run P w = .ok (.slice (some ⟨w.heap.size, 0, none⟩) l.toNat c.toNat) (w.alloc (.cells cells e)) →
                    OutR w0 φ H w ((do pure (Next.value (← Instr.makeSlice t (.int k l) (.int k' c))) : Sem Next).run P w) (newSl H (rep c.toNat z.cells) l.toNat c.toNat) := by
                  intro cells hv hr
                  refine newSl_sound h (c' := cells) (e := e) hv ?_
                  simp [hr]
                have hneg : ¬ ((decide (c < 0) || decide (↑i.bytes * c > 2 ^ 48) || decide (l < 0) || decide (l > c)) = true) := by
                  simp only [Bool.or_eq_true, decide_eq_true_eq, not_or]
                  refine ⟨⟨⟨by omega, by omega⟩, by omega⟩, by omega⟩
                by_cases h4 : c.toNat * i.size = 0
                · have hr : (Instr.makeSlice t (.int k l) (.int k' c)).run P w = .ok (.slice (some ⟨w.heap.size, 0, none⟩) l.toNat c.toNat) (w.alloc (.cells #[] e)) := by
                    simp only [Instr.makeSlice, Sem.run_bind, run_underlying hu, Result.andThen_ok, asInt, asIntOf, Sem.run_pure, hti, wl, wc]
                    rw [if_neg hneg]
                    simp only [Sem.run_bind, run_askRoom, Result.andThen_ok, run_sizeOf' hie, tsize_eq hie]
                    rw [if_pos h4]
                    simp [newRow, h4, show Array.range 0 = #[] from rfl]
                  refine key _ ?_ hr
                  have hz0 : rep c.toNat z.cells = [] := List.eq_nil_of_length_eq_zero (by rw [rep_length, hb', h4])
                  rw [hz0]
                  simp [VRs]
                · have hr : (Instr.makeSlice t (.int k l) (.int k' c)).run P w = .ok (.slice (some ⟨w.heap.size, 0, none⟩) l.toNat c.toNat) (w.alloc (.cells ((Array.range (c.toNat * i.size)).map (fun k => z'.cells[k % z'.cells.size]!)) e)) := by
                    simp only [Instr.makeSlice, Sem.run_bind, run_underlying hu, Result.andThen_ok, asInt, asIntOf, Sem.run_pure, hti, wl, wc]
                    rw [if_neg hneg]
                    simp only [Sem.run_bind, run_askRoom, Result.andThen_ok, run_sizeOf' hie, tsize_eq hie]
                    rw [if_neg h4]
                    simp [newRow, z1]
                  exact key _ hrep hr
            | _ => trivial
          | _ => trivial
    | _ => trivial
end
end Go.Ev
