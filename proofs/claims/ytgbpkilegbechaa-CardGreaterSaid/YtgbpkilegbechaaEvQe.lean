/- Engine, part Qa: code walked in parts, whatever heads of loops it has; the world at a place becomes the base. -/
import Derived.Test.YtgbpkilegbechaaEv9
namespace Go.Ev
set_option linter.unusedVariables false
noncomputable section
open Go.RowKit
/-- A state without open marks. -/
def RSN [Ext] (w0 : World) (R : Rho → Prop) (sz : Nat) (a : VT) (H : VH) (act : Act) (w : World) : Prop :=
  ∃ φ : Phi, R φ.ρ ∧ TR φ a act.tmps ∧ HSim w0 φ H w ∧ WK w0 w ∧ act.tmps.size = sz ∧ act.defers = []
theorem MarksOK.no {w0 : World} {φ : Phi} {H : VH} {w : World} {ds : List Deferred} (h : MarksOK (fun _ => False) w0 φ H w ds) : ds = [] := by
  obtain ⟨rs, h1, h2, h3⟩ := h
  cases rs with
  | nil => exact h1
  | cons r rs => exact (h3 r (List.mem_cons_self)).1.elim
section
variable {P : Program} {Q : Exit → Act → World → Prop} {HD : Nat → Act → World → Prop}
/-- The same state, seen by other symbols, its blocks by other numbers. -/
theorem RSN.move [Ext] {w0 : World} {ρ ρ' : Rho} {sz N n : Nat} {m : TT Nat} {a₁ a' : VT} {H₁ : VH} {l' : TT VO} {ps : Prs} {E' : Env} {act : Act} {w : World} (k : RSN w0 (· = ρ) sz a₁ H₁ act w) (hs : mvS N n m a₁ H₁.locs a' l' = some ps) (hb : E'.blk = H₁.base.blk)
    (ha : agree N ρ ρ') (hc : ∀ p ∈ ps, Car ρ ρ' p) (hE : ∀ φ : Phi, φ.ρ = ρ' → EnvOK E' φ w0) : RSN w0 (· = ρ') sz a' ⟨E', l', n⟩ act w := by
  obtain ⟨φ, k1, k2, k3, k4, k5, k6⟩ := k
  subst k1
  obtain ⟨g1, g2⟩ := HSim.move k2 k3 hs hb ha hc hE
  exact ⟨φ.mv m ρ', rfl, g1, g2, k4, k5, k6⟩
/-- Heads of loops: each leads to heads that are nearer the end, or to the end. -/
theorem heads_ok {body : Code} {I : Nat → Nat → Act → World → Prop}
    (hI : ∀ k t act w, I k t act w → ∀ c K, ctx t body 0 [] = some (c, K) → At1 body (.loop c) t K → KOK body K → ∀ HD : Nat → Act → World → Prop, (∀ t' act' w', (∃ j, j < k ∧ I j t' act' w') → HD t' act' w' ∧ ∀ c' K', ctx t' body 0 [] = some (c', K') → (Code.loop c').wpIn (Fr none) 0 P (postK P HD Q K') act' w') →
      c.wpIn (Fr none) 0 P (postK P HD Q (.lp c t :: K)) act w) :
    ∀ (k t : Nat) (c : Code) (K : List Fr1), ctx t body 0 [] = some (c, K) → ∀ k', k ≤ k' → ∀ act w, (∃ j, j ≤ k ∧ I j t act w) → (Code.loop c).wpIn (Fr none) 0 P (postK P (fun t act w => ∃ j, j ≤ k' ∧ I j t act w) Q K) act w := by
  intro k
  induction k using Nat.strongRecOn with
  | _ k ih =>
    intro t c K hc k' hkk act w hh
    have h0 : At1 body body 0 [] := fun t _ _ => rfl
    have ht : t < 0 + nl body ∨ ¬ t < 0 + nl body := Decidable.em _
    obtain ⟨hat, hko⟩ : At1 body (.loop c) t K ∧ KOK body K := by
      rcases ht with ht | ht
      · exact ctx_at h0 trivial (Nat.zero_le _) ht hc
      · exact absurd (ctx_lt hc).2 ht
    classical
    have low : ∀ j act w, j ≤ k → (∃ i, i ≤ j ∧ I i t act w) → c.wpIn (Fr none) 0 P (Exit.then (fun act' w' => ∃ i, i < j ∧ ∃ i', i' ≤ i ∧ I i' t act' w') (postK P (fun t act w => ∃ j, j ≤ k' ∧ I j t act w) Q K)) act w := by
      rintro j act w hj ⟨i, hi, hr⟩
      have := hI i t act w hr c K hc hat hko (fun s act w => ∃ i', i' < i ∧ I i' s act w) (fun s act w hs => ⟨hs, fun c' K' hc' => ?_⟩)
      · refine wpIn_mono this fun e act' w' h => ?_
        simp only [postK] at h
        refine then_mono (fun act w => ?_) (postK_mono (fun n act w => ?_) K) e act' w' h
        · rintro ⟨i', h1, h2⟩
          exact ⟨i', by omega, i', Nat.le_refl _, h2⟩
        · rintro ⟨i', h1, h2⟩
          exact ⟨i', by omega, h2⟩
      · obtain ⟨i', h1, h2⟩ := hs
        have := ih i' (by omega) s c' K' hc' (i - 1) (by omega) act w ⟨i', Nat.le_refl _, h2⟩
        refine wpIn_mono this (postK_mono (fun n act w => ?_) K')
        rintro ⟨q, q1, q2⟩
        exact ⟨q, by omega, q2⟩
    refine wpIn_loop (fun act w => ∃ j, j ≤ k ∧ I j t act w) (fun act w => leastOf fun j => I j t act w) hh ?_
    rintro act w ⟨j, hj, hh⟩
    obtain ⟨hmin, hle⟩ := leastOf_ok (p := fun j => I j t act w) ⟨j, hh⟩
    have hle := hle j hh
    refine wpIn_mono (low _ act w (by omega) ⟨_, Nat.le_refl _, hmin⟩) fun e act' w' h => ?_
    refine then_mono (fun act' w' => ?_) (fun _ _ _ h => h) e act' w' h
    rintro ⟨i, hi, i', hi', hi2⟩
    refine ⟨⟨i', by omega, hi2⟩, ?_⟩
    exact Nat.lt_of_le_of_lt ((leastOf_ok (p := fun j => I j t act' w') ⟨i', hi2⟩).2 i' hi2) (by omega)
end
theorem evN_rc2 [Ext] {P : Program} (hng : NoNG P) (hm : P.follows .mixedOrders = true) {kn : KN} (hK : KnOK P kn) (n : Nat) : CEokT P False (fun _ => True) (evN P (drawRun P) kn n).1.2 :=
  (evN_sound hng (fun _ h => drawRun_sound hng hm h) hK n).2.1.2
/-! ### cuts, over states without open marks -/
section
variable {P : Program} {Q : Exit → Act → World → Prop} {HD : Nat → Act → World → Prop}
end
/-! ### a call, walked so -/
/-- A world behind another one: old memory is as it was. -/
structure Anc (w0 w : World) : Prop where
  wk : WK w0 w
  old : ∀ k, k < w0.heap.size → w.heap[k]? = w0.heap[k]?
theorem Anc.refl (w : World) : Anc w w := ⟨.refl w, fun _ _ => rfl⟩
theorem Anc.trans {a b c : World} (h : Anc a b) (k : Anc b c) : Anc a c := ⟨h.wk.trans k.wk, fun i hi => by rw [k.old i (Nat.lt_of_lt_of_le hi h.wk.size), h.old i hi]⟩
theorem RSN.anc [Ext] {w0 : World} {R : Rho → Prop} {sz : Nat} {a : VT} {H : VH} {act : Act} {w : World} (k : RSN w0 R sz a H act w) (hno : ∀ k, ¬ Ext.own k := by intro k h; exact h) : Anc w0 w := by
  obtain ⟨φ, k1, k2, k3, k4, k5, k6⟩ := k
  exact ⟨k4, fun k hk => k3.old.same k hk (hno k)⟩
end
end Go.Ev
namespace Go.Ev
set_option linter.unusedVariables false
noncomputable section
open Go.RowKit
/-- A state without open marks, that began with blocks of its own. -/
def RSG [Ext] (F : Frm) (w0 : World) (R : Rho → Prop) (sz : Nat) (a : VT) (H : VH) (act : Act) (w : World) : Prop :=
  ∃ φ : Phi, R φ.ρ ∧ TR φ a act.tmps ∧ HSim w0 φ H w ∧ FrOK F φ w ∧ act.tmps.size = sz ∧ act.defers = []
section
variable {P : Program} {Q : Exit → Act → World → Prop} {HD : Nat → Act → World → Prop}
theorem segG_sound [Ext] {Rr : Option Nat → Prop} (hRr : Rr none) {rc : CE} (hrc : CEokT P False Rr rc) {F : Frm} {w0 : World} {R : Rho → Prop} {sz nt : Nat} (hnt : nt ≤ top) (hsz : nt ≤ sz) {body : Code} {S : List Nat} : ∀ {f : Nat} {c : Code} {n : Nat} {K : List Fr1} {a : VT} {H : VH} {o : SegO}, At1 body c n K → KOK body K → seg rc nt S f c n K a H = some o →
    ∀ {act : Act} {w : World}, RSG F w0 R sz a H act w →
    (match o with
      | .cut t a' H' => ∀ act' w', H'.base = H.base → RSG F w0 R sz a' H' act' w' → HD t act' w' ∧ ∀ c' K', ctx t body 0 [] = some (c', K') → (Code.loop c').wpIn (Fr none) 0 P (postK P HD Q K') act' w'
      | .out x a' H' => ∀ act' w', H'.base = H.base → RSG F w0 R sz a' H' act' w' → Q x.real act' w') →
    c.wpIn (Fr none) 0 P (postK P HD Q K) act w
  | 0, c, n, K, a, H, o, _, _, h, _, _, _, _ => by simp [seg] at h
  | f + 1, c, n, K, a, H, o, hat, hk, h, act, w, k, hq => by
    simp only [seg] at h
    split at h
    · split at h
      · rename_i x a' H' hr
        obtain ⟨φ, k1, k2, k3, k4, k5, k6⟩ := k
        refine wpIn_mono (hrc w0 nt c a H x a' H' hr hnt none hRr φ act w k2 k3 (by omega) (fun _ => False) (fun h => h.elim) (by rw [k6]; exact .nil)) ?_
        rintro e act' w' ⟨φ', rfl, h2, h3, h4, q1, h6, h7⟩
        have q2 : RSG F w0 R sz a' H' act' w' := ⟨φ', by rw [h2.le.2]; exact k1, h3, h4, k4.step h2, h6.trans k5, h7.no⟩
        refine pop_sound hk ?_
        split at h
        · rename_i y m K' hp
          rw [hp]
          intro g1 g2
          refine segG_sound hRr hrc hnt hsz g1 g2 h q2 ?_
          cases o with
          | cut t a'' H'' => exact fun act'' w'' e => hq act'' w'' (e.trans q1)
          | out x a'' H'' => exact fun act'' w'' e => hq act'' w'' (e.trans q1)
        · rename_i m hp
          rw [hp]
          simp only [Option.some.injEq] at h
          subst h
          exact (hq act' w' q1 q2).1
        · rename_i x' hp
          rw [hp]
          simp only [Option.some.injEq] at h
          subst h
          exact hq act' w' q1 q2
      · cases h
    · split at h
      · rename_i x y _
        refine wpIn_seq ?_
        exact segG_sound hRr hrc hnt hsz (K := .sq y (n + nl x) :: K) hat.seq.1 ⟨hat.seq.2, hk⟩ h k hq
      · rename_i id c _
        refine wpIn_block ?_
        exact segG_sound hRr hrc hnt hsz (K := .bk id :: K) hat.block hk h k hq
      · rename_i oc x y _
        split at h
        · rename_i b hb
          obtain ⟨φ, k1, k2, k3⟩ := k
          have hv := evOperand_sound k2 hb
          simp only [VR] at hv
          have k : RSG F w0 R sz a H act w := ⟨φ, k1, k2, k3⟩
          split at h
          · exact wpIn_cond hv (segG_sound hRr hrc hnt hsz hat.cond.1 hk h k hq)
          · exact wpIn_cond hv (segG_sound hRr hrc hnt hsz hat.cond.2 hk h k hq)
        · cases h
      · simp only [Option.some.injEq] at h
        subst h
        exact (hq act w rfl k).2 _ _ hat.loop.1
      · cases h
end
/-! ### a base less one block -/
/-- The world, less a block: the base of code that owns the block. -/
def less (w : World) (b : Nat) : World := { w with heap := w.heap.setIfInBounds b (.deferred none) }
theorem less_size (w : World) (b : Nat) : (less w b).heap.size = w.heap.size := by simp [less]
theorem less_other {w : World} {b k : Nat} (h : k ≠ b) : (less w b).heap[k]? = w.heap[k]? := by
  show (w.heap.setIfInBounds b (.deferred none))[k]? = _
  rw [Array.getElem?_setIfInBounds, if_neg (fun e => h e.symm)]
theorem less_cell {w : World} {b : Nat} {a : Addr} {v : Value} (hb : b < w.heap.size) (h : (less w b).cell? a = some v) : a.block ≠ b ∧ w.cell? a = some v := by
  by_cases e : a.block = b
  · exfalso
    unfold World.cell? at h
    have e1 : (less w b).heap[a.block]? = some (.deferred none) := by
      rw [e]
      show (w.heap.setIfInBounds b (.deferred none))[b]? = _
      rw [Array.getElem?_setIfInBounds, if_pos rfl, if_pos hb]
    rw [e1] at h
    cases h
  · refine ⟨e, ?_⟩
    rw [← h]
    unfold World.cell?
    rw [less_other e]
theorem cell_less {w : World} {b : Nat} {a : Addr} {v : Value} (h : w.cell? a = some v) (hb : a.block ≠ b) : (less w b).cell? a = some v := by
  rw [← h]
  unfold World.cell?
  rw [less_other hb]
theorem less_old [Ext] {w : World} {b : Nat} (hb : b < w.heap.size) (ho : ∀ k, Ext.own k ↔ k = b) : Old (less w b) w :=
  ⟨by rw [less_size]; exact Nat.le_refl _, fun k _ hn => (less_other fun e => hn ((ho k).2 e)).symm, fun a v hv g => (less_cell hb hv).1 ((ho _).1 g)⟩
/-- One block, from a cell on, that is the code's own. -/
def oneF (inf : Inf) : Nat → Option Inf := fun i => if i = 0 then some inf else none
theorem HSim.window [Ext] {w : World} {b : Nat} {ρ : Rho} {E : Env} {inf : Inf} {o : VO} {o' : Obj} (hb : inf.blk = b) (hw : w.heap[b]? = some o') (ho : ∀ k, Ext.own k ↔ k = b) (hE : EnvOK E ⟨oneF inf, ρ⟩ (less w b)) (hblk : ∀ r, E.blk r = none) (hO : OR ⟨oneF inf, ρ⟩ inf o o') :
    HSim (less w b) ⟨oneF inf, ρ⟩ ⟨E, .nd .lf (some o) .lf, 1⟩ w := by
  have hlt : b < w.heap.size := (Array.getElem?_eq_some_iff.1 hw).1
  have one : ∀ i jnf, oneF inf i = some jnf → i = 0 ∧ jnf = inf := fun i jnf h => by
    unfold oneF at h
    split at h
    · rename_i e
      cases h
      exact ⟨e, rfl⟩
    · cases h
  have get0 : ∀ i x, TT.get (.nd .lf (some o) .lf) i = some x → i = 0 ∧ x = o := fun i x h => by
    rw [TT.get_nd] at h
    split at h
    · rename_i e
      cases h
      exact ⟨Nat.eq_of_beq_eq_true e, rfl⟩
    · split at h
      · cases h
      · cases h
  refine ⟨hE, (fun r x h => by rw [hblk r] at h; cases h), less_old hlt ho, fun i jnf h => ?_, (show 1 ≤ top by decide), fun i x h => ?_, fun i j oi oj jnf knf hi hj _ _ _ => ?_, fun i h => ?_, fun i jnf h => ?_⟩
  · obtain ⟨_, rfl⟩ := one i jnf h
    exact .inr ((ho _).2 hb)
  · obtain ⟨rfl, rfl⟩ := get0 i x h
    exact ⟨inf, o', rfl, by rw [hb]; exact hw, hO, hblk _⟩
  · rw [(get0 i oi hi).1, (get0 j oj hj).1]
  · show (if i = 0 then some inf else none) = none
    have h' : 1 ≤ i := h
    rw [if_neg (by omega)]
  · obtain ⟨_, rfl⟩ := one i jnf h
    rw [hb]
    exact hlt
/-- A call, by its body's code. -/
theorem calls_of_body {P : Program} {f : FuncId} {fn : Func} {c : Code} {args' : List Value} {w : World} {R : Ending → World → Prop} (hf : P.funcs[f]? = some fn) (hc : fn.body = some c)
    (h : c.wpIn (Fr none) 0 P (fun e act' w' => (e = .ret ∨ e = .normal) ∧ act'.defers = [] ∧ ∃ v, (results fn act'.tmps).run P w' = .ok v w' ∧ R (.returned v) w') { tmps := (⟨args'⟩ : Array Value) ++ Array.replicate (fn.ntmps - (⟨args'⟩ : Array Value).size) undef, defers := [] } w) : Calls P f ⟨args'⟩ w R := by
  refine (callsIn_wide (n := 0)).1 (callsIn_of_wp_marks hf hc trivial (wpIn_mono h ?_))
  rintro e act' w' ⟨he, hd, v, hr, hR⟩
  rcases he with rfl | rfl
  · show LeavesInM Fence.wide 0 P fn act'.tmps _ act'.defers .returning w'
    rw [hd]
    exact ⟨v, hr, hR⟩
  · show LeavesInM Fence.wide 0 P fn act'.tmps _ act'.defers .returning w'
    rw [hd]
    exact ⟨v, hr, hR⟩
end
end Go.Ev
namespace Go.Ev
set_option linter.unusedVariables false
noncomputable section
open Go.RowKit
end
end Go.Ev
namespace Go.Ev
set_option linter.unusedVariables false
noncomputable section
open Go.RowKit
def anyT : Nat → List VV
  | 0 => []
  | n + 1 => .any :: anyT n
theorem anyT_len : ∀ n, (anyT n).length = n
  | 0 => rfl
  | n + 1 => by simp [anyT, anyT_len n]
theorem anyT_get : ∀ (n i : Nat), i < n → (anyT n)[i]? = some .any
  | 0, i, h => by omega
  | n + 1, 0, _ => by simp [anyT]
  | n + 1, i + 1, h => by simpa [anyT] using anyT_get n i (by omega)
def putsT : List (Nat × VV) → VT → VT
  | [], a => a
  | p :: l, a => putsT l (a.put p.1 p.2)
/-- Temporaries of which so much is known. -/
def mkT (nt : Nat) (l : List (Nat × VV)) : VT := putsT l (listT (anyT nt) 0 .lf)
theorem TR.put1 {φ : Phi} {a : VT} {tmps : Array Value} (h : TR φ a tmps) {k : Nat} {x : VV} (hk : k < top) (hx : VR φ x (tmps.getD k undef)) : TR φ (a.put k x) tmps := by
  intro t
  unfold tget
  by_cases e : t = k
  · subst e
    rw [TT.get_put_same _ _ _ hk]
    exact hx
  · rw [TT.get_put_other _ _ _ _ e]
    exact h t
theorem putsT_TR {φ : Phi} {tmps : Array Value} : ∀ {l : List (Nat × VV)} {a : VT}, TR φ a tmps → (∀ p ∈ l, p.1 < top ∧ VR φ p.2 (tmps.getD p.1 undef)) → TR φ (putsT l a) tmps
  | [], a, h, _ => h
  | p :: l, a, h, hl => putsT_TR (l := l) (a := a.put p.1 p.2) (h.put1 (hl p List.mem_cons_self).1 (hl p List.mem_cons_self).2) fun q hq => hl q (List.mem_cons_of_mem _ hq)
theorem mkT_TR {φ : Phi} {tmps : Array Value} {nt : Nat} {l : List (Nat × VV)} (hsz : tmps.size = nt) (hnt : nt ≤ top) (hl : ∀ p ∈ l, p.1 < top ∧ VR φ p.2 (tmps.getD p.1 undef)) : TR φ (mkT nt l) tmps := by
  refine putsT_TR (fun t => ?_) hl
  rw [listT_get _ _ _ _ (by rw [anyT_len]; omega), anyT_len]
  by_cases ht : t < nt
  · rw [if_pos ⟨by omega, by omega⟩, anyT_get nt (t - 0) (by omega)]
    simp only [Option.getD_some, VR]
  · rw [if_neg (by omega)]
    have : tmps.getD t undef = undef := by simp [Array.getD, show ¬ t < tmps.size by omega]
    rw [this]
    exact VR_undef φ
/-- Temporaries hold so much. -/
def keepL (a : VT) : List (Nat × VV) → Bool
  | [] => true
  | p :: l => match vvEq (tget a p.1) p.2 with
    | true => keepL a l
    | false => false
theorem keepL_VR {a : VT} {φ : Phi} {tmps : Array Value} (ht : TR φ a tmps) : ∀ {l : List (Nat × VV)}, keepL a l = true → ∀ p ∈ l, VR φ p.2 (tmps.getD p.1 undef)
  | [], _, p, hp => by cases hp
  | q :: l, h, p, hp => by
    simp only [keepL] at h
    split at h
    · rename_i hv
      rcases List.mem_cons.1 hp with rfl | hp
      · have := ht p.1
        rw [vvEq_eq _ _ hv] at this
        exact this
      · exact keepL_VR ht h p hp
    · cases h
/-- Known calls, and the blocks that are the code's own. -/
abbrev XK (P : Program) (K : List KE) (S : Nat → Prop) : Ext := ⟨fun ρ w => ∀ e ∈ K, KEok P ρ w e S, S⟩
abbrev rcK (P : Program) (K : List KE) : Go.Ev.CE := (evN P (drawRun P) (knL K) 20000).1.2
theorem hrcK {P : Program} (hng : NoNG P) (hm : P.follows .mixedOrders = true) {K : List KE} {S : Nat → Prop} : @CEokT (XK P K S) P False (fun _ => True) (rcK P K) := by
  letI : Ext := XK P K S
  exact evN_rc2 hng hm (knL_ok fun _ _ h => h) 20000
/-- What is known behind a part. -/
structure Beh [Ext] (w0 : World) (f0 : Nat → Option Inf) (S : Nat → Prop) (ρ : Rho) (nt : Nat) (w : World) (a' : VT) (H' : VH) (act' : Act) (w' : World) (φ : Phi) : Prop where
  rho : φ.ρ = ρ
  tr : TR φ a' act'.tmps
  sim : HSim w0 φ H' w'
  wk : WK w w'
  same : ∀ k, k < w.heap.size → ¬ S k → w'.heap[k]? = w.heap[k]?
  pin : ∀ i inf, f0 i = some inf → φ i = some inf
  own : ∀ i inf, φ i = some inf → S inf.blk ∨ w.heap.size ≤ inf.blk
  sz : act'.tmps.size = nt
  df : act'.defers = []
section
variable {P : Program} {Q : Exit → Act → World → Prop} {HD : Nat → Act → World → Prop}
theorem gen_part [X : Ext] {rc : Go.Ev.CE} (hrc : CEokT P False (fun _ => True) rc) {nt : Nat} (hnt : nt ≤ top) {body : Code} {S : List Nat} {f : Nat} {c : Code} {n : Nat} {K : List Fr1} {a : VT} {H : VH} {so : SegO} (hat : At1 body c n K) (hko : KOK body K) (hs : seg rc nt S f c n K a H = some so)
    {w0 : World} {f0 : Nat → Option Inf} {ρ : Rho} {act : Act} {w : World} (ht : TR ⟨f0, ρ⟩ a act.tmps) (hsim : HSim w0 ⟨f0, ρ⟩ H w) (hsz : act.tmps.size = nt) (hd : act.defers = [])
    (hgo : match so with
      | .cut t a' H' => ∀ act' w' φ, Beh w0 f0 (fun k => ∃ i inf, f0 i = some inf ∧ inf.blk = k) ρ nt w a' H' act' w' φ → HD t act' w' ∧ ∀ c' K', ctx t body 0 [] = some (c', K') → (Code.loop c').wpIn (Fr none) 0 P (postK P HD Q K') act' w'
      | .out x a' H' => ∀ act' w' φ, Beh w0 f0 (fun k => ∃ i inf, f0 i = some inf ∧ inf.blk = k) ρ nt w a' H' act' w' φ → Q x.real act' w') :
    c.wpIn (Fr none) 0 P (postK P HD Q K) act w := by
  have k0 : RSG ⟨w, f0⟩ w0 (· = ρ) nt a H act w := ⟨⟨f0, ρ⟩, rfl, ht, hsim, .start, hsz, hd⟩
  have beh : ∀ {a' H' act' w'}, RSG ⟨w, f0⟩ w0 (· = ρ) nt a' H' act' w' → ∃ φ, Beh w0 f0 (fun k => ∃ i inf, f0 i = some inf ∧ inf.blk = k) ρ nt w a' H' act' w' φ := by
    rintro a' H' act' w' ⟨φ, k1, k2, k3, k4, k5, k6⟩
    exact ⟨φ, k1, k2, k3, k4.wk, fun k hk hn => k4.frame k hk hn, k4.pin, k4.own, k5, k6⟩
  refine segG_sound (Rr := fun _ => True) trivial hrc hnt (Nat.le_refl _) hat hko hs k0 ?_
  cases so with
  | cut t a' H' =>
    intro act' w' _ k
    obtain ⟨φ, b⟩ := beh k
    exact hgo act' w' φ b
  | out x a' H' =>
    intro act' w' _ k
    obtain ⟨φ, b⟩ := beh k
    exact hgo act' w' φ b
/-- A part that changes nothing that is there. -/
theorem plain_part [X : Ext] {rc : Go.Ev.CE} (hrc : CEokT P False (fun _ => True) rc) {nt : Nat} (hnt : nt ≤ top) {body : Code} {S : List Nat} {f : Nat} {c : Code} {n : Nat} {K : List Fr1} {a : VT} {E : Env} {so : SegO} (hat : At1 body c n K) (hko : KOK body K) (hs : seg rc nt S f c n K a ⟨E, .lf, 0⟩ = some so)
    {ρ : Rho} {act : Act} {w : World} (ht : TR ⟨fun _ => none, ρ⟩ a act.tmps) (hE : EnvOK E ⟨fun _ => none, ρ⟩ w) (hb : ∀ r, E.blk r = none) (hsz : act.tmps.size = nt) (hd : act.defers = []) (hno : ∀ k, ¬ Ext.own k)
    (hgo : match so with
      | .cut t a' H' => ∀ act' w' φ, Beh w (fun _ => none) (fun _ => False) ρ nt w a' H' act' w' φ → HD t act' w' ∧ ∀ c' K', ctx t body 0 [] = some (c', K') → (Code.loop c').wpIn (Fr none) 0 P (postK P HD Q K') act' w'
      | .out x a' H' => ∀ act' w' φ, Beh w (fun _ => none) (fun _ => False) ρ nt w a' H' act' w' φ → Q x.real act' w') :
    c.wpIn (Fr none) 0 P (postK P HD Q K) act w := by
  have conv : ∀ {a' H' act' w' φ}, Beh w (fun _ => none) (fun k => ∃ (i : Nat) (inf : Inf), (fun _ => none : Nat → Option Inf) i = some inf ∧ inf.blk = k) ρ nt w a' H' act' w' φ → Beh w (fun _ => none) (fun _ => False) ρ nt w a' H' act' w' φ := fun b =>
    ⟨b.rho, b.tr, b.sim, b.wk, fun k hk _ => b.same k hk (fun ⟨_, _, h, _⟩ => by cases h), b.pin, fun i inf hi => (b.own i inf hi).elim (fun ⟨_, _, h, _⟩ => by cases h) .inr, b.sz, b.df⟩
  refine gen_part hrc hnt hat hko hs ht (HSim.startE hE (fun r b h => by rw [hb r] at h; cases h) hno) hsz hd ?_
  cases so with
  | cut t a' H' => exact fun act' w' φ b => hgo act' w' φ (conv b)
  | out x a' H' => exact fun act' w' φ b => hgo act' w' φ (conv b)
/-- A part that may change one block that is there. -/
theorem own_part [X : Ext] {rc : Go.Ev.CE} (hrc : CEokT P False (fun _ => True) rc) {nt : Nat} (hnt : nt ≤ top) {body : Code} {S : List Nat} {f : Nat} {c : Code} {n : Nat} {K : List Fr1} {a : VT} {E : Env} {o : VO} {so : SegO} (hat : At1 body c n K) (hko : KOK body K) (hs : seg rc nt S f c n K a ⟨E, .nd .lf (some o) .lf, 1⟩ = some so)
    {ρ : Rho} {act : Act} {w : World} {inf : Inf} {o' : Obj} (ht : TR ⟨oneF inf, ρ⟩ a act.tmps) (hE : EnvOK E ⟨oneF inf, ρ⟩ (less w inf.blk)) (hb : ∀ r, E.blk r = none) (hw : w.heap[inf.blk]? = some o') (hO : OR ⟨oneF inf, ρ⟩ inf o o') (hsz : act.tmps.size = nt) (hd : act.defers = []) (hown : ∀ k, Ext.own k ↔ k = inf.blk)
    (hgo : match so with
      | .cut t a' H' => ∀ act' w' φ, Beh (less w inf.blk) (oneF inf) (fun k => k = inf.blk) ρ nt w a' H' act' w' φ → HD t act' w' ∧ ∀ c' K', ctx t body 0 [] = some (c', K') → (Code.loop c').wpIn (Fr none) 0 P (postK P HD Q K') act' w'
      | .out x a' H' => ∀ act' w' φ, Beh (less w inf.blk) (oneF inf) (fun k => k = inf.blk) ρ nt w a' H' act' w' φ → Q x.real act' w') :
    c.wpIn (Fr none) 0 P (postK P HD Q K) act w := by
  have one : ∀ {i jnf}, oneF inf i = some jnf → jnf = inf := fun {i jnf} h => by
    unfold oneF at h
    split at h
    · cases h; rfl
    · cases h
  have conv : ∀ {a' H' act' w' φ}, Beh (less w inf.blk) (oneF inf) (fun k => ∃ i jnf, oneF inf i = some jnf ∧ jnf.blk = k) ρ nt w a' H' act' w' φ → Beh (less w inf.blk) (oneF inf) (fun k => k = inf.blk) ρ nt w a' H' act' w' φ := fun b =>
    ⟨b.rho, b.tr, b.sim, b.wk, fun k hk hn => b.same k hk (fun ⟨_, _, h, e⟩ => hn (by rw [one h] at e; exact e.symm)), b.pin, fun i jnf hi => (b.own i jnf hi).elim (fun ⟨_, _, h, e⟩ => .inl (by rw [one h] at e; exact e.symm)) .inr, b.sz, b.df⟩
  refine gen_part hrc hnt hat hko hs ht (HSim.window rfl hw hown hE hb hO) hsz hd ?_
  cases so with
  | cut t a' H' => exact fun act' w' φ b => hgo act' w' φ (conv b)
  | out x a' H' => exact fun act' w' φ b => hgo act' w' φ (conv b)
end
/-- A world's cell that is not of the block taken out. -/
theorem Beh.cell [Ext] {w0 : World} {f0 : Nat → Option Inf} {S : Nat → Prop} {ρ : Rho} {nt : Nat} {w : World} {a' : VT} {H' : VH} {act' : Act} {w' : World} {φ : Phi} (h : Beh w0 f0 S ρ nt w a' H' act' w' φ) {a : Addr} {v : Value} (hb : a.block < w.heap.size) (hn : ¬ S a.block) (hv : w.cell? a = some v) : w'.cell? a = some v := by
  rw [← hv]
  unfold World.cell?
  rw [h.same _ hb hn]
/-- A local block's cells. -/
theorem Beh.blk [Ext] {w0 : World} {f0 : Nat → Option Inf} {S : Nat → Prop} {ρ : Rho} {nt : Nat} {w : World} {a' : VT} {H' : VH} {act' : Act} {w' : World} {φ : Phi} (h : Beh w0 f0 S ρ nt w a' H' act' w' φ) {k : Nat} {c : List VV} {g : Option Nat} {ro : Nat} {et : Option TypeId} (hk : H'.locs.get k = some (.cells c g ro et)) : ∃ inf c' e fr, φ k = some inf ∧ w'.heap[inf.blk]? = some (.cells c' e fr) ∧ CR φ inf c g ro et c' e fr := by
  obtain ⟨inf, o', h1, h2, ⟨c', e, fr, rfl, h3⟩, _⟩ := h.sim.live k _ hk
  exact ⟨inf, c', e, fr, h1, h2, h3⟩
end
end Go.Ev
namespace Go.Ev
set_option linter.unusedVariables false
noncomputable section
open Go.RowKit
/-- A state here, of which some temporaries are known. -/
theorem RSN.here [X : Ext] {ρ : Rho} {E : Env} {nt : Nat} {l : List (Nat × VV)} {act : Act} {w : World} (hsz : act.tmps.size = nt) (hnt : nt ≤ top) (hd : act.defers = []) (hl : ∀ p ∈ l, p.1 < top ∧ VR ⟨fun _ => none, ρ⟩ p.2 (act.tmps.getD p.1 undef)) (hE : EnvOK E ⟨fun _ => none, ρ⟩ w) (hb : ∀ r, E.blk r = none) (hno : ∀ k, ¬ Ext.own k := by intro k h; exact h) :
    RSN w (· = ρ) nt (mkT nt l) ⟨E, .lf, 0⟩ act w :=
  ⟨⟨fun _ => none, ρ⟩, rfl, mkT_TR hsz hnt hl, HSim.startE hE (fun r b h => by rw [hb r] at h; cases h) hno, .refl w, hsz, hd⟩
/-- What is told of a state's block. -/
theorem RSN.blk [Ext] {w0 : World} {ρ : Rho} {sz : Nat} {a : VT} {H : VH} {act : Act} {w : World} (k : RSN w0 (· = ρ) sz a H act w) : ∃ φ : Phi, φ.ρ = ρ ∧ TR φ a act.tmps ∧ HSim w0 φ H w ∧ WK w0 w ∧ act.tmps.size = sz ∧ act.defers = [] := k
/-- Local cells as memory. -/
theorem HSim.cellsAt [Ext] {w0 w : World} {φ : Phi} {H : VH} (hs : HSim w0 φ H w) {i : Nat} {c : List VV} {g : Option Nat} {ro : Nat} {et : Option TypeId} (hk : H.locs.get i = some (.cells c g ro et)) : ∃ inf, φ i = some inf ∧ inf.blk < w.heap.size ∧ ∀ j x, c[j]? = some x → ∃ y, w.cell? ⟨inf.blk, inf.off + j, none⟩ = some y ∧ VR φ x y := by
  obtain ⟨inf, o', h1, h2, ⟨c', e, fr, rfl, h3⟩, _⟩ := hs.live i _ hk
  refine ⟨inf, h1, (Array.getElem?_eq_some_iff.1 h2).1, fun j x hx => ?_⟩
  obtain ⟨y, y1, y2⟩ := h3.cell j x hx
  refine ⟨y, ?_, y2⟩
  unfold World.cell?
  simp only [h2]
  rw [y1]
  rfl
end
end Go.Ev
