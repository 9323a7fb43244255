/- Engine, part Qa: code walked in parts, whatever heads of loops it has; the world at a place becomes the base. -/
import Derived.Test.YtgbhmkdldfhamaaEv9
namespace Go.Ev
set_option linter.unusedVariables false
noncomputable section
open Go.RowKit
/-- A state without open marks. -/
def RSN [Ext] (w0 : World) (R : Rho → Prop) (sz : Nat) (a : VT) (H : VH) (act : Act) (w : World) : Prop :=
  ∃ φ : Phi, R φ.ρ ∧ TR φ a act.tmps ∧ HSim w0 φ H w ∧ WK w0 w ∧ act.tmps.size = sz ∧ act.defers = []
theorem MarksOK.no {w0 : World} {φ : Phi} {H : VH} {w : World} {ds : List Deferred} (h : MarksOK (fun _ => False) w0 φ H w ds) : ds = [] := by
  obtain ⟨rs, h1, h2, h3⟩ := h
  cases rs with
  | nil => exact h1
  | cons r rs => exact (h3 r (List.mem_cons_self)).1.elim
section
variable {P : Program} {Q : Exit → Act → World → Prop} {HD : Nat → Act → World → Prop}
theorem segN_sound [Ext] {Rr : Option Nat → Prop} (hRr : Rr none) {rc : CE} (hrc : CEokT P False Rr rc) {w0 : World} {R : Rho → Prop} {sz nt : Nat} (hnt : nt ≤ top) (hsz : nt ≤ sz) {body : Code} {S : List Nat} : ∀ {f : Nat} {c : Code} {n : Nat} {K : List Fr1} {a : VT} {H : VH} {o : SegO}, At1 body c n K → KOK body K → seg rc nt S f c n K a H = some o →
    ∀ {act : Act} {w : World}, RSN w0 R sz a H act w →
    (match o with
      | .cut t a' H' => ∀ act' w', H'.base = H.base → RSN w0 R sz a' H' act' w' → HD t act' w' ∧ ∀ c' K', ctx t body 0 [] = some (c', K') → (Code.loop c').wpIn (Fr none) 0 P (postK P HD Q K') act' w'
      | .out x a' H' => ∀ act' w', H'.base = H.base → RSN w0 R sz a' H' act' w' → Q x.real act' w') →
    c.wpIn (Fr none) 0 P (postK P HD Q K) act w
  | 0, c, n, K, a, H, o, _, _, h, _, _, _, _ => by simp [seg] at h
  | f + 1, c, n, K, a, H, o, hat, hk, h, act, w, k, hq => by
    simp only [seg] at h
    split at h
    · split at h
      · rename_i x a' H' hr
        obtain ⟨φ, k1, k2, k3, k4, k5, k6⟩ := k
        refine wpIn_mono (hrc w0 nt c a H x a' H' hr hnt none hRr φ act w k2 k3 (by omega) (fun _ => False) (fun h => h.elim) (by rw [k6]; exact .nil)) ?_
        rintro e act' w' ⟨φ', rfl, h2, h3, h4, q1, h6, h7⟩
        have q2 : RSN w0 R sz a' H' act' w' := ⟨φ', by rw [h2.le.2]; exact k1, h3, h4, k4.trans h2.wk, h6.trans k5, h7.no⟩
        refine pop_sound hk ?_
        split at h
        · rename_i y m K' hp
          rw [hp]
          intro g1 g2
          refine segN_sound hRr hrc hnt hsz g1 g2 h q2 ?_
          cases o with
          | cut t a'' H'' => exact fun act'' w'' e => hq act'' w'' (e.trans q1)
          | out x a'' H'' => exact fun act'' w'' e => hq act'' w'' (e.trans q1)
        · rename_i m hp
          rw [hp]
          simp only [Option.some.injEq] at h
          subst h
          exact (hq act' w' q1 q2).1
        · rename_i x' hp
          rw [hp]
          simp only [Option.some.injEq] at h
          subst h
          exact hq act' w' q1 q2
      · cases h
    · split at h
      · rename_i x y _
        refine wpIn_seq ?_
        exact segN_sound hRr hrc hnt hsz (K := .sq y (n + nl x) :: K) hat.seq.1 ⟨hat.seq.2, hk⟩ h k hq
      · rename_i id c _
        refine wpIn_block ?_
        exact segN_sound hRr hrc hnt hsz (K := .bk id :: K) hat.block hk h k hq
      · rename_i oc x y _
        split at h
        · rename_i b hb
          obtain ⟨φ, k1, k2, k3⟩ := k
          have hv := evOperand_sound k2 hb
          simp only [VR] at hv
          have k : RSN w0 R sz a H act w := ⟨φ, k1, k2, k3⟩
          split at h
          · exact wpIn_cond hv (segN_sound hRr hrc hnt hsz hat.cond.1 hk h k hq)
          · exact wpIn_cond hv (segN_sound hRr hrc hnt hsz hat.cond.2 hk h k hq)
        · cases h
      · simp only [Option.some.injEq] at h
        subst h
        exact (hq act w rfl k).2 _ _ hat.loop.1
      · cases h
/-- The same state, seen by other symbols, its blocks by other numbers. -/
theorem RSN.move [Ext] {w0 : World} {ρ ρ' : Rho} {sz N n : Nat} {m : TT Nat} {a₁ a' : VT} {H₁ : VH} {l' : TT VO} {ps : Prs} {E' : Env} {act : Act} {w : World} (k : RSN w0 (· = ρ) sz a₁ H₁ act w) (hs : mvS N n m a₁ H₁.locs a' l' = some ps) (hb : E'.blk = H₁.base.blk)
    (ha : agree N ρ ρ') (hc : ∀ p ∈ ps, Car ρ ρ' p) (hE : ∀ φ : Phi, φ.ρ = ρ' → EnvOK E' φ w0) : RSN w0 (· = ρ') sz a' ⟨E', l', n⟩ act w := by
  obtain ⟨φ, k1, k2, k3, k4, k5, k6⟩ := k
  subst k1
  obtain ⟨g1, g2⟩ := HSim.move k2 k3 hs hb ha hc hE
  exact ⟨φ.mv m ρ', rfl, g1, g2, k4, k5, k6⟩
/-- The world here becomes the base. -/
theorem RSN.reset [X : Ext] {Y : Ext} {w0 : World} {R : Rho → Prop} {ρ' : Rho} {sz : Nat} {a a' : VT} {H : VH} {E' : Env} {act : Act} {w : World} (k : @RSN X w0 R sz a H act w) (hb : ∀ r, E'.blk r = none)
    (h : ∀ φ : Phi, R φ.ρ → TR φ a act.tmps → @HSim X w0 φ H w → TR ⟨fun _ => none, ρ'⟩ a' act.tmps ∧ @EnvOK Y E' ⟨fun _ => none, ρ'⟩ w) : @RSN Y w (· = ρ') sz a' ⟨E', .lf, 0⟩ act w := by
  obtain ⟨φ, k1, k2, k3, k4, k5, k6⟩ := k
  obtain ⟨g1, g2⟩ := h φ k1 k2 k3
  exact ⟨⟨fun _ => none, ρ'⟩, rfl, g1, @HSim.startE Y w ρ' E' g2 (fun r b h => by rw [hb r] at h; cases h), .refl w, k5, k6⟩
/-- Heads of loops: each leads to heads that are nearer the end, or to the end. -/
theorem heads_ok {body : Code} {I : Nat → Nat → Act → World → Prop}
    (hI : ∀ k t act w, I k t act w → ∀ c K, ctx t body 0 [] = some (c, K) → At1 body (.loop c) t K → KOK body K → ∀ HD : Nat → Act → World → Prop, (∀ t' act' w', (∃ j, j < k ∧ I j t' act' w') → HD t' act' w' ∧ ∀ c' K', ctx t' body 0 [] = some (c', K') → (Code.loop c').wpIn (Fr none) 0 P (postK P HD Q K') act' w') →
      c.wpIn (Fr none) 0 P (postK P HD Q (.lp c t :: K)) act w) :
    ∀ (k t : Nat) (c : Code) (K : List Fr1), ctx t body 0 [] = some (c, K) → ∀ k', k ≤ k' → ∀ act w, (∃ j, j ≤ k ∧ I j t act w) → (Code.loop c).wpIn (Fr none) 0 P (postK P (fun t act w => ∃ j, j ≤ k' ∧ I j t act w) Q K) act w := by
  intro k
  induction k using Nat.strongRecOn with
  | _ k ih =>
    intro t c K hc k' hkk act w hh
    have h0 : At1 body body 0 [] := fun t _ _ => rfl
    have ht : t < 0 + nl body ∨ ¬ t < 0 + nl body := Decidable.em _
    obtain ⟨hat, hko⟩ : At1 body (.loop c) t K ∧ KOK body K := by
      rcases ht with ht | ht
      · exact ctx_at h0 trivial (Nat.zero_le _) ht hc
      · exact absurd (ctx_lt hc).2 ht
    classical
    have low : ∀ j act w, j ≤ k → (∃ i, i ≤ j ∧ I i t act w) → c.wpIn (Fr none) 0 P (Exit.then (fun act' w' => ∃ i, i < j ∧ ∃ i', i' ≤ i ∧ I i' t act' w') (postK P (fun t act w => ∃ j, j ≤ k' ∧ I j t act w) Q K)) act w := by
      rintro j act w hj ⟨i, hi, hr⟩
      have := hI i t act w hr c K hc hat hko (fun s act w => ∃ i', i' < i ∧ I i' s act w) (fun s act w hs => ⟨hs, fun c' K' hc' => ?_⟩)
      · refine wpIn_mono this fun e act' w' h => ?_
        simp only [postK] at h
        refine then_mono (fun act w => ?_) (postK_mono (fun n act w => ?_) K) e act' w' h
        · rintro ⟨i', h1, h2⟩
          exact ⟨i', by omega, i', Nat.le_refl _, h2⟩
        · rintro ⟨i', h1, h2⟩
          exact ⟨i', by omega, h2⟩
      · obtain ⟨i', h1, h2⟩ := hs
        have := ih i' (by omega) s c' K' hc' (i - 1) (by omega) act w ⟨i', Nat.le_refl _, h2⟩
        refine wpIn_mono this (postK_mono (fun n act w => ?_) K')
        rintro ⟨q, q1, q2⟩
        exact ⟨q, by omega, q2⟩
    refine wpIn_loop (fun act w => ∃ j, j ≤ k ∧ I j t act w) (fun act w => leastOf fun j => I j t act w) hh ?_
    rintro act w ⟨j, hj, hh⟩
    obtain ⟨hmin, hle⟩ := leastOf_ok (p := fun j => I j t act w) ⟨j, hh⟩
    have hle := hle j hh
    refine wpIn_mono (low _ act w (by omega) ⟨_, Nat.le_refl _, hmin⟩) fun e act' w' h => ?_
    refine then_mono (fun act' w' => ?_) (fun _ _ _ h => h) e act' w' h
    rintro ⟨i, hi, i', hi', hi2⟩
    refine ⟨⟨i', by omega, hi2⟩, ?_⟩
    exact Nat.lt_of_le_of_lt ((leastOf_ok (p := fun j => I j t act' w') ⟨i', hi2⟩).2 i' hi2) (by omega)
end
theorem evN_rc2 [Ext] {P : Program} (hng : NoNG P) (hm : P.follows .mixedOrders = true) {kn : KN} (hK : KnOK P kn) (n : Nat) : CEokT P False (fun _ => True) (evN P (drawRun P) kn n).1.2 :=
  (evN_sound hng (fun _ h => drawRun_sound hng hm h) hK n).2.1.2
/-! ### cuts, over states without open marks -/
/-- Only leaves that go on are checked. -/
def chkLfN (rc : CE) (nt : Nat) (S : List Nat) (fuel : Nat) (body : Code) (C : List CutP) (c : CutP) (iv : Ivs) (fs : List Fact) : Leaf → Bool
  | .goto q xs => match c.run rc nt S fuel body (c.E iv fs), lget C q with
    | some (.cut t a H), some d => match d.lab with
      | some t' => match Nat.beq t t' with
        | true => moveB d a H xs
        | false => false
      | none => false
    | _, _ => false
  | .ret _ => true
def chkPN (rc : CE) (nt : Nat) (S : List Nat) (fuel : Nat) (body : Code) (C : List CutP) (c : CutP) : Bool := chkX (chkLfN rc nt S fuel body C c) c.tr c.iv []
section
variable {P : Program} {Q : Exit → Act → World → Prop} {HD : Nat → Act → World → Prop}
/-- A part, from a cut to a cut. -/
theorem cutN_step [Ext] {Rr : Option Nat → Prop} (hRr : Rr none) {rc : CE} (hrc : CEokT P False Rr rc) {sz nt : Nat} (hnt : nt ≤ top) (hsz : nt ≤ sz) {body : Code} {S : List Nat} {fuel : Nat} {C : List CutP} {p q : Nat} {c d : CutP} {xs : List VV} {w0 : World} {ρ ρ' : Rho} {b : Code} {n : Nat} {K : List Fr1}
    (hchk : chkPN rc nt S fuel body C c = true) (hrun : c.run rc nt S fuel body (c.env ρ) = seg rc nt S fuel b n K c.a0 ⟨c.env ρ, c.l, c.nH⟩) (hat : At1 body b n K) (hk : KOK body K)
    (hv : valX c.tr ρ.int = .goto q xs) (hd : lget C q = some d) (hblk : (d.env ρ').blk = (c.env ρ).blk) (ha : agree d.N ρ ρ') (hc : carry ρ ρ' xs d.ys) (hE : d.OK w0 ρ')
    {act : Act} {w : World} (k0 : RSN w0 (· = ρ) sz c.a0 ⟨c.env ρ, c.l, c.nH⟩ act w)
    (hgo : ∀ t act' w', d.lab = some t → RSN w0 (· = ρ') sz d.a0 ⟨d.env ρ', d.l, d.nH⟩ act' w' → HD t act' w' ∧ ∀ c' K', ctx t body 0 [] = some (c', K') → (Code.loop c').wpIn (Fr none) 0 P (postK P HD Q K') act' w') : b.wpIn (Fr none) 0 P (postK P HD Q K) act w := by
  have key := valX_ok (v := ρ.int) hchk
  rw [hv] at key
  simp only [chkLfN] at key
  have e : c.E (leafOf c.tr.tr ρ.int c.iv []).1 (leafOf c.tr.tr ρ.int c.iv []).2 = c.env ρ := rfl
  rw [e] at key
  split at key
  · rename_i t a H d' hseg hd'
    rw [hd] at hd'
    cases hd'
    split at key
    · rename_i t' hlab
      split at key
      · rename_i g1
        have ht := Nat.eq_of_beq_eq_true g1
        subst ht
        unfold moveB at key
        split at key
        · rename_i ps g2
          rw [hrun] at hseg
          refine segN_sound hRr hrc hnt hsz hat hk hseg k0 fun act' w' hbase k1 => hgo t act' w' hlab ?_
          exact k1.move g2 (by rw [hbase]; exact hblk) ha (carry_ok key hc) fun φ hφ => (hE.env _ hφ).ok (by rw [hφ]; exact hE.ext)
        · cases key
      · cases key
    · cases key
  · cases key
end
/-! ### a call, walked so -/
/-- A world behind another one: old memory is as it was. -/
structure Anc (w0 w : World) : Prop where
  wk : WK w0 w
  old : ∀ k, k < w0.heap.size → w.heap[k]? = w0.heap[k]?
theorem Anc.refl (w : World) : Anc w w := ⟨.refl w, fun _ _ => rfl⟩
theorem Anc.trans {a b c : World} (h : Anc a b) (k : Anc b c) : Anc a c := ⟨h.wk.trans k.wk, fun i hi => by rw [k.old i (Nat.lt_of_lt_of_le hi h.wk.size), h.old i hi]⟩
theorem RSN.anc [Ext] {w0 : World} {R : Rho → Prop} {sz : Nat} {a : VT} {H : VH} {act : Act} {w : World} (k : RSN w0 R sz a H act w) : Anc w0 w := by
  obtain ⟨φ, k1, k2, k3, k4, k5, k6⟩ := k
  exact ⟨k4, k3.old⟩
/-- The end of a call that tells a value. -/
def EndsN (P : Program) (fn : Func) (w0 : World) (res : Value) (e : Exit) (act : Act) (w : World) : Prop :=
  e = .ret ∧ ∃ (X : Ext) (w1 : World) (R : Rho → Prop) (a : VT) (H : VH) (r : VV), Anc w0 w1 ∧ @RSN X w1 R fn.ntmps a H act w ∧ resL P a H fn.results.toList = some [r] ∧ ∀ (φ : Phi) (v : Value), R φ.ρ → VR φ r v → v = res
theorem rsn_calls [X : Ext] {P : Program} {f : FuncId} {fn : Func} {c : Code} {args : List VV} {args' : List Value} {w0 : World} {ρ : Rho} {E : Env} {res : Value} (hf : P.funcs[f]? = some fn) (hc : fn.body = some c) (h1 : Nat.ble args.length fn.ntmps = true) (h2 : Nat.ble fn.ntmps top = true)
    (hE : EnvOK E ⟨fun _ => none, ρ⟩ w0) (hb : ∀ r b, E.blk r = some b → ∃ o, w0.heap[r]? = some o ∧ BOR b o) (ha : VRs ⟨fun _ => none, ρ⟩ args args')
    (h : ∀ act, RSN w0 (· = ρ) fn.ntmps (listT args 0 .lf) ⟨E, .lf, 0⟩ act w0 → c.wpIn (Fr none) 0 P (EndsN P fn w0 res) act w0) : Calls P f ⟨args'⟩ w0 fun e w' => e = .returned res ∧ Below w0.heap.size w0 w' := by
  have h1' : args.length ≤ fn.ntmps := Nat.le_of_ble_eq_true h1
  have h2' : fn.ntmps ≤ top := Nat.le_of_ble_eq_true h2
  have hl := VRs_length _ _ ha
  have ht := TR_args ha h1' h2'
  have k := h { tmps := (⟨args'⟩ : Array Value) ++ Array.replicate (fn.ntmps - (⟨args'⟩ : Array Value).size) undef, defers := [] } ⟨⟨fun _ => none, ρ⟩, rfl, ht, HSim.startE hE hb, .refl w0, by simp; omega, rfl⟩
  refine (callsIn_wide (n := 0)).1 (callsIn_of_wp_marks hf hc trivial (wpIn_mono k ?_))
  rintro e act' w' ⟨rfl, Y, w1, R, a, H, r, g1, ⟨φ, k1, k2, k3, k4, k5, k6⟩, hr, hv⟩
  show LeavesInM Fence.wide 0 P fn act'.tmps _ act'.defers .returning w'
  rw [k6]
  obtain ⟨v', r1, r2⟩ := @results_sound Y P w1 φ H w' a act'.tmps k2 k3 fn [r] hr
  have an := g1.trans ⟨k4, k3.old⟩
  exact ⟨v', r1, by rw [hv φ v' k1 r2], an.wk.os, an.wk.tape, an.wk.output, an.wk.size, an.old⟩
end
end Go.Ev
