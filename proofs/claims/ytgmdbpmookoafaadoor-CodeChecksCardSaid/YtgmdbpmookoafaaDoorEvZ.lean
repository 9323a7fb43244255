/- Engine, part Z: loops whose rounds are alike. -/
import Derived.Test.YtgmdbpmookoafaaDoorEvY
namespace Go.Ev
noncomputable section
open Go.RowKit
/-- A loop over what the symbols stand for, one after the other: each round goes on, or returns; behind the last one it is left. -/
theorem loop_stage [Ext] {P : Program} {rc : CE} (hrc : CEok P (· = none) rc) {w0 : World} {sz nt : Nat} (hnt : nt ≤ top) (hsz : nt ≤ sz) {LB : Code} {rhoAt : Nat → Rho} {len : Nat} {EI : Nat → Env} {a0 : VT} {sp : Nat → List (Nat × VV)} {l' : TT VO} {nH N : Nat} {x : VX} {good : Nat → Bool} {a3 : VT} {H3 : VH} {Bad : Nat → VT → VH → Prop}
    (hblk : ∀ i j, (EI i).blk = (EI j).blk) (hag : ∀ i, i < len → agree N (rhoAt i) (rhoAt (i + 1))) (hE : ∀ i, i ≤ len → ∀ φ : Phi, φ.ρ = rhoAt i → EnvOK (EI i) φ w0)
    (hgood : ∀ i, i < len → good i = true → ∃ a' H', rc nt LB (putSp (sp i) a0) ⟨EI i, l', nH⟩ = some (.normal, a', H') ∧ swB N nH a' H' a0 l' = true ∧ ∀ p ∈ sp (i + 1), p.1 < top ∧ ∀ (φ φ' : Phi) (v : Value), φ.ρ = rhoAt i → φ'.ρ = rhoAt (i + 1) → VR φ (tget a' p.1) v → VR φ' p.2 v)
    (hbad : ∀ i, i < len → good i = false → ∃ a' H', rc nt LB (putSp (sp i) a0) ⟨EI i, l', nH⟩ = some (.ret, a', H') ∧ Bad i a' H')
    (hend : rc nt LB (putSp (sp len) a0) ⟨EI len, l', nH⟩ = some (x, a3, H3)) (hx : x ≠ .normal)
    {act : Act} {w : World} (k : RS w0 (· = rhoAt 0) sz (putSp (sp 0) a0) ⟨EI 0, l', nH⟩ act w) :
    (Code.loop LB).wpIn (Fr none) 0 P (fun e act' w' => (∃ i, i < len ∧ good i = false ∧ (∀ j, j < i → good j = true) ∧ e = .ret ∧ ∃ a' H', Bad i a' H' ∧ RS w0 (· = rhoAt i) sz a' H' act' w') ∨ ((∀ i, i < len → good i = true) ∧ e = x.real ∧ H3.base = EI len ∧ RS w0 (· = rhoAt len) sz a3 H3 act' w')) act w := by
  have cs : ∀ {a : VT} {H : VH} {x : VX} {a' : VT} {H' : VH}, rc nt LB a H = some (x, a', H') → CS P nt LB a H x a' H' := fun h hnt w0 φ act w ht hs hn b hbs hd => hrc w0 nt LB _ _ _ _ _ h hnt none rfl φ act w ht hs hn b hbs hd
  have hxr : x.real ≠ .normal := by cases x <;> first | exact absurd rfl hx | simp [VX.real]
  have last : ∀ i, i = len → (∀ j, j < i → good j = true) → ∀ act w, RS w0 (· = rhoAt i) sz (putSp (sp i) a0) ⟨EI i, l', nH⟩ act w → LB.wpIn (Fr none) 0 P (fun e act' w' => e ≠ .normal ∧ ((∃ i, i < len ∧ good i = false ∧ (∀ j, j < i → good j = true) ∧ e = .ret ∧ ∃ a' H', Bad i a' H' ∧ RS w0 (· = rhoAt i) sz a' H' act' w') ∨ ((∀ i, i < len → good i = true) ∧ e = x.real ∧ H3.base = EI len ∧ RS w0 (· = rhoAt len) sz a3 H3 act' w'))) act w := by
    rintro i rfl hg act w k
    refine wpIn_mono (RS.cs (cs hend) hnt hsz k) ?_
    rintro e act' w' ⟨rfl, q1, q2⟩
    exact ⟨hxr, .inr ⟨hg, rfl, q1, q2⟩⟩
  refine loop_inv (fun k act w => ∃ i, i + k = len ∧ (∀ j, j < i → good j = true) ∧ RS w0 (· = rhoAt i) sz (putSp (sp i) a0) ⟨EI i, l', nH⟩ act w) ?_ ?_ len act w ⟨0, by omega, (fun j h => by omega), k⟩
  · rintro act w ⟨i, hi, hg, k⟩
    exact last i (by omega) hg act w k
  · rintro m act w ⟨i, hi, hg, k⟩
    have hlt : i < len := by omega
    cases hgi : good i with
    | true =>
      obtain ⟨a', H', h1, h2, h3⟩ := hgood i hlt hgi
      refine wpIn_mono (RS.cs (cs h1) hnt hsz k) ?_
      rintro e act' w' ⟨rfl, q1, q2⟩
      refine .inl ⟨rfl, i + 1, by omega, ?_, ?_⟩
      · intro j hj
        by_cases hji : j = i
        · rw [hji]; exact hgi
        · exact hg j (by omega)
      · refine RS.swap q2 h2 (by rw [q1]; exact hblk _ _) fun φ hφ ht _ => ⟨rhoAt (i + 1), rfl, by rw [hφ]; exact hag i hlt, hE (i + 1) (by omega) _ rfl, fun p hp => ?_⟩
        obtain ⟨g1, g2⟩ := h3 p hp
        exact ⟨g1, g2 φ _ _ hφ rfl (ht p.1)⟩
    | false =>
      obtain ⟨a', H', h1, h2⟩ := hbad i hlt hgi
      refine wpIn_mono (RS.cs (cs h1) hnt hsz k) ?_
      rintro e act' w' ⟨rfl, q1, q2⟩
      exact .inr ⟨by simp [VX.real], .inl ⟨i, hlt, hgi, hg, rfl, a', H', h2, q2⟩⟩
/-! ### a loop by an index that returns early -/
/-- A loop's head: its temporaries but for those that count, its blocks; which temporaries count: temporary, kind, symbol at the head, symbol behind a round; what it tells when it returns. -/
structure Side where
  nt : Nat
  LB : Code
  a0 : VT
  l : TT VO
  nH : Nat
  ix : List (Nat × IntKind × Nat × Nat)
  res : List ResultVar
  bad : VV
def Side.sp (s : Side) : List (Nat × VV) := s.ix.map fun p => (p.1, .sint p.2.1 p.2.2.1)
def ixEq (a : VT) : List (Nat × IntKind × Nat × Nat) → Bool
  | [] => true
  | (t, k, _, j) :: l => match vvEq (tget a t) (.sint k j), Nat.blt t top with
    | true, true => ixEq a l
    | _, _ => false
/-- What a round comes to: it goes on, or returns. -/
def Side.out (P : Program) (rc : CE) (N : Nat) (s : Side) (E : Env) : Option Bool := match rc s.nt s.LB (putSp s.sp s.a0) ⟨E, s.l, s.nH⟩ with
  | some (.normal, a, H) => match ixEq a s.ix, swB N s.nH a H s.a0 s.l with
    | true, true => some true
    | _, _ => none
  | some (.ret, a, H) => match resL P a H s.res with
    | some [r] => match vvEq r s.bad with
      | true => some false
      | false => none
    | _ => none
  | _ => none
def sameB : Option Bool → Option Bool → Bool
  | some a, some b => bEq a b
  | _, _ => false
theorem sameB_eq {x y : Option Bool} (h : sameB x y = true) : ∃ b, x = some b ∧ y = some b := by
  cases x <;> cases y <;> simp [sameB] at h
  rename_i a b
  exact ⟨a, rfl, by rw [bEq_eq h]⟩
theorem ixEq_get {a : VT} : ∀ {l : List (Nat × IntKind × Nat × Nat)}, ixEq a l = true → ∀ p ∈ l, p.1 < top ∧ tget a p.1 = .sint p.2.1 p.2.2.2
  | [], _, p, hp => by cases hp
  | (t, k, i, j) :: l, h, p, hp => by
    simp only [ixEq] at h
    split at h
    · rename_i h1 h2
      rcases List.mem_cons.1 hp with rfl | hp
      · exact ⟨lt_of_blt h2, vvEq_eq _ _ h1⟩
      · exact ixEq_get h p hp
    · cases h
theorem Side.out_true {P : Program} {rc : CE} {N : Nat} {s : Side} {E : Env} (h : s.out P rc N E = some true) : ∃ a H, rc s.nt s.LB (putSp s.sp s.a0) ⟨E, s.l, s.nH⟩ = some (.normal, a, H) ∧ ixEq a s.ix = true ∧ swB N s.nH a H s.a0 s.l = true := by
  unfold Side.out at h
  split at h
  · rename_i a H hr
    split at h
    · rename_i h1 h2; exact ⟨a, H, hr, h1, h2⟩
    · cases h
  · split at h
    · split at h <;> simp at h
    · cases h
  · cases h
theorem Side.out_false {P : Program} {rc : CE} {N : Nat} {s : Side} {E : Env} (h : s.out P rc N E = some false) : ∃ a H, rc s.nt s.LB (putSp s.sp s.a0) ⟨E, s.l, s.nH⟩ = some (.ret, a, H) ∧ resL P a H s.res = some [s.bad] := by
  unfold Side.out at h
  split at h
  · split at h <;> simp at h
  · rename_i a H hr
    split at h
    · rename_i r hq
      split at h
      · rename_i hv; rw [vvEq_eq _ _ hv] at hq; exact ⟨a, H, hr, hq⟩
      · cases h
    · cases h
  · cases h
theorem vvEq_tget_int {a : VT} {t : Nat} {k : IntKind} {z : Int} (h : vvEq (tget a t) (.int k z) = true) : tget a t = .int k z := vvEq_eq _ _ h
theorem dropSeq_stop {c : Code} (h : isSeq c = false) : ∀ k, dropSeq k c = c
  | 0 => rfl
  | k + 1 => by cases c <;> first | rfl | (simp [isSeq] at h)
theorem dropSeq_succ : ∀ (k : Nat) (c : Code), dropSeq 1 (dropSeq k c) = dropSeq (k + 1) c
  | 0, c => rfl
  | k + 1, c => by
    cases c with
    | seq x y => exact dropSeq_succ k y
    | _ => rfl
/-- A function: some parts, then a loop by an index that returns early, then the end. -/
theorem search_fn [Ext] {P : Program} {rc : CE} (hrc : CEok P (· = none) rc) {s : Side} {fn : Func} {c : Code} (hs : s.nt = fn.ntmps) (hres : s.res = fn.results.toList) (hnt : fn.ntmps ≤ top) {w0 : World} {rhoAt : Nat → Rho} {len : Nat} {EI : Nat → Env} {N : Nat} {good : Nat → Bool} {E0 : Env} {a : VT} {k1 k2 id : Nat} {a₁ a₂ a3 a4 : VT} {H₁ H₂ H3 H4 : VH} {rG : VV} {vB vG : Value}
    (h1 : spineE rc fn.ntmps k1 c a ⟨E0, .lf, 0⟩ = some (a₁, H₁)) (hq : isSeq (dropSeq k1 c) = true) (h2 : spineE rc fn.ntmps k2 (seqL (dropSeq k1 c)) a₁ H₁ = some (a₂, H₂))
    (hbk : isBlock id (dropSeq k2 (seqL (dropSeq k1 c))) = true) (hlp : isLoop (blockC (dropSeq k2 (seqL (dropSeq k1 c)))) = true) (hLB : s.LB = loopC (blockC (dropSeq k2 (seqL (dropSeq k1 c)))))
    (hsw : swB N s.nH a₂ H₂ s.a0 s.l = true) (hix0 : ∀ p ∈ s.ix, p.1 < top ∧ ∃ z, tget a₂ p.1 = .int p.2.1 z ∧ (rhoAt 0).int p.2.2.1 = z)
    (hblk0 : ∀ i, (EI i).blk = E0.blk) (hag : ∀ i, i < len → agree N (rhoAt i) (rhoAt (i + 1))) (hE : ∀ i, i ≤ len → ∀ φ : Phi, φ.ρ = rhoAt i → EnvOK (EI i) φ w0)
    (hout : ∀ i, i < len → s.out P rc N (EI i) = some (good i)) (hstep : ∀ i, i < len → ∀ p ∈ s.ix, (rhoAt (i + 1)).int p.2.2.1 = (rhoAt i).int p.2.2.2)
    (hend : rc fn.ntmps s.LB (putSp s.sp s.a0) ⟨EI len, s.l, s.nH⟩ = some (.exit id, a3, H3)) (hafter : rc fn.ntmps (dropSeq (k1 + 1) c) a3 H3 = some (.ret, a4, H4)) (hr4 : resL P a4 H4 fn.results.toList = some [rG])
    (hvB : ∀ φ v, VR φ s.bad v → v = vB) (hvG : ∀ φ v, VR φ rG v → v = vG)
    {act : Act} {w : World} (k : RS w0 (· = rhoAt 0) fn.ntmps a ⟨E0, .lf, 0⟩ act w) : c.wpIn (Fr none) 0 P (Ends P fn w0 (if ∀ i, i < len → good i = true then vG else vB)) act w := by
  have cs : ∀ {c : Code} {a : VT} {H : VH} {x : VX} {a' : VT} {H' : VH}, rc fn.ntmps c a H = some (x, a', H') → CS P fn.ntmps c a H x a' H' := fun {c} {_ _ _ _ _} h hnt w0 φ act w ht hs hn b hbs hd => hrc w0 fn.ntmps c _ _ _ _ _ h hnt none rfl φ act w ht hs hn b hbs hd
  refine RS.spine hrc hnt (Nat.le_refl _) h1 k fun act w e1 k => ?_
  refine wp_seqAt hq ?_
  refine RS.spine hrc hnt (Nat.le_refl _) h2 k fun act w e2 k => ?_
  refine wp_blockAt hbk ?_
  refine wp_loopAt hlp ?_
  rw [← hLB]
  have k0 : RS w0 (· = rhoAt 0) fn.ntmps (putSp s.sp s.a0) ⟨EI 0, s.l, s.nH⟩ act w := by
    refine RS.swap k hsw (by rw [e2, e1]; exact hblk0 0) fun φ hφ ht _ => ⟨rhoAt 0, rfl, fun i _ => by rw [hφ]; exact ⟨rfl, rfl, rfl, rfl⟩, hE 0 (Nat.zero_le _) _ rfl, ?_⟩
    intro p hp
    obtain ⟨q, hq, rfl⟩ := List.mem_map.1 hp
    obtain ⟨g1, z, g2, g3⟩ := hix0 q hq
    refine ⟨g1, ?_⟩
    have := ht q.1
    rw [g2] at this
    simp only [VR] at this ⊢
    rw [this]
    show _ = Value.int q.2.1 ((rhoAt 0).int q.2.2.1)
    rw [g3]
  refine wpIn_mono (loop_stage hrc (nt := fn.ntmps) hnt (Nat.le_refl _) (fun i j => (hblk0 i).trans (hblk0 j).symm) hag hE (sp := fun _ => s.sp) (good := good) (Bad := fun _ a' H' => resL P a' H' s.res = some [s.bad]) ?_ ?_ hend (by simp) k0) ?_
  · intro i hi hg
    obtain ⟨a', H', q1, q2, q3⟩ := Side.out_true (hg ▸ hout i hi)
    refine ⟨a', H', hs ▸ q1, q3, fun p hp => ?_⟩
    obtain ⟨q, hq, rfl⟩ := List.mem_map.1 hp
    obtain ⟨g1, g2⟩ := ixEq_get q2 q hq
    refine ⟨g1, fun φ φ' v hφ hφ' hv => ?_⟩
    simp only at hv ⊢
    rw [g2] at hv
    simp only [VR] at hv ⊢
    rw [hv, hφ, hφ', hstep i hi q hq]
  · intro i hi hg
    obtain ⟨a', H', q1, q2⟩ := Side.out_false (hg ▸ hout i hi)
    exact ⟨a', H', hs ▸ q1, q2⟩
  · rintro e act' w' (⟨i, hi, hg, _, rfl, a', H', hb, k'⟩ | ⟨hg, rfl, hb, k'⟩)
    · refine ⟨rfl, _, a', H', s.bad, k', hres ▸ hb, fun φ v _ hv => ?_⟩
      rw [if_neg (fun h => by rw [h i hi] at hg; cases hg)]
      exact hvB φ v hv
    · have hx : Exit.inBlock id (Exit.then ((dropSeq 1 (dropSeq k1 c)).wpIn (Fr none) 0 P (Ends P fn w0 (if ∀ i, i < len → good i = true then vG else vB))) (Ends P fn w0 (if ∀ i, i < len → good i = true then vG else vB))) (VX.exit id).real act' w' ↔ (dropSeq 1 (dropSeq k1 c)).wpIn (Fr none) 0 P (Ends P fn w0 (if ∀ i, i < len → good i = true then vG else vB)) act' w' := by
        simp [VX.real, Exit.inBlock, Exit.then]
      rw [hx]
      have e : dropSeq 1 (dropSeq k1 c) = dropSeq (k1 + 1) c := dropSeq_succ k1 c
      rw [e]
      refine wpIn_mono (RS.cs (cs hafter) hnt (Nat.le_refl _) k') ?_
      rintro e act'' w'' ⟨rfl, _, k''⟩
      refine ⟨rfl, _, a4, H4, rG, k'', hr4, fun φ v _ hv => ?_⟩
      rw [if_pos hg]
      exact hvG φ v hv
/-! ### trees in parts; facts of lists -/
theorem chkT_cut {lc : Ivs → List Fact → Bool} {i : Nat} {c : Int} {l r : Tr} {iv : Ivs} {fs : List Fact} (h1 : chkT lc l (ivHi iv i c) fs = true) (h2 : chkT lc r (ivLo iv i (c + 1)) fs = true) : chkT lc (.cut i c l r) iv fs = true := by
  simp only [chkT, h1, h2]
theorem chkT_rel {lc : Ivs → List Fact → Bool} {k : IntKind} {i j : Nat} {l r : Tr} {iv : Ivs} {fs : List Fact} (h1 : chkT lc l iv (.bin .lss (.sint k i) (.sint k j) (.bool true) :: fs) = true) (h2 : chkT lc r iv (.bin .lss (.sint k i) (.sint k j) (.bool false) :: fs) = true) : chkT lc (.rel k i j l r) iv fs = true := by
  simp only [chkT, h1, h2]
theorem fact_len {ρ : Rho} {x : VV} {a : Option Addr} {l c i : Nat} (hx : sval ρ x = some (.slice a l c)) (hi : ρ.int i = l) : FactOK ρ (.len false x (.sint .i64 i)) :=
  ⟨_, l, hx, ⟨a, c, rfl⟩, by simp [sval, hi]⟩
theorem fact_at {ρ : Rho} {x : VV} {B O l c size i j n : Nat} {k : IntKind} (hx : sval ρ x = some (.slice (some ⟨B, O, none⟩) l c)) (hi : ρ.int i = n) (hn : n < l) (hb : ρ.blk j = B) (ho : ρ.off j = O + n * size) : FactOK ρ (.at size x (.sint k i) ⟨.sym j, 0⟩) :=
  ⟨⟨B, O, none⟩, l, c, k, n, j, hx, rfl, by simp [sval, hi], by omega, by omega, rfl, hb, by simp [ho]⟩
theorem fact_add {ρ : Rho} {i j : Nat} {z : Int} (h : ρ.int j = ρ.int i + z) (h1 : -9223372036854775808 ≤ ρ.int j) (h2 : ρ.int j ≤ 9223372036854775807) : FactOK ρ (.bin .add (.sint .i64 i) (.int .i64 z) (.sint .i64 j)) := by
  refine ⟨_, _, _, rfl, rfl, rfl, by simp, by simp, fun P t w => ?_⟩
  have e : IntKind.i64.wrap (ρ.int i + z) = ρ.int j := by
    rw [← h]
    exact wrap_in (by simpa [IntKind.min, IntKind.signed, IntKind.bits] using h1) (by simpa [IntKind.max, IntKind.signed, IntKind.bits] using h2)
  simp [binOp, Op.intArith, e]
/-- What a run that returns a number tells. -/
def resI (P : Program) (res : List ResultVar) : Option (VX × VT × VH) → Option Int
  | some (.ret, a, H) => match resL P a H res with
    | some [.int .i64 x] => some x
    | _ => none
  | _ => none
def sameI : Option Int → Option Int → Bool
  | some a, some b => match decide (a = b), decide (0 ≤ a) with
    | true, true => decide (a ≤ 1000)
    | _, _ => false
  | _, _ => false
theorem sameI_eq {x y : Option Int} (h : sameI x y = true) : ∃ b, x = some b ∧ y = some b ∧ 0 ≤ b ∧ b ≤ 1000 := by
  cases x <;> cases y <;> simp only [sameI] at h <;> try (cases h; done)
  split at h
  · rename_i h1 h2
    have h1 := of_decide_eq_true h1
    subst h1
    exact ⟨_, rfl, rfl, of_decide_eq_true h2, of_decide_eq_true h⟩
  · cases h
theorem resI_some {P : Program} {res : List ResultVar} {o : Option (VX × VT × VH)} {x : Int} (h : resI P res o = some x) : ∃ a H, o = some (.ret, a, H) ∧ resL P a H res = some [.int .i64 x] := by
  unfold resI at h
  split at h
  · rename_i a H
    split at h
    · rename_i y hr
      simp only [Option.some.injEq] at h
      subst h
      exact ⟨a, H, rfl, hr⟩
    · cases h
  · cases h
/-- A function whose body is one run that returns a number. -/
theorem run_fn [Ext] {P : Program} {rc : CE} (hrc : CEok P (· = none) rc) {fn : Func} {c : Code} (hnt : fn.ntmps ≤ top) {w0 : World} {R : Rho → Prop} {E0 : Env} {a : VT} {x : Int} (h : resI P fn.results.toList (rc fn.ntmps c a ⟨E0, .lf, 0⟩) = some x)
    {act : Act} {w : World} (k : RS w0 R fn.ntmps a ⟨E0, .lf, 0⟩ act w) : c.wpIn (Fr none) 0 P (Ends P fn w0 (.int .i64 x)) act w := by
  obtain ⟨a', H', h1, h2⟩ := resI_some h
  refine wpIn_mono (RS.cs (x := .ret) (fun hnt w0 φ act w ht hs hn b hbs hd => hrc w0 fn.ntmps c _ _ _ _ _ h1 hnt none rfl φ act w ht hs hn b hbs hd) hnt (Nat.le_refl _) k) ?_
  rintro e act' w' ⟨rfl, _, k'⟩
  exact ⟨rfl, R, a', H', _, k', h2, fun φ v _ hv => by simpa only [VR] using hv⟩
def iniEq (a : VT) : List (Nat × IntKind × Nat × Nat) → Bool
  | [] => true
  | (t, k, _, _) :: l => match vvEq (tget a t) (.int k 0), Nat.blt t top with
    | true, true => iniEq a l
    | _, _ => false
theorem iniEq_get {a : VT} : ∀ {l : List (Nat × IntKind × Nat × Nat)}, iniEq a l = true → ∀ p ∈ l, p.1 < top ∧ tget a p.1 = .int p.2.1 0
  | [], _, p, hp => by cases hp
  | (t, k, i, j) :: l, h, p, hp => by
    simp only [iniEq] at h
    split at h
    · rename_i h1 h2
      rcases List.mem_cons.1 hp with rfl | hp
      · exact ⟨lt_of_blt h2, vvEq_eq _ _ h1⟩
      · exact iniEq_get h p hp
    · cases h
/-- The parts ahead of a loop come to its head. -/
def preB2 (rc : CE) (N : Nat) (s : Side) (c : Code) (k1 k2 : Nat) (a : VT) (E : Env) : Bool := match spineE rc s.nt k1 c a ⟨E, .lf, 0⟩ with
  | some (a₁, H₁) => match spineE rc s.nt k2 (seqL (dropSeq k1 c)) a₁ H₁ with
    | some (a₂, H₂) => match swB N s.nH a₂ H₂ s.a0 s.l with
      | true => iniEq a₂ s.ix
      | false => false
    | none => false
  | none => false
def shapeB (c : Code) (k1 k2 id : Nat) : Bool := match isSeq (dropSeq k1 c), isBlock id (dropSeq k2 (seqL (dropSeq k1 c))) with
  | true, true => isLoop (blockC (dropSeq k2 (seqL (dropSeq k1 c))))
  | _, _ => false
def loopAt (c : Code) (k1 k2 : Nat) : Code := loopC (blockC (dropSeq k2 (seqL (dropSeq k1 c))))
/-- Behind the last round. -/
def endB (P : Program) (rc : CE) (s : Side) (c : Code) (k1 id : Nat) (E : Env) (rG : VV) : Bool := match rc s.nt s.LB (putSp s.sp s.a0) ⟨E, s.l, s.nH⟩ with
  | some (.exit j, a, H) => match Nat.beq j id, rc s.nt (dropSeq (k1 + 1) c) a H with
    | true, some (.ret, a', H') => match resL P a' H' s.res with
      | some [r] => vvEq r rG
      | _ => false
    | _, _ => false
  | _ => false
theorem search_fn2 [Ext] {P : Program} {rc : CE} (hrc : CEok P (· = none) rc) {s : Side} {fn : Func} {c : Code} (hs : s.nt = fn.ntmps) (hres : s.res = fn.results.toList) (hnt : fn.ntmps ≤ top) {w0 : World} {rhoAt : Nat → Rho} {len : Nat} {EI : Nat → Env} {N : Nat} {good : Nat → Bool} {E0 E2 : Env} {a : VT} {k1 k2 id : Nat} {rG : VV} {vB vG : Value}
    (hsh : shapeB c k1 k2 id = true) (hLB : s.LB = loopAt c k1 k2) (hpre : preB2 rc N s c k1 k2 a E0 = true) (hend : endB P rc s c k1 id E2 rG = true) (hE2 : EI len = E2)
    (hix0 : ∀ p ∈ s.ix, (rhoAt 0).int p.2.2.1 = 0) (hblk0 : ∀ i, (EI i).blk = E0.blk) (hag : ∀ i, i < len → agree N (rhoAt i) (rhoAt (i + 1))) (hE : ∀ i, i ≤ len → ∀ φ : Phi, φ.ρ = rhoAt i → EnvOK (EI i) φ w0)
    (hout : ∀ i, i < len → s.out P rc N (EI i) = some (good i)) (hstep : ∀ i, i < len → ∀ p ∈ s.ix, (rhoAt (i + 1)).int p.2.2.1 = (rhoAt i).int p.2.2.2)
    (hvB : ∀ φ v, VR φ s.bad v → v = vB) (hvG : ∀ φ v, VR φ rG v → v = vG)
    {act : Act} {w : World} (k : RS w0 (· = rhoAt 0) fn.ntmps a ⟨E0, .lf, 0⟩ act w) : c.wpIn (Fr none) 0 P (Ends P fn w0 (if ∀ i, i < len → good i = true then vG else vB)) act w := by
  unfold shapeB at hsh
  split at hsh
  · rename_i g1 g2
    unfold preB2 at hpre
    split at hpre
    · rename_i a₁ H₁ e1
      split at hpre
      · rename_i a₂ H₂ e2
        split at hpre
        · rename_i e3
          unfold endB at hend
          split at hend
          · rename_i j a3 H3 e4
            split at hend
            · rename_i a4 H4 e5 e6
              split at hend
              · rename_i r e7
                have hj := Nat.eq_of_beq_eq_true e5
                subst hj
                have hr := vvEq_eq _ _ hend
                subst hr
                refine search_fn hrc hs hres hnt (hs ▸ e1) g1 (hs ▸ e2) g2 hsh hLB e3 ?_ hblk0 hag hE hout hstep (hE2 ▸ hs ▸ e4) (hs ▸ e6) (hres ▸ e7) hvB hvG k
                intro p hp
                obtain ⟨q1, q2⟩ := iniEq_get hpre p hp
                exact ⟨q1, 0, q2, hix0 p hp⟩
              · cases hend
            · cases hend
          · cases hend
        · cases hpre
      · cases hpre
    · cases hpre
  · cases hsh
theorem ivs_nil {f : Nat → Int} (h : ∀ i, -9223372036854775808 ≤ f i ∧ f i ≤ 9223372036854775807) : ∀ i, (ivAt [] i).1 ≤ f i ∧ f i ≤ (ivAt [] i).2 := h
theorem ivs_cons {a b : Int} {l : Ivs} {f : Nat → Int} (h0 : a ≤ f 0 ∧ f 0 ≤ b) (h : ∀ i, (ivAt l i).1 ≤ f (i + 1) ∧ f (i + 1) ≤ (ivAt l i).2) : ∀ i, (ivAt ((a, b) :: l) i).1 ≤ f i ∧ f i ≤ (ivAt ((a, b) :: l) i).2
  | 0 => h0
  | i + 1 => h i
theorem evN_rc [Ext] {P : Program} (hng : NoNG P) (hm : P.follows .mixedOrders = true) {kn : KN} (hK : KnOK P kn) (n : Nat) : CEok P (· = none) (evN P (drawRun P) kn n).1.1 :=
  (evN_sound hng (fun _ h => drawRun_sound hng hm h) hK n).1.2
end
end Go.Ev
