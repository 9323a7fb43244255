/-
  Chapter 25: a slot is emptied: what is held behind it.
-/
import Derived.Test.YticgadnmlbfmfaaTxL
namespace Go.Proofs.Yticgadnmlbfmfaa.cachePlays
open Go.Shelf Go.RowKit Go.Lib Go.Sort Go.Maps
def Ca.drop (K : Ca) (i : Int) : Ca := { K with sl := fun k => if k = i then none else K.sl k, tl := fun k => if k = i then none else K.tl k, dt := delB i K.dt }
def Ca.take (K : Ca) (i : Int) : Ca := if stat (K.at i).cd = true then (K.drop i).soilAll else K.drop i
/-- Both maps without a slot, and its bit. -/
theorem drop_fin {Z : Nat → Prop} {W : World} {cb sb tb : Nat} {K : Ca} {P : Program} (t83 : P.underlying 83 = some (.map 3 92)) (t84 : P.underlying 84 = some (.map 3 36)) (t3 : P.underlying 3 = some (.int .i64)) (h : CaAt Z W cb sb tb K) {i : Int} (ty : TypeId) {e0 e1 e2 e3 : Int} (hB : Bt e0 e1 e2 e3 (delB i K.dt)) :
    ∃ W1 W2, (Builtin.delete_ #[83, 3] ty #[.map (some sb), .int .i64 i]).run P W = .ok (.tuple #[]) W1 ∧ (Builtin.delete_ #[84, 3] ty #[.map (some tb), .int .i64 i]).run P W1 = .ok (.tuple #[]) W2 ∧ W1.heap[cb]? = W.heap[cb]? ∧ W2.heap[cb]? = W.heap[cb]? ∧ (∀ k, k ≠ sb → k ≠ tb → k < W.heap.size → W2.heap[k]? = W.heap[k]?) ∧
      ∀ W3, Gr W2 W3 → ∀ W4, W4 = ((((W3.setCell ⟨cb, 3, none⟩ (.int .u64 e0)).setCell ⟨cb, 4, none⟩ (.int .u64 e1)).setCell ⟨cb, 5, none⟩ (.int .u64 e2)).setCell ⟨cb, 6, none⟩ (.int .u64 e3)) → CaAt Z W4 cb sb tb (K.drop i) ∧ K3 cb sb tb W W4 := by
  obtain ⟨ca, cc, d0, d1, d2, d3, rs, c1, c2, c3, c4, c5⟩ := h.c
  obtain ⟨n, F, s1, s2⟩ := h.s
  obtain ⟨m, t1⟩ := h.t
  obtain ⟨l1, l2, l3⟩ := h.lt
  have ne := h.ne
  obtain ⟨W1, n', hd, s3, _, g1, z1⟩ := s1.del t83 t3 i ty
  have t1' : MapV W1 tb m _ := t1.keep (g1.block tb l3 (by simp; exact fun e => ne.2.2.1 e.symm))
  obtain ⟨W2, m', hd2, t2, _, g2, z2⟩ := t1'.del t84 t3 i ty
  have b1 : W1.heap[cb]? = W.heap[cb]? := g1.block cb l1 (by simp; exact ne.1)
  have b2 : W2.heap[cb]? = W.heap[cb]? := (g2.block cb (Nat.lt_of_lt_of_le l1 g1.size) (by simp; exact ne.2.1)).trans b1
  refine ⟨W1, W2, hd, hd2, b1, b2, fun k h1 h2 hk => (g2.block k (Nat.lt_of_lt_of_le hk g1.size) (by simp; exact h2)).trans (g1.block k hk (by simp; exact h1)), fun W3 g W4 e => ?_⟩
  subst e
  have c2' := blk_gr (b2.trans c1) g
  obtain ⟨g3, h3⟩ := ca_words c2' e0 e1 e2 e3
  have k1 : K3 cb sb tb W W1 := K3.grown g1 (fun b e => by cases e; exact .inr (.inl rfl))
  have k2 : K3 cb sb tb W1 W2 := K3.grown g2 (fun b e => by cases e; exact .inr (.inr (.inl rfl)))
  have k3 : K3 cb sb tb W2 W3 := K3.gr g
  have k4 := K3.grown (sb := sb) (tb := tb) g3 (fun b e => by cases e; exact .inl rfl)
  have kk := ((k1.trans k2).trans k3).trans k4
  have kz := kk.kz ne.2.2.2
  have e1' := g1.size
  have e2' := g2.size
  have e3' := Gr.le g
  have sS := (g3.block sb (by omega) (by simp; exact fun e => ne.1 e.symm)).trans (((gr_grown g).block sb (by omega) (by simp)).trans (g2.block sb (by omega) (by simp; exact ne.2.2.1)))
  have sT := (g3.block tb (by omega) (by simp; exact fun e => ne.2.1 e.symm)).trans ((gr_grown g).block tb (by omega) (by simp))
  refine ⟨⟨⟨ca, cc, e0, e1, e2, e3, rs, h3, hB, c3.keep kz, c4, fun i r x hr hx => (c5 i r x hr hx).keep kz⟩, ⟨n', _, s3.keep sS, fun k => ?_⟩, ⟨m', (t2.congr fun k => ?_).keep sT⟩, fun k hk => ?_, fun k hk => ?_, h.nc, ne, fun b hb => Nat.lt_of_lt_of_le (h.zl b hb) kk.size⟩, kk⟩
  · show HdV Z _ (if k = i then none else F k) (if k = i then none else K.sl k)
    split
    · trivial
    · exact (s2 k).keep kz
  · show _ = Option.map _ (if k = i then none else K.tl k)
    split <;> rfl
  · have hk : (if k = i then none else K.sl k).isSome = true := hk
    split at hk
    · cases hk
    · exact h.kr k hk
  · have hk : (if k = i then none else K.tl k).isSome = true := hk
    show (if k = i then none else K.sl k).isSome = true
    split at hk
    · cases hk
    · rename_i hne
      rw [if_neg hne]
      exact h.tr k hk
end Go.Proofs.Yticgadnmlbfmfaa.cachePlays
/-
  Chapter 25: Take, walked.
-/
namespace Go.Proofs.Yticgadnmlbfmfaa.cachePlays
open Go.Shelf Go.RowKit Go.Lib Go.Sort Go.Maps
set_option maxHeartbeats 8000000 in
set_option maxRecDepth 100000 in
theorem take_in {P : Program} {k30 k82 k89 k92 : Nat} {y30 y82 y89 y92 : List Value} (L : LayQ P k30 k82 k89 k92 y30 y82 y89 y92) (R : Fs P) (S : Sz k30 k82 k89 k92) (hy9 : y92.length = k92) (oy9 : ∀ v ∈ y92, v.oneCell' = true) (cD : DelC P) (C : PutC P) (f17 : P.funcs[17]? = some Try.f17) (e27 : ∀ args w, (callFunc 27 args).run P w = .ok (.enter 27 args) w) (e29 : ∀ args w, (callFunc 29 args).run P w = .ok (.enter 29 args) w) (e30' : ∀ args w, (callFunc 30 args).run P w = .ok (.enter 30 args) w) {Z : Nat → Prop} {w : World} {cb sb tb : Nat} {K : Ca} (h : CaAt Z w cb sb tb K) {i : Int} (hi : (K.sl i).isSome = true) :
    Calls P 17 #[.pointer (some ⟨cb, 0, none⟩), .int .i64 i] w fun e w' => e = .returned (.tuple #[]) ∧ CaAt Z w' cb sb tb (K.take i) ∧ K3 cb sb tb w w' := by
  have mixed := L.mixed; have t3 := L.t3; have a3 := L.a3; have z3 := L.z3; have v3 := L.v3; have qu3 := run_underlying L.t3; have t4 := L.t4; have a4 := L.a4; have z4 := L.z4; have qu4 := run_underlying L.t4
  have t24 := L.t24; have a24 := L.a24; have z24 := L.z24; have qu24 := run_underlying L.t24; have t28 := L.t28; have a28 := L.a28; have z28 := L.z28; have v28 := L.v28; have qu28 := run_underlying L.t28
  have t51 := L.t51; have a51 := L.a51; have z51 := L.z51; have v51 := L.v51; have qu51 := run_underlying L.t51
  have a83 := L.a83; have z83 := L.z83; have qu83 := run_underlying L.t83; have a84 := L.a84; have z84 := L.z84; have qu84 := run_underlying L.t84
  have qu30 := run_underlying L.t30; have a30 := L.a30; have z30 := L.z30; have qu82 := run_underlying L.t82; have a82 := L.a82; have z82 := L.z82; have qu92 := run_underlying L.t92; have a92 := L.a92; have z92 := L.z92; have v92 := L.v92
  have qu49 := run_underlying L.t49; have a49 := L.a49; have z49 := L.z49; have v49 := L.v49; have qu86 := run_underlying L.t86; have a86 := L.a86; have z86 := L.z86
  have qu36 := run_underlying L.t36; have a36 := L.a36; have z36 := L.z36; have v36 := L.v36; have qu53 := run_underlying L.t53; have a53 := L.a53; have z53 := L.z53; have v53 := L.v53
  have e30 := R.e30
  have n30 : ¬ k30 = 0 := by rw [S.s30]; decide
  have n82 : ¬ k82 = 0 := by rw [S.s82]; decide
  obtain ⟨ca, cc, d0, d1, d2, d3, rs, c1, c2, _⟩ := h.c
  obtain ⟨n, F, s1, s2⟩ := h.s
  have hr := h.kr i hi
  obtain ⟨ob, cr, e1, kh⟩ : ∃ ob cr, F i = some (.agg (ob ++ cr).toArray) ∧ HdR Z w ob cr (K.at i) := by
    have h := s2 i
    obtain ⟨hd, hh⟩ := Option.isSome_iff_exists.1 hi
    unfold Ca.at
    rw [hh] at h ⊢
    cases hf : F i with
    | none => rw [hf] at h; exact h.elim
    | some v =>
      rw [hf] at h
      obtain ⟨ob, cr, rfl, kh⟩ := h
      exact ⟨ob, cr, rfl, kh⟩
  have lk := s1.look_ok L.t83 L.t3 L.v92 i
  rw [e1] at lk
  simp only [Option.getD_some, Option.isSome_some] at lk
  have o9 : ∀ v ∈ ob ++ cr, v.oneCell' = true := fun v hv => by
    rcases List.mem_append.1 hv with h | h
    · exact kh.one v h
    · exact kh.c.one v h
  have hX : (ob ++ cr).length = k92 := by rw [List.length_append, kh.len, kh.c.len, S.s92]
  have hst : ∀ w', Kz Z w w' → Calls P 27 #[.agg (ob ++ cr).toArray] w' fun e w2 => e = .returned (.bool (stat (K.at i).cd)) ∧ Gr w' w2 := fun w' g => statics_calls L R S (kh.keep g)
  clear kh
  generalize ob ++ cr = X at lk o9 hX e1 hst
  have hl9 : X.length = y92.length := by rw [hX, hy9]
  have sA := hold_st P (hold_new w y92 92) X hl9 o9
  obtain ⟨⟨a0, a1, a2, a3, a4, a5, a6⟩, _⟩ := ca_cells c1
  have g0 : Gr w ((w.alloc (.cells y92.toArray 92)).setCells w.heap.size 0 X) := Gr.sets (w := w) (W := w) w.heap.size (Nat.le_refl _) X 0 ((Gr.refl w).alloc _)
  have b0 : ((w.alloc (.cells y92.toArray 92)).setCells w.heap.size 0 X).heap[w.heap.size]? = some (.cells X.toArray 92) := blk_put (blk_new w _) X hl9
  have A0 : Aside (CaAt Z ((w.alloc (.cells y92.toArray 92)).setCells w.heap.size 0 X) cb sb tb K) := h.gr g0
  have G0 : Aside (Gr w ((w.alloc (.cells y92.toArray 92)).setCells w.heap.size 0 X)) := g0
  have B0 : Aside _ := b0
  have C1 : Aside _ := blk_gr c1 g0
  have C2 : Aside _ := c2
  have HST : Aside (∀ w', Kz Z w w' → Calls P 27 #[.agg X.toArray] w' fun e w2 => e = .returned (.bool (stat (K.at i).cd)) ∧ Gr w' w2) := hst
  have HSA : Aside (∀ {w : World} {K : Ca}, CaAt Z w cb sb tb K → Calls P 29 #[.pointer (some ⟨cb, 0, none⟩)] w fun e w' => e = .returned (.tuple #[]) ∧ CaAt Z w' cb sb tb K.soilAll ∧ K3 cb sb tb w w') := fun h => C.sa h
  have HLT : Aside _ := h.lt
  clear h c1 c2 s1 s2 e1 hi g0 b0 hst
  go_enter f17, Try.ntmps17
  go_upto_region 3 with fail
  clear lk sA a0 a1 a2 a3 a4 a5 a6 o9
  obtain ⟨e0, f1, f2, f3, hB, hD⟩ := cD C2.out hr.1 hr.2
  simp only [encB4] at hD
  have HD : Aside _ := hD
  generalize (w.alloc (.cells y92.toArray 92)).setCells w.heap.size 0 X = V at A0 G0 B0 C1 ⊢
  obtain ⟨W1, W2, hd1, hd2, q1, q2, q3, fin⟩ := drop_fin L.t83 L.t84 L.t3 A0.out (i := i) 0 hB
  have FIN : Aside (∀ W3, Gr W2 W3 → ∀ W4, W4 = ((((W3.setCell ⟨cb, 3, none⟩ (.int .u64 e0)).setCell ⟨cb, 4, none⟩ (.int .u64 f1)).setCell ⟨cb, 5, none⟩ (.int .u64 f2)).setCell ⟨cb, 6, none⟩ (.int .u64 f3)) → CaAt Z W4 cb sb tb (K.drop i) ∧ K3 cb sb tb V W4) := fin
  have D2 : Aside _ := q2.trans C1.out
  obtain ⟨⟨a0, a1, a2, a3, a4, a5, a6⟩, _⟩ := ca_cells C1.out
  obtain ⟨⟨p0, p1, p2, p3, p4, p5, p6⟩, _⟩ := ca_cells (q1.trans C1.out)
  obtain ⟨⟨r0, r1, r2, r3, r4, r5, r6⟩, _⟩ := ca_cells (q2.trans C1.out)
  clear fin hB hD q1 q2
  go_upto_region 6 with (go_at_fn 30; refine (HD.out _).mono ?_; rintro e w3 ⟨rfl, hG⟩; obtain ⟨⟨x0, x1, x2, x3, x4, x5, x6⟩, ⟨y3, y4, y5, y6⟩⟩ := ca_cells (blk_gr D2.out hG); have O2 : Aside _ := FIN.out _ hG _ rfl; clear hG)
  clear a0 a1 a2 a3 a4 a5 a6 p0 p1 p2 p3 p4 p5 p6 r0 r1 r2 r3 r4 r5 r6 x0 x1 x2 x3 x4 x5 x6 y3 y4 y5 y6 hd1 hd2 q3
  generalize (((w3.setCell ⟨cb, 3, none⟩ (.int .u64 e0)).setCell ⟨cb, 4, none⟩ (.int .u64 f1)).setCell ⟨cb, 5, none⟩ (.int .u64 f2)).setCell ⟨cb, 6, none⟩ (.int .u64 f3) = W4 at O2 ⊢
  have c4 : CaAt Z W4 cb sb tb (K.drop i) := O2.out.1
  have k4 : K3 cb sb tb w W4 := (K3.gr G0.out).trans O2.out.2
  have b4 : W4.heap[w.heap.size]? = some (.cells X.toArray 92) := (O2.out.2.k _ (blk_lt B0.out) (by have := HLT.out; omega) (by have := HLT.out; omega) (by have := HLT.out; omega)).trans B0.out
  have h27 := HST.out W4 (k4.kz A0.out.ne.2.2.2)
  have l9 := hold_ld P (blk_hold b4) hX
  have C4 : Aside _ := c4
  have K4 : Aside _ := k4
  clear c4 k4 b4
  cases hs : stat (K.at i).cd with
  | false =>
    rw [hs] at h27
    have HS : Aside (stat (K.at i).cd = false) := hs
    clear hs
    go_wp2_with (go_at_fn 27; refine h27.mono ?_; rintro e w5 ⟨rfl, hG⟩; have HG : Aside _ := hG; clear hG)
    go_end0
    refine ⟨rfl, ?_, K4.out.trans (K3.gr HG.out)⟩
    rw [Ca.take, if_neg (by rw [HS.out]; decide)]
    exact C4.out.gr HG.out
  | true =>
    rw [hs] at h27
    have HS : Aside (stat (K.at i).cd = true) := hs
    clear hs
    go_wp2_with (first | (go_at_fn 27; refine h27.mono ?_; rintro e w5 ⟨rfl, hG⟩; have HG : Aside _ := hG; clear hG) | (go_at_fn 29; refine (HSA.out (C4.out.gr HG.out)).mono ?_; rintro e w6 ⟨rfl, c6, k6⟩; have C6 : Aside _ := c6; have K6 : Aside _ := k6; clear c6 k6))
    go_end0
    refine ⟨rfl, ?_, (K4.out.trans (K3.gr HG.out)).trans K6.out⟩
    rw [Ca.take, if_pos HS.out]
    exact C6.out
end Go.Proofs.Yticgadnmlbfmfaa.cachePlays
/-
  Chapter 25: Take, told.
-/
namespace Go.Proofs.Yticgadnmlbfmfaa.cachePlays
open Go.Shelf Go.RowKit Go.Lib Go.Sort Go.Maps
set_option maxHeartbeats 8000000 in
set_option maxRecDepth 100000 in
theorem take_none {P : Program} {k30 k82 k89 k92 : Nat} {y30 y82 y89 y92 : List Value} (L : LayQ P k30 k82 k89 k92 y30 y82 y89 y92) (R : Fs P) (S : Sz k30 k82 k89 k92) (hy9 : y92.length = k92) (oy9 : ∀ v ∈ y92, v.oneCell' = true) (f17 : P.funcs[17]? = some Try.f17) {Z : Nat → Prop} {w : World} {cb sb tb : Nat} {K : Ca} (h : CaAt Z w cb sb tb K) {i : Int} (hi : K.sl i = none) :
    Calls P 17 #[.pointer (some ⟨cb, 0, none⟩), .int .i64 i] w fun e w' => e = .returned (.tuple #[]) ∧ CaAt Z w' cb sb tb K ∧ K3 cb sb tb w w' := by
  have mixed := L.mixed; have t3 := L.t3; have a3 := L.a3; have z3 := L.z3; have v3 := L.v3; have qu3 := run_underlying L.t3; have t4 := L.t4; have a4 := L.a4; have z4 := L.z4; have qu4 := run_underlying L.t4
  have t24 := L.t24; have a24 := L.a24; have z24 := L.z24; have qu24 := run_underlying L.t24; have t28 := L.t28; have a28 := L.a28; have z28 := L.z28; have v28 := L.v28; have qu28 := run_underlying L.t28
  have t51 := L.t51; have a51 := L.a51; have z51 := L.z51; have v51 := L.v51; have qu51 := run_underlying L.t51
  have a83 := L.a83; have z83 := L.z83; have qu83 := run_underlying L.t83; have a84 := L.a84; have z84 := L.z84; have qu84 := run_underlying L.t84
  have qu30 := run_underlying L.t30; have a30 := L.a30; have z30 := L.z30; have qu82 := run_underlying L.t82; have a82 := L.a82; have z82 := L.z82; have qu92 := run_underlying L.t92; have a92 := L.a92; have z92 := L.z92; have v92 := L.v92
  have qu49 := run_underlying L.t49; have a49 := L.a49; have z49 := L.z49; have v49 := L.v49; have qu86 := run_underlying L.t86; have a86 := L.a86; have z86 := L.z86
  have qu36 := run_underlying L.t36; have a36 := L.a36; have z36 := L.z36; have v36 := L.v36; have qu53 := run_underlying L.t53; have a53 := L.a53; have z53 := L.z53; have v53 := L.v53
  have e30 := R.e30
  have n30 : ¬ k30 = 0 := by rw [S.s30]; decide
  have n82 : ¬ k82 = 0 := by rw [S.s82]; decide
  obtain ⟨ca, cc, d0, d1, d2, d3, rs, c1, c2, _⟩ := h.c
  obtain ⟨n, F, s1, s2⟩ := h.s
  have hF : F i = none := by
    have := s2 i
    rw [hi] at this
    cases hf : F i with
    | none => rfl
    | some v => rw [hf] at this; exact this.elim
  have lk := s1.look_ok L.t83 L.t3 L.v92 i
  rw [hF] at lk
  simp only [Option.getD_none, Option.isSome_none] at lk
  obtain ⟨⟨a0, a1, a2, a3, a4, a5, a6⟩, _⟩ := ca_cells c1
  have sA := hold_st P (hold_new w y92 92) y92 rfl oy9
  have g0 : Gr w ((w.alloc (.cells y92.toArray 92)).setCells w.heap.size 0 y92) := Gr.sets (w := w) (W := w) w.heap.size (Nat.le_refl _) y92 0 ((Gr.refl w).alloc _)
  have A0 : Aside (CaAt Z ((w.alloc (.cells y92.toArray 92)).setCells w.heap.size 0 y92) cb sb tb K) := h.gr g0
  have G0 : Aside (K3 cb sb tb w ((w.alloc (.cells y92.toArray 92)).setCells w.heap.size 0 y92)) := K3.gr g0
  clear h c1 c2 s1 s2 hi g0
  go_enter f17, Try.ntmps17
  go_wp2
  go_returns
  exact ⟨rfl, A0.out, G0.out⟩
def TakeOK (Z : Nat → Prop) (w : World) (cb sb tb : Nat) (K : Ca) (i : Int) (e : Ending) (w' : World) : Prop := e = .returned (.tuple #[]) ∧ CaAt Z w' cb sb tb (if (K.sl i).isSome = true then K.take i else K) ∧ K3 cb sb tb w w'
theorem take_calls {Z : Nat → Prop} {w : World} {cb sb tb : Nat} {K : Ca} (h : CaAt Z w cb sb tb K) (i : Int) : Calls Try.prog 17 #[.pointer (some ⟨cb, 0, none⟩), .int .i64 i] w (TakeOK Z w cb sb tb K i) := by
  have oy9 : ∀ v ∈ zv92, v.oneCell' = true := by
    intro v hv
    have e : zv92 = zv30 ++ zv82 := rfl
    rw [e] at hv
    rcases List.mem_append.1 hv with h | h
    · exact (zHdR Z w).one v h
    · exact (zHdR Z w).c.one v h
  cases hi : K.sl i with
  | none =>
    refine (take_none layQ fsT ⟨rfl, rfl, rfl, rfl⟩ rfl oy9 Try.func17 h hi).mono ?_
    rintro e w' ⟨rfl, hc, hk⟩
    exact ⟨rfl, by rw [hi]; exact hc, hk⟩
  | some x =>
    refine (take_in layQ fsT ⟨rfl, rfl, rfl, rfl⟩ rfl oy9 delT putT Try.func17 (enters_of Try.func27 (by kernel_rfl) rfl) (enters_of Try.func29 (by kernel_rfl) rfl) (enters_of Try.func30 (by kernel_rfl) rfl) h (by rw [hi]; rfl)).mono ?_
    rintro e w' ⟨rfl, hc, hk⟩
    exact ⟨rfl, by rw [hi]; exact hc, hk⟩
theorem drop_at (K : Ca) (i k : Int) : (K.drop i).at k = if k = i then zHd else K.at k := by
  show ((if k = i then none else K.sl k).getD zHd) = _
  split <;> rfl
theorem Inv.take {K : Ca} (h : Inv K) (i : Int) : Inv (K.take i) := by
  intro k v hv
  unfold Ca.take at hv ⊢
  split at hv
  · cases hv
  · rename_i hs
    rw [if_neg hs]
    have hs : stat (K.at i).cd = false := by simpa using hs
    have hv : (if k = i then none else K.tl k) = some v := hv
    split at hv
    · cases hv
    · rename_i hk
      obtain ⟨R, h1, h2⟩ := h k v hv
      have ha : ∀ b, (K.drop i).at b = if b = i then zHd else K.at b := drop_at K i
      have e : actE (K.drop i) k = actE K k := by
        rw [actE_all, actE_all]
        rw [ha k, if_neg hk]
        congr 1
        refine flat_congr _ fun b _ => ?_
        by_cases hb : b = i
        · subst hb
          rw [ha, if_pos rfl, statE_none _ _ _ (show (zHd.cd.abs.any fun x => x.kind == 4) = false from rfl), statE_none _ _ _ hs]
        · rw [ha b, if_neg hb]
          unfold statE
          simp only [ha, if_neg hb, if_neg hk]
      refine ⟨R, by rw [e]; exact h1, ?_⟩
      rw [ha, if_neg hk]
      exact h2
end Go.Proofs.Yticgadnmlbfmfaa.cachePlays
