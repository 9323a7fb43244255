/-
  Chapter 25: Of, where nothing is reckoned, walked.
-/
import Derived.Maps.OwnIn
import Derived.Test.YticgadnmlbfmfaaTxG
namespace Go.Proofs.Yticgadnmlbfmfaa.cachePlays
open Go.Shelf Go.RowKit Go.Lib Go.Sort Go.Maps
/-- A slot is dirty no more. -/
def Ca.clean (K : Ca) (i : Int) : Ca := { K with dt := delB i K.dt }
/-- Del over any program. -/
def DelC (P : Program) : Prop := ∀ {d0 d1 d2 d3 : Int} {dt : Int → Bool}, Bt d0 d1 d2 d3 dt → ∀ {i : Int}, 0 ≤ i → i < 256 → ∃ e0 e1 e2 e3, Bt e0 e1 e2 e3 (delB i dt) ∧ ∀ w, Calls P 30 #[.agg (encB4 d0 d1 d2 d3), .int .i64 i] w fun e w' => e = .returned (.agg (encB4 e0 e1 e2 e3)) ∧ Gr w w'
theorem delT : DelC Try.prog := fun h _ hi hi2 => del_calls h hi hi2
/-- What is held behind Of's first statements. -/
structure Oa (Z : Nat → Prop) (w : World) (cb sb tb : Nat) (K : Ca) (X : List Value) (W : World) : Prop where
  c : CaAt Z W cb sb tb K
  k : K3 cb sb tb w W
  r : W.heap[w.heap.size]? = some (.cells (encV (0, 0, 0)).toArray 36)
  h : W.heap[w.heap.size + 1]? = some (.cells X.toArray 92)
theorem Oa.gr {Z : Nat → Prop} {w W W' : World} {cb sb tb : Nat} {K : Ca} {X : List Value} (h : Oa Z w cb sb tb K X W) (g : Gr W W') : Oa Z w cb sb tb K X W' := ⟨h.c.gr g, h.k.then (gr_grown g) (fun b e => by cases e), blk_gr h.r g, blk_gr h.h g⟩
theorem two_box (w : World) (A B Y : List Value) (t u : Nat) (hY : Y.length = B.length) : Gr w (((w.alloc (.cells A.toArray t)).alloc (.cells B.toArray u)).setCells (w.heap.size + 1) 0 Y) ∧ (((w.alloc (.cells A.toArray t)).alloc (.cells B.toArray u)).setCells (w.heap.size + 1) 0 Y).heap[w.heap.size]? = some (.cells A.toArray t) ∧ (((w.alloc (.cells A.toArray t)).alloc (.cells B.toArray u)).setCells (w.heap.size + 1) 0 Y).heap[w.heap.size + 1]? = some (.cells Y.toArray u) := by
  obtain ⟨g, a, b⟩ := two_boxes w A B t u
  refine ⟨Gr.sets (W := w) _ (Nat.le_succ _) _ _ g, ?_, blk_put b Y hY⟩
  rw [sets_other (by omega)]
  exact a
/-- The words stored behind Del. -/
theorem Oa.words {Z : Nat → Prop} {w W : World} {cb sb tb : Nat} {K : Ca} {X : List Value} {i : Int} (h : Oa Z w cb sb tb K X W) (hw : cb < w.heap.size ∧ sb < w.heap.size ∧ tb < w.heap.size) {e0 e1 e2 e3 : Int} (hB : Bt e0 e1 e2 e3 (delB i K.dt)) : Oa Z w cb sb tb (K.clean i) X ((((W.setCell ⟨cb, 3, none⟩ (.int .u64 e0)).setCell ⟨cb, 4, none⟩ (.int .u64 e1)).setCell ⟨cb, 5, none⟩ (.int .u64 e2)).setCell ⟨cb, 6, none⟩ (.int .u64 e3)) := by
  obtain ⟨ca, cc, d0, d1, d2, d3, rs, c1, _⟩ := h.c.c
  obtain ⟨m, t1⟩ := h.c.t
  obtain ⟨g3, h3⟩ := ca_words c1 e0 e1 e2 e3
  obtain ⟨l1, l2, l3⟩ := h.c.lt
  have hs := h.k.size
  have hl4 := blk_lt h.r
  have hl6 := blk_lt h.h
  have n1 := h.c.ne.1
  have n2 := h.c.ne.2.1
  refine ⟨?_, h.k.then g3 (fun b e => by cases e; exact .inl rfl), (g3.block _ hl4 (by simp; omega)).trans h.r, (g3.block _ hl6 (by simp; omega)).trans h.h⟩
  refine h.c.upd (K3.grown g3 (fun b e => by cases e; exact .inl rfl)) (g3.block _ l2 (by simp; omega)) (m := m) (tl := K.tl) (dt := delB i K.dt) (t1.keep (g3.block _ l3 (by simp; omega))) h.c.tr ?_
  intro ca' cc' x0 x1 x2 x3 hx
  rw [c1] at hx
  injection hx with hx
  injection hx with hx
  have : (ca = ca' ∧ cc = cc') ∧ d0 = x0 ∧ d1 = x1 ∧ d2 = x2 ∧ d3 = x3 := by simpa using hx
  obtain ⟨⟨rfl, rfl⟩, _⟩ := this
  exact ⟨e0, e1, e2, e3, h3, hB⟩
theorem Oa.put {Z : Nat → Prop} {w W : World} {cb sb tb : Nat} {K : Ca} {X : List Value} (h : Oa Z w cb sb tb K X W) (hw : cb < w.heap.size ∧ sb < w.heap.size ∧ tb < w.heap.size) (hz : ∀ b, Z b → b < w.heap.size) (V : List Value) :
    CaAt Z (W.setCells w.heap.size 0 V) cb sb tb K ∧ K3 cb sb tb w (W.setCells w.heap.size 0 V) := by
  have g := grown_sets (w := W) w.heap.size V 0
  obtain ⟨l1, l2, l3⟩ := h.c.lt
  exact ⟨h.c.keep (Kz.grown g (fun b e => by cases e; intro hb; exact absurd (hz _ hb) (Nat.lt_irrefl _))) (g.block _ l1 (by simp; omega)) (g.block _ l2 (by simp; omega)) (g.block _ l3 (by simp; omega)), h.k.then g (fun b e => by cases e; exact .inr (.inr (.inr (Nat.le_refl _))))⟩
set_option maxHeartbeats 8000000 in
set_option maxRecDepth 100000 in
theorem of_none {P : Program} {k30 k82 k89 k92 : Nat} {y30 y82 y89 y92 : List Value} (L : LayQ P k30 k82 k89 k92 y30 y82 y89 y92) (R : Fs P) (S : Sz k30 k82 k89 k92) (hy9 : y92.length = k92) (oy9 : ∀ v ∈ y92, v.oneCell' = true) {Z : Nat → Prop} {w : World} {cb sb tb : Nat} {K : Ca} (h : CaAt Z w cb sb tb K) {i : Int} (hi : K.sl i = none) :
    Calls P 11 #[.pointer (some ⟨cb, 0, none⟩), .int .i64 i] w fun e w' => e = .returned (.tuple #[.agg (encV (0, 0, 0)).toArray, .bool false]) ∧ CaAt Z w' cb sb tb K ∧ K3 cb sb tb w w' := by
  have mixed := L.mixed; have t3 := L.t3; have a3 := L.a3; have z3 := L.z3; have v3 := L.v3; have qu3 := run_underlying L.t3; have t4 := L.t4; have a4 := L.a4; have z4 := L.z4; have qu4 := run_underlying L.t4
  have t24 := L.t24; have a24 := L.a24; have z24 := L.z24; have qu24 := run_underlying L.t24; have t28 := L.t28; have a28 := L.a28; have z28 := L.z28; have v28 := L.v28; have qu28 := run_underlying L.t28
  have t51 := L.t51; have a51 := L.a51; have z51 := L.z51; have v51 := L.v51; have qu51 := run_underlying L.t51
  have a83 := L.a83; have z83 := L.z83; have qu83 := run_underlying L.t83; have a84 := L.a84; have z84 := L.z84; have qu84 := run_underlying L.t84
  have qu30 := run_underlying L.t30; have a30 := L.a30; have z30 := L.z30; have qu82 := run_underlying L.t82; have a82 := L.a82; have z82 := L.z82; have qu92 := run_underlying L.t92; have a92 := L.a92; have z92 := L.z92; have v92 := L.v92
  have qu49 := run_underlying L.t49; have a49 := L.a49; have z49 := L.z49; have v49 := L.v49; have qu86 := run_underlying L.t86; have a86 := L.a86; have z86 := L.z86
  have qu36 := run_underlying L.t36; have a36 := L.a36; have z36 := L.z36; have v36 := L.v36; have qu53 := run_underlying L.t53; have a53 := L.a53; have z53 := L.z53; have v53 := L.v53
  have e30 := R.e30; have n30 : ¬ k30 = 0 := by rw [S.s30]; decide
  have n82 : ¬ k82 = 0 := by rw [S.s82]; decide
  obtain ⟨ca, cc, d0, d1, d2, d3, rs, c1, c2, _⟩ := h.c
  obtain ⟨n, F, s1, s2⟩ := h.s
  have hF : F i = none := by
    have := s2 i
    rw [hi] at this
    cases hf : F i with
    | none => rfl
    | some v => rw [hf] at this; exact this.elim
  have s1' : MapV (w.alloc (.cells #[.int .i64 0, .int .i64 0, .int .i64 0] 36)) sb n F := s1.keep ((gr_grown ((Gr.refl w).alloc _)).block sb s1.lt (by simp))
  have lk := s1'.look_ok L.t83 L.t3 L.v92 i
  rw [hF] at lk
  simp only [Option.getD_none, Option.isSome_none] at lk
  obtain ⟨⟨a0, a1, a2, _⟩, _⟩ := ca_cells (blk_old c1 (.cells #[.int .i64 0, .int .i64 0, .int .i64 0] 36))
  have sA := hold_st P (hold_new (w.alloc (.cells #[.int .i64 0, .int .i64 0, .int .i64 0] 36)) y92 92) y92 rfl oy9
  rw [World.size_alloc] at sA
  obtain ⟨g2, b4, b6⟩ := two_box w (encV (0, 0, 0)) y92 y92 36 92 rfl
  have fr := blk_hold b4
  obtain ⟨r0, f0⟩ := fr 0 (by simp [encV])
  obtain ⟨r1, f1⟩ := fr 1 (by simp [encV])
  obtain ⟨r2, f2⟩ := fr 2 (by simp [encV])
  have O1 : Aside (Oa Z w cb sb tb K y92 _) := ⟨h.gr g2, K3.gr g2, b4, b6⟩
  simp only [encV] at O1 r0 r1 r2 f0 f1 f2
  change World.cell? _ ⟨w.heap.size, 0, none⟩ = some (.int .i64 0) at r0
  change World.cell? _ ⟨w.heap.size, 1, none⟩ = some (.int .i64 0) at r1
  change World.cell? _ ⟨w.heap.size, 2, none⟩ = some (.int .i64 0) at r2
  change World.frozen? _ ⟨w.heap.size, 0, none⟩ = false at f0
  change World.frozen? _ ⟨w.heap.size, 1, none⟩ = false at f1
  change World.frozen? _ ⟨w.heap.size, 2, none⟩ = false at f2
  have HZ : Aside _ := h.zl
  have HL : Aside _ := h.lt
  clear h c1 c2 s1 s2 s1' g2 b4 b6 fr hi hF
  go_enter R.f11, Try.ntmps11
  go_wp2
  refine bodyPost_ret (v := .tuple #[.agg #[.int .i64 0, .int .i64 0, .int .i64 0], .bool false]) (by simp [results, go_sem, Try.results11, a36, z36, r0, r1, r2]) rfl ?_
  refine ⟨rfl, ?_⟩
  exact O1.out.put HL.out HZ.out [.int .i64 0, .int .i64 0, .int .i64 0]
set_option maxHeartbeats 8000000 in
set_option maxRecDepth 100000 in
theorem of_bare {P : Program} {k30 k82 k89 k92 : Nat} {y30 y82 y89 y92 : List Value} (L : LayQ P k30 k82 k89 k92 y30 y82 y89 y92) (R : Fs P) (S : Sz k30 k82 k89 k92) (hy9 : y92.length = k92) (oy9 : ∀ v ∈ y92, v.oneCell' = true) (cD : DelC P) {Z : Nat → Prop} {w : World} {cb sb tb : Nat} {K : Ca} (h : CaAt Z w cb sb tb K) {i : Int} (hi : (K.sl i).isSome = true) (hk : (K.at i).cd.kind ≠ 2) :
    Calls P 11 #[.pointer (some ⟨cb, 0, none⟩), .int .i64 i] w fun e w' => e = .returned (.tuple #[.agg (encV (0, 0, 0)).toArray, .bool false]) ∧ CaAt Z w' cb sb tb (K.clean i) ∧ K3 cb sb tb w w' := by
  have mixed := L.mixed; have t3 := L.t3; have a3 := L.a3; have z3 := L.z3; have v3 := L.v3; have qu3 := run_underlying L.t3; have t4 := L.t4; have a4 := L.a4; have z4 := L.z4; have qu4 := run_underlying L.t4
  have t24 := L.t24; have a24 := L.a24; have z24 := L.z24; have qu24 := run_underlying L.t24; have t28 := L.t28; have a28 := L.a28; have z28 := L.z28; have v28 := L.v28; have qu28 := run_underlying L.t28
  have t51 := L.t51; have a51 := L.a51; have z51 := L.z51; have v51 := L.v51; have qu51 := run_underlying L.t51
  have a83 := L.a83; have z83 := L.z83; have qu83 := run_underlying L.t83; have a84 := L.a84; have z84 := L.z84; have qu84 := run_underlying L.t84
  have qu30 := run_underlying L.t30; have a30 := L.a30; have z30 := L.z30; have qu82 := run_underlying L.t82; have a82 := L.a82; have z82 := L.z82; have qu92 := run_underlying L.t92; have a92 := L.a92; have z92 := L.z92; have v92 := L.v92
  have qu49 := run_underlying L.t49; have a49 := L.a49; have z49 := L.z49; have v49 := L.v49; have qu86 := run_underlying L.t86; have a86 := L.a86; have z86 := L.z86
  have qu36 := run_underlying L.t36; have a36 := L.a36; have z36 := L.z36; have v36 := L.v36; have qu53 := run_underlying L.t53; have a53 := L.a53; have z53 := L.z53; have v53 := L.v53
  have e30 := R.e30; have n30 : ¬ k30 = 0 := by rw [S.s30]; decide
  have n82 : ¬ k82 = 0 := by rw [S.s82]; decide
  obtain ⟨ca, cc, d0, d1, d2, d3, rs, c1, c2, _⟩ := h.c
  obtain ⟨n, F, s1, s2⟩ := h.s
  have hr := h.kr i hi
  obtain ⟨ob, cr, e1, kh⟩ : ∃ ob cr, F i = some (.agg (ob ++ cr).toArray) ∧ HdR Z w ob cr (K.at i) := by
    have h := s2 i
    obtain ⟨hd, hh⟩ := Option.isSome_iff_exists.1 hi
    unfold Ca.at
    rw [hh] at h ⊢
    cases hf : F i with
    | none => rw [hf] at h; exact h.elim
    | some v =>
      rw [hf] at h
      obtain ⟨ob, cr, rfl, kh⟩ := h
      exact ⟨ob, cr, rfl, kh⟩
  have s1' : MapV (w.alloc (.cells #[.int .i64 0, .int .i64 0, .int .i64 0] 36)) sb n F := s1.keep ((gr_grown ((Gr.refl w).alloc _)).block sb s1.lt (by simp))
  have lk := s1'.look_ok L.t83 L.t3 L.v92 i
  rw [e1] at lk
  simp only [Option.getD_some, Option.isSome_some] at lk
  have o9 : ∀ v ∈ ob ++ cr, v.oneCell' = true := fun v hv => by
    rcases List.mem_append.1 hv with h | h
    · exact kh.one v h
    · exact kh.c.one v h
  have hX : (ob ++ cr).length = k92 := by rw [List.length_append, kh.len, kh.c.len, S.s92]
  have xr : ∀ j v, cr[j]? = some v → (ob ++ cr)[14 + j]? = some v := fun j v hj => by
    rw [List.getElem?_append_right (by rw [kh.len]; omega), kh.len, Nat.add_sub_cancel_left]
    exact hj
  have x15 := xr 1 _ kh.c.q1
  have x21 := xr 7 _ kh.c.q7
  have x22 := xr 8 _ kh.c.q8
  have x23 := xr 9 _ kh.c.q9
  clear kh xr
  generalize ob ++ cr = X at lk o9 hX e1 x15 x21 x22 x23
  have hl9 : X.length = y92.length := by rw [hX, hy9]
  have sA := hold_st P (hold_new (w.alloc (.cells #[.int .i64 0, .int .i64 0, .int .i64 0] 36)) y92 92) X hl9 o9
  rw [World.size_alloc] at sA
  obtain ⟨⟨a0, a1, a2, _⟩, _⟩ := ca_cells (blk_old c1 (.cells #[.int .i64 0, .int .i64 0, .int .i64 0] 36))
  obtain ⟨g2, b4, b6⟩ := two_box w (encV (0, 0, 0)) y92 X 36 92 hl9
  have O1 : Aside (Oa Z w cb sb tb K X _) := ⟨h.gr g2, K3.gr g2, b4, b6⟩
  obtain ⟨⟨p0, p1, p2, p3, p4, p5, p6⟩, _⟩ := ca_cells (blk_gr c1 g2)
  simp only [encV] at O1 p0 p1 p2 p3 p4 p5 p6
  obtain ⟨e0, e1', e2, e3, hB, hD⟩ := cD c2 hr.1 hr.2
  simp only [encB4] at hD
  have HD : Aside _ := hD
  have HB : Aside _ := hB
  have HZ : Aside _ := h.zl
  have HL : Aside _ := h.lt
  have C1 : Aside _ := blk_gr c1 g2
  have hi2 := hi
  simp only [encV] at C1
  have X15 : Aside _ := x15
  have X21 : Aside _ := x21
  have X22 : Aside _ := x22
  have X23 : Aside _ := x23
  clear h c1 c2 s1 s2 s1' g2 b4 b6 e1 hi hl9 o9 hD hB hr x15 x21 x22 x23
  have HK : Aside _ := hk
  clear hk
  go_enter R.f11, Try.ntmps11
  go_upto_region 7 with (first | (go_at_fn 30; refine (HD.out _).mono ?_; rintro e w2 ⟨rfl, hG⟩; obtain ⟨⟨q0, q1, q2, q3, q4, q5, q6⟩, ⟨f3, f4, f5, f6⟩⟩ := ca_cells (blk_gr C1.out hG); have O2 : Aside _ := (O1.out.gr hG).words HL.out HB.out; clear hG))
  generalize (((w2.setCell ⟨cb, 3, none⟩ (.int .u64 e0)).setCell ⟨cb, 4, none⟩ (.int .u64 e1')).setCell ⟨cb, 5, none⟩ (.int .u64 e2)).setCell ⟨cb, 6, none⟩ (.int .u64 e3) = V at O2 ⊢
  have c15 := hold_cell (blk_hold O2.out.h) X15.out
  clear q0 q1 q2 q3 q4 q5 q6 f3 f4 f5 f6 a0 a1 a2 p0 p1 p2 p3 p4 p5 p6 lk sA
  have fr := blk_hold O2.out.r
  obtain ⟨r0, f0⟩ := fr 0 (by simp [encV])
  obtain ⟨r1, f1⟩ := fr 1 (by simp [encV])
  obtain ⟨r2, f2⟩ := fr 2 (by simp [encV])
  change World.cell? _ ⟨w.heap.size, 0, none⟩ = some (.int .i64 0) at r0
  change World.cell? _ ⟨w.heap.size, 1, none⟩ = some (.int .i64 0) at r1
  change World.cell? _ ⟨w.heap.size, 2, none⟩ = some (.int .i64 0) at r2
  change World.frozen? _ ⟨w.heap.size, 0, none⟩ = false at f0
  change World.frozen? _ ⟨w.heap.size, 1, none⟩ = false at f1
  change World.frozen? _ ⟨w.heap.size, 2, none⟩ = false at f2
  clear fr
  have nk : ((K.at i).cd.kind != 2) = true := by simpa using HK.out
  go_wp2
  refine bodyPost_ret (v := .tuple #[.agg #[.int .i64 0, .int .i64 0, .int .i64 0], .bool false]) (by simp [results, go_sem, Try.results11, a36, z36, r0, r1, r2]) rfl ?_
  refine ⟨rfl, ?_⟩
  exact O2.out.put HL.out HZ.out [.int .i64 0, .int .i64 0, .int .i64 0]
set_option maxHeartbeats 8000000 in
set_option maxRecDepth 100000 in
theorem of_told {P : Program} {k30 k82 k89 k92 : Nat} {y30 y82 y89 y92 : List Value} (L : LayQ P k30 k82 k89 k92 y30 y82 y89 y92) (R : Fs P) (S : Sz k30 k82 k89 k92) (hy9 : y92.length = k92) (oy9 : ∀ v ∈ y92, v.oneCell' = true) (cD : DelC P) {Z : Nat → Prop} {w : World} {cb sb tb : Nat} {K : Ca} (h : CaAt Z w cb sb tb K) {i : Int} (hi : (K.sl i).isSome = true) (hk : (K.at i).cd.kind = 2) {v : Int × Int × Int} (hv : K.tl i = some v) :
    Calls P 11 #[.pointer (some ⟨cb, 0, none⟩), .int .i64 i] w fun e w' => e = .returned (.tuple #[.agg (encV v).toArray, .bool true]) ∧ CaAt Z w' cb sb tb (K.clean i) ∧ K3 cb sb tb w w' := by
  have mixed := L.mixed; have t3 := L.t3; have a3 := L.a3; have z3 := L.z3; have v3 := L.v3; have qu3 := run_underlying L.t3; have t4 := L.t4; have a4 := L.a4; have z4 := L.z4; have qu4 := run_underlying L.t4
  have t24 := L.t24; have a24 := L.a24; have z24 := L.z24; have qu24 := run_underlying L.t24; have t28 := L.t28; have a28 := L.a28; have z28 := L.z28; have v28 := L.v28; have qu28 := run_underlying L.t28
  have t51 := L.t51; have a51 := L.a51; have z51 := L.z51; have v51 := L.v51; have qu51 := run_underlying L.t51
  have a83 := L.a83; have z83 := L.z83; have qu83 := run_underlying L.t83; have a84 := L.a84; have z84 := L.z84; have qu84 := run_underlying L.t84
  have qu30 := run_underlying L.t30; have a30 := L.a30; have z30 := L.z30; have qu82 := run_underlying L.t82; have a82 := L.a82; have z82 := L.z82; have qu92 := run_underlying L.t92; have a92 := L.a92; have z92 := L.z92; have v92 := L.v92
  have qu49 := run_underlying L.t49; have a49 := L.a49; have z49 := L.z49; have v49 := L.v49; have qu86 := run_underlying L.t86; have a86 := L.a86; have z86 := L.z86
  have qu36 := run_underlying L.t36; have a36 := L.a36; have z36 := L.z36; have v36 := L.v36; have qu53 := run_underlying L.t53; have a53 := L.a53; have z53 := L.z53; have v53 := L.v53
  have e30 := R.e30; have n30 : ¬ k30 = 0 := by rw [S.s30]; decide
  have n82 : ¬ k82 = 0 := by rw [S.s82]; decide
  obtain ⟨ca, cc, d0, d1, d2, d3, rs, c1, c2, _⟩ := h.c
  obtain ⟨n, F, s1, s2⟩ := h.s
  have hr := h.kr i hi
  obtain ⟨ob, cr, e1, kh⟩ : ∃ ob cr, F i = some (.agg (ob ++ cr).toArray) ∧ HdR Z w ob cr (K.at i) := by
    have h := s2 i
    obtain ⟨hd, hh⟩ := Option.isSome_iff_exists.1 hi
    unfold Ca.at
    rw [hh] at h ⊢
    cases hf : F i with
    | none => rw [hf] at h; exact h.elim
    | some v =>
      rw [hf] at h
      obtain ⟨ob, cr, rfl, kh⟩ := h
      exact ⟨ob, cr, rfl, kh⟩
  have s1' : MapV (w.alloc (.cells #[.int .i64 0, .int .i64 0, .int .i64 0] 36)) sb n F := s1.keep ((gr_grown ((Gr.refl w).alloc _)).block sb s1.lt (by simp))
  have lk := s1'.look_ok L.t83 L.t3 L.v92 i
  rw [e1] at lk
  simp only [Option.getD_some, Option.isSome_some] at lk
  have o9 : ∀ v ∈ ob ++ cr, v.oneCell' = true := fun v hv => by
    rcases List.mem_append.1 hv with h | h
    · exact kh.one v h
    · exact kh.c.one v h
  have hX : (ob ++ cr).length = k92 := by rw [List.length_append, kh.len, kh.c.len, S.s92]
  have xr : ∀ j v, cr[j]? = some v → (ob ++ cr)[14 + j]? = some v := fun j v hj => by
    rw [List.getElem?_append_right (by rw [kh.len]; omega), kh.len, Nat.add_sub_cancel_left]
    exact hj
  have x15 := xr 1 _ kh.c.q1
  have x21 := xr 7 _ kh.c.q7
  have x22 := xr 8 _ kh.c.q8
  have x23 := xr 9 _ kh.c.q9
  clear kh xr
  generalize ob ++ cr = X at lk o9 hX e1 x15 x21 x22 x23
  have hl9 : X.length = y92.length := by rw [hX, hy9]
  have sA := hold_st P (hold_new (w.alloc (.cells #[.int .i64 0, .int .i64 0, .int .i64 0] 36)) y92 92) X hl9 o9
  rw [World.size_alloc] at sA
  obtain ⟨⟨a0, a1, a2, _⟩, _⟩ := ca_cells (blk_old c1 (.cells #[.int .i64 0, .int .i64 0, .int .i64 0] 36))
  obtain ⟨g2, b4, b6⟩ := two_box w (encV (0, 0, 0)) y92 X 36 92 hl9
  have O1 : Aside (Oa Z w cb sb tb K X _) := ⟨h.gr g2, K3.gr g2, b4, b6⟩
  obtain ⟨⟨p0, p1, p2, p3, p4, p5, p6⟩, _⟩ := ca_cells (blk_gr c1 g2)
  simp only [encV] at O1 p0 p1 p2 p3 p4 p5 p6
  obtain ⟨e0, e1', e2, e3, hB, hD⟩ := cD c2 hr.1 hr.2
  simp only [encB4] at hD
  have HD : Aside _ := hD
  have HB : Aside _ := hB
  have HZ : Aside _ := h.zl
  have HL : Aside _ := h.lt
  have C1 : Aside _ := blk_gr c1 g2
  have hi2 := hi
  simp only [encV] at C1
  have X15 : Aside _ := x15
  have X21 : Aside _ := x21
  have X22 : Aside _ := x22
  have X23 : Aside _ := x23
  clear h c1 c2 s1 s2 s1' g2 b4 b6 e1 hi hl9 o9 hD hB hr x15 x21 x22 x23
  have HK : Aside _ := hk
  clear hk
  go_enter R.f11, Try.ntmps11
  go_upto_region 7 with (first | (go_at_fn 30; refine (HD.out _).mono ?_; rintro e w2 ⟨rfl, hG⟩; obtain ⟨⟨q0, q1, q2, q3, q4, q5, q6⟩, ⟨f3, f4, f5, f6⟩⟩ := ca_cells (blk_gr C1.out hG); have O2 : Aside _ := (O1.out.gr hG).words HL.out HB.out; clear hG))
  generalize (((w2.setCell ⟨cb, 3, none⟩ (.int .u64 e0)).setCell ⟨cb, 4, none⟩ (.int .u64 e1')).setCell ⟨cb, 5, none⟩ (.int .u64 e2)).setCell ⟨cb, 6, none⟩ (.int .u64 e3) = V at O2 ⊢
  have c15 := hold_cell (blk_hold O2.out.h) X15.out
  clear q0 q1 q2 q3 q4 q5 q6 f3 f4 f5 f6 a0 a1 a2 p0 p1 p2 p3 p4 p5 p6 lk sA
  have nk : ((K.at i).cd.kind != 2) = false := by simpa using HK.out
  obtain ⟨m, t1⟩ := O2.out.c.t
  have lt := t1.look_ok L.t84 L.t3 L.v36 i
  simp only [show (K.clean i).tl i = some v from hv, Option.map_some, Option.getD_some, Option.isSome_some] at lt
  obtain ⟨ca, cc, x0, x1, x2, x3, rs, y1, _⟩ := O2.out.c.c
  obtain ⟨⟨q0, q1, q2, _⟩, _⟩ := ca_cells y1
  clear y1 t1 hv
  obtain ⟨v0, v1, v2⟩ := v
  simp only [encV] at lt
  have O3 : Aside (Oa Z w cb sb tb (K.clean i) X (V.alloc (.cells #[.int .i64 v0, .int .i64 v1, .int .i64 v2] 36))) := O2.out.gr ((Gr.refl _).alloc _)
  have fr := blk_hold O3.out.r
  obtain ⟨r0, f0⟩ := fr 0 (by simp [encV])
  obtain ⟨r1, f1⟩ := fr 1 (by simp [encV])
  obtain ⟨r2, f2⟩ := fr 2 (by simp [encV])
  change World.cell? _ ⟨w.heap.size, 0, none⟩ = some (.int .i64 0) at r0
  change World.cell? _ ⟨w.heap.size, 1, none⟩ = some (.int .i64 0) at r1
  change World.cell? _ ⟨w.heap.size, 2, none⟩ = some (.int .i64 0) at r2
  change World.frozen? _ ⟨w.heap.size, 0, none⟩ = false at f0
  change World.frozen? _ ⟨w.heap.size, 1, none⟩ = false at f1
  change World.frozen? _ ⟨w.heap.size, 2, none⟩ = false at f2
  clear fr
  go_wp2
  refine bodyPost_ret (v := .tuple #[.agg #[.int .i64 v0, .int .i64 v1, .int .i64 v2], .bool true]) (by simp [results, go_sem, Try.results11, a36, z36, r0, r1, r2]) rfl ?_
  refine ⟨rfl, ?_⟩
  exact O3.out.put HL.out HZ.out [.int .i64 v0, .int .i64 v1, .int .i64 v2]
end Go.Proofs.Yticgadnmlbfmfaa.cachePlays
/-
  Chapter 25: what acts, sorted and folded: the parts of Of.
-/
namespace Go.Proofs.Yticgadnmlbfmfaa.cachePlays
open Go.Shelf Go.RowKit Go.Lib Go.Sort Go.Maps
attribute [local go_sem] Oper.semAt_some
theorem grow_id (w : World) (r : Option Nat) : w.grownBy w r := ⟨rfl, rfl, rfl, Nat.le_refl _, fun _ _ _ => rfl⟩
theorem flat_at {α : Type} {f : α → List Value} {k : Nat} (hf : ∀ x, (f x).length = k) : ∀ (m : List α) (i j : Nat) (hi : i < m.length), j < k → (m.flatMap f)[i * k + j]? = (f m[i])[j]?
  | [], i, j, hi, _ => by simp at hi
  | x :: m, 0, j, hi, hj => by
    rw [List.flatMap_cons, Nat.zero_mul, Nat.zero_add, List.getElem?_append_left (by rw [hf]; exact hj)]
    rfl
  | x :: m, i + 1, j, hi, hj => by
    rw [List.flatMap_cons, List.getElem?_append_right (by rw [hf, Nat.succ_mul]; omega), hf, show (i + 1) * k + j - k = i * k + j by rw [Nat.succ_mul]; omega]
    exact flat_at hf m i j (by simpa using hi) hj
theorem flat_len {α : Type} {f : α → List Value} {k : Nat} (hf : ∀ x, (f x).length = k) : ∀ (m : List α), (m.flatMap f).length = m.length * k
  | [] => by simp
  | x :: m => by rw [List.flatMap_cons, List.length_append, hf, flat_len hf m, List.length_cons, Nat.succ_mul]; omega
section
variable {α : Type} [Inhabited α] {enc : α → List Value} {k : Nat}
theorem flatK_list (hk : ∀ x, (enc x).length = k) (hk0 : 0 < k) (l : List α) : (flatK enc k l.toArray).toList = l.flatMap enc := by
  apply List.ext_getElem?
  intro t
  have hl := flat_len hk l
  rcases Nat.lt_or_ge t (l.length * k) with h | h
  · have hd : t / k < l.length := (Nat.div_lt_iff_lt_mul hk0).2 h
    have hm := Nat.mod_lt t hk0
    have e := flat_at hk l (t / k) (t % k) hd hm
    have ej : t / k * k + t % k = t := by rw [Nat.mul_comm]; exact Nat.div_add_mod t k
    rw [ej] at e
    rw [e]
    have hs : t < (flatK enc k l.toArray).size := by simpa using h
    have g := get_flatK enc k l.toArray t (by simpa using h)
    rw [getElem!_pos _ t hs] at g
    rw [Array.getElem?_toList, Array.getElem?_eq_getElem hs, g]
    have e2 : l.toArray[t / k]! = l[t / k] := by simp [hd]
    rw [e2, getElem!_pos _ _ (by rw [hk]; exact hm), List.getElem?_eq_getElem (by rw [hk]; exact hm)]
  · rw [List.getElem?_eq_none (by simpa using h), List.getElem?_eq_none (by rw [hl]; exact h)]
theorem holds_own (hk : ∀ x, (enc x).length = k) (hk0 : 0 < k) {W : World} {base e g c : Nat} {l : List α} (h : W.ownsRow base e k (.slice (some ⟨g, 0, none⟩) l.length c) l.length (l.flatMap enc)) : HoldsK enc k W g 0 l.toArray := fun j hj => by
  have hj' : j < l.length * k := by simpa using hj
  rw [Nat.zero_add]
  refine ⟨(h.cellAt j hj').trans ?_, h.frozenAt j⟩
  rw [← flatK_list hk hk0 l, Array.getElem?_toList, Array.getElem?_eq_getElem hj, getElem!_pos _ j hj]
  rfl
theorem grown_sortK {w W : World} {g : Nat} {d : Array α} (h : SWK enc k w g 0 d W) : w.grownBy W (some g) := by
  obtain ⟨n, os, rfl⟩ := h
  refine ⟨rfl, rfl, rfl, by simp [sortWorldK, putRowK, putRow, mapBlock, Sort.ahead, grow], fun j hj hne => ?_⟩
  unfold sortWorldK
  rw [heap_grow_old _ _ (by simpa [putRowK, putRow, mapBlock, Sort.ahead] using hj)]
  have : g ≠ j := fun e => hne (by rw [e])
  simp [putRowK, putRow, mapBlock, Sort.ahead, Array.getElem?_modify, this]
theorem own_sortK (hk : ∀ x, (enc x).length = k) (hk0 : 0 < k) {w W : World} {base e g c : Nat} {l l' : List α} (hl : l'.length = l.length) (h : w.ownsRow base e k (.slice (some ⟨g, 0, none⟩) l.length c) l.length (l.flatMap enc)) (hW : SWK enc k w g 0 l'.toArray W) : W.ownsRow base e k (.slice (some ⟨g, 0, none⟩) l.length c) l.length (l'.flatMap enc) := by
  obtain ⟨n, os, rfl⟩ := hW
  rcases h.2 with ⟨e0, _⟩ | ⟨g', cap', cur, e0, hb, hg, hn, hm, hs, ht⟩
  · cases e0
  · injection e0 with e1 _ e3
    injection e1 with e1
    injection e1 with e1
    subst e1; subst e3
    have hgl : g < w.heap.size := (Array.getElem?_eq_some_iff.1 hg).1
    have hF : (flatK enc k l'.toArray).size = l.length * k := by simp [hl]
    have hnk : l.length * k ≤ cur.size := by rw [hs]; exact Nat.mul_le_mul_right k hn
    refine ⟨by rw [flat_len hk, hl], .inr ⟨g, c, putCells id 0 (flatK enc k l'.toArray) cur, rfl, hb, ?_, hn, hm, by simpa [putCells] using hs, ?_⟩⟩
    · unfold sortWorldK
      rw [heap_grow_old _ _ (by simpa [putRowK, putRow, mapBlock, Sort.ahead] using hgl)]
      simp [putRowK, putRow, mapBlock, Sort.ahead, Array.getElem?_modify, hg, onCells]
    · rw [← flatK_list hk hk0 l']
      apply List.ext_getElem?
      intro j
      by_cases hj : j < l.length * k
      · have hjf : j < (flatK enc k l'.toArray).size := by rw [hF]; exact hj
        rw [List.getElem?_take_of_lt hj, Array.getElem?_toList, Array.getElem?_toList, Array.getElem?_eq_getElem hjf]
        simp only [putCells, Array.getElem?_mapIdx, Array.getElem?_eq_getElem (show j < cur.size by omega), Option.map_some]
        rw [if_pos (by omega), Nat.sub_zero, getElem!_pos _ j hjf]
        rfl
      · rw [List.getElem?_take_eq_none (by omega), List.getElem?_eq_none (by rw [Array.length_toList, hF]; omega)]
end
theorem flatE_flat (l : List Ef) : flatE l = l.flatMap encE := rfl
/-- A list of effects of one's own, as a slice. -/
theorem own_lit {W : World} {base : Nat} {v : Value} {l : List Ef} (h : W.ownsRow base 49 4 v l.length (flatE l)) : ∃ a c, v = .slice a l.length c ∧ (l = [] ∨ ∃ g, a = some ⟨g, 0, none⟩ ∧ base ≤ g ∧ g < W.heap.size ∧ HoldsK encE 4 W g 0 l.toArray) := by
  rcases h.2 with ⟨rfl, hz⟩ | ⟨g, cap, cur, rfl, hb, hg, hc, _⟩
  · exact ⟨none, 0, by rw [hz], .inl (List.eq_nil_of_length_eq_zero hz)⟩
  · obtain ⟨_, _, h3, h4, h5⟩ := own_holds h
    exact ⟨_, cap, rfl, .inr ⟨g, rfl, h5, h4, h3⟩⟩
/-- Sorted, stably. -/
structure IsS (l R : List Ef) : Prop where
  st : Stb (ltOf cmpC) l R
  so : Srt (ltOf cmpC) R
  ln : R.length = l.length
theorem IsS.uniq {l R T : List Ef} (h : IsS l R) (k : IsS l T) : R = T := uniq_stb (fun x => cmpC_swo.1 x) h.so k.so (h.st.symm.trans k.st)
theorem sort_own {W : World} {base : Nat} {v : Value} {l : List Ef} (h : W.ownsRow base 49 4 v l.length (flatE l)) (hl : l.length < 2305843009213693952) :
    Calls Try.prog 32 #[v, .func (.func 33) #[] #[]] W fun e w' => e = .returned (.tuple #[]) ∧ ∃ R, IsS l R ∧ w'.ownsRow base 49 4 v R.length (flatE R) ∧ W.grownBy w' v.ownBlock := by
  rcases h.2 with ⟨rfl, hz⟩ | ⟨g, cap, cur, rfl, hb, hg, hc, _⟩
  · obtain rfl := List.eq_nil_of_length_eq_zero hz
    refine (sorts_none none 0 W).mono ?_
    rintro e w' ⟨rfl, hw⟩
    obtain rfl := hw.symm
    exact ⟨rfl, [], ⟨.refl _, .nil, rfl⟩, h, grow_id _ _⟩
  · obtain ⟨_, _, hH, hlt, _⟩ := own_holds h
    have hc := sorts_calls g 0 cap l.toArray W hH hlt (by simpa using hl)
    rw [List.size_toArray] at hc
    refine hc.mono ?_
    rintro e w' ⟨rfl, d', h1, h2, h3⟩
    have hlen : d'.toList.length = l.length := by rw [Array.length_toList, h1.sz, List.size_toArray]
    have hst := h1.st
    have e2 : seg d' 0 l.length = d'.toList := by
      have := seg_all d'
      rw [h1.sz, List.size_toArray] at this
      exact this
    have e3 : seg l.toArray 0 l.length = l := by
      have := seg_all l.toArray
      rw [List.size_toArray] at this
      exact this
    rw [e2, e3] at hst
    have hso := seg_srt h2
    rw [e2] at hso
    refine ⟨rfl, d'.toList, ⟨hst, hso, hlen⟩, ?_, grown_sortK h3⟩
    have o2 := own_sortK encE_len (by decide) (l' := d'.toList) hlen h h3
    rw [hlen]
    exact o2
theorem fold_own (v : Int × Int × Int) {R : List Ef} {a : Option Addr} {c base : Nat} {w : World} (h : w.ownsRow base 49 4 (.slice a R.length c) R.length (flatE R)) (hl : R.length ≤ 1000000) :
    Calls Try.prog 37 #[.agg (encV v).toArray, .slice a R.length c] w fun e w' => e = .returned (.agg (encV (foldE R v)).toArray) ∧ Below w.heap.size w w' := by
  obtain ⟨a', c', e, hh⟩ := own_lit h
  injection e with e1 _ e3
  subst e1 e3
  exact fold_calls v R a c w hl (hh.imp id fun ⟨g, h1, _, h3, h4⟩ => ⟨g, 0, h1, h3, h4⟩)
theorem acting_calls (cb : Nat) (i : Int) (W : World) : Calls Try.prog 31 #[.pointer (some ⟨cb, 0, none⟩), .int .i64 i] W fun e w' => e = .returned (.func (.func 53) #[] #[.pointer (some ⟨W.heap.size, 0, none⟩), .pointer (some ⟨W.heap.size + 1, 0, none⟩)]) ∧ w' = (W.alloc (.cells #[.pointer (some ⟨cb, 0, none⟩)] 24)).alloc (.cells #[.int .i64 i] 3) := by
  go_enter Try.func31, Try.ntmps31
  go_wp2
  go_returns
  exact ⟨rfl, rfl⟩
/-- The iterator's contract. -/
theorem acting_stops {Z : Nat → Prop} {cb sb tb : Nat} {K : Ca} {i : Int} {bc bs n₀ x : Nat} {w : World} (hC : CaAt Z w cb sb tb K) (hb1 : w.heap[bc]? = some (.cells [Value.pointer (some ⟨cb, 0, none⟩)].toArray 24)) (hb2 : w.heap[bs]? = some (.cells [Value.int .i64 i].toArray 3)) (hi : (K.sl i).isSome = true) (hn₀ : n₀ ≤ w.heap.size) (hO : Ox Z n₀ x cb sb tb bc bs) :
    SeqStopsK Fence.wide 6 Try.prog 53 #[.pointer (some ⟨bc, 0, none⟩), .pointer (some ⟨bs, 0, none⟩)] (fun x : Ef => #[.agg (encE x).toArray]) (KpA n₀ x) (fun ys => ys = actE K i) (fun _ => True) 1000000 w := fun l J Jx W hW hJ _ hY h0 =>
  acting1_in layQ fsT ⟨rfl, rfl, rfl, rfl⟩ rfl rfl Fence.wide 6 (fun _ => trivial) rfl (by decide) keys_in sorted_in (fun W hc who b => callsIn_wide.2 (fits_calls hc who b i)) hi l bc bs n₀ x J Jx hY W (Nat.le_trans hn₀ hW.size) hJ hO (hC.below hW) ((hW.block _ (blk_lt hb1)).trans hb1) ((hW.block _ (blk_lt hb2)).trans hb2) h0
end Go.Proofs.Yticgadnmlbfmfaa.cachePlays
