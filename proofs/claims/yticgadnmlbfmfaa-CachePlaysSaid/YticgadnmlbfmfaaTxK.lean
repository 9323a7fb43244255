/-
  Chapter 25: Put, walked.
-/
import Derived.Test.YticgadnmlbfmfaaTxJ
namespace Go.Proofs.Yticgadnmlbfmfaa.cachePlays
open Go.Shelf Go.RowKit Go.Lib Go.Sort Go.Maps
/-- An object's cells. -/
structure ObR (Z : Nat → Prop) (w : World) (ob : List Value) (card ctrl stamp : Int) (effs : List Ef) : Prop where
  len : ob.length = 14
  one : ∀ v ∈ ob, v.oneCell' = true
  q1 : ob[1]? = some (.int .i64 card)
  q3 : ob[3]? = some (.int .i64 ctrl)
  q9 : ob[9]? = some (.int .i64 stamp)
  ef : ∃ (ea : Option Addr) (ec : Nat), ob[13]? = some (.slice ea effs.length ec) ∧ RowsZ Z w ea 4 (effs.map encE)
  n : effs.length ≤ 1000
/-- A number's card. -/
def cdOf (cards : List Cd) (c : Int) : Cd := if 0 ≤ c ∧ c < cards.length then cards[c.toNat]?.getD zCd else zCd
/-- An object is put into a slot. -/
def Ca.set (K : Ca) (i : Int) (h : Hd) : Ca := { K with sl := fun k => if k = i then some h else K.sl k }
def Ca.put (K : Ca) (i : Int) (h : Hd) : Ca := if stat (K.at i).cd || stat h.cd then ((K.set i h).soil i).soilAll else (K.set i h).soil i
/-- What Put leans on. -/
structure PutC (P : Program) : Prop where
  cl : ∀ {Z : Nat → Prop} (ia : Option Addr) (l : List (List Value)), (∀ x ∈ l, x.length = 4) → (∀ x ∈ l, ∀ u ∈ x, u.oneCell' = true) → ∀ (ic : Nat) (w : World), l.length ≤ 1000 → RowsZ Z w ia 4 l → Calls P 26 #[.slice ia l.length ic] w (Cloned w l 4)
  so : ∀ {Z : Nat → Prop} {w : World} {cb sb tb : Nat} {K : Ca}, CaAt Z w cb sb tb K → ∀ {i : Int}, 0 ≤ i → i < 256 → Calls P 28 #[.pointer (some ⟨cb, 0, none⟩), .int .i64 i] w fun e w' => e = .returned (.tuple #[]) ∧ CaAt Z w' cb sb tb (K.soil i) ∧ K3 cb sb tb w w' ∧ w'.heap[sb]? = w.heap[sb]?
  sa : ∀ {Z : Nat → Prop} {w : World} {cb sb tb : Nat} {K : Ca}, CaAt Z w cb sb tb K → Calls P 29 #[.pointer (some ⟨cb, 0, none⟩)] w fun e w' => e = .returned (.tuple #[]) ∧ CaAt Z w' cb sb tb K.soilAll ∧ K3 cb sb tb w w'
theorem putT : PutC Try.prog where
  cl := clone26
  so := fun h _ hi hi2 => soil_calls h hi hi2
  sa := soilAll_calls
/-- The zeros of a card. -/
structure Zc (y92 y82 : List Value) : Prop where
  e : ∃ y0, y92 = y0 ++ y82 ∧ ∀ Z w, HdR Z w y0 y82 zHd
theorem zcT : Zc zv92 zv82 := ⟨zv30, rfl, zHdR⟩
theorem slot_getZ {y92 y82 : List Value} (hz : Zc y92 y82) {Z : Nat → Prop} {w : World} {o : Option Value} {h : Option Hd} (hh : HdV Z w o h) : ∃ ob cr, o.getD (.agg y92.toArray) = .agg (ob ++ cr).toArray ∧ HdR Z w ob cr (h.getD zHd) := by
  obtain ⟨y0, rfl, hq⟩ := hz.e
  match o, h, hh with
  | some v, some h, ⟨ob, cr, e, k⟩ => exact ⟨ob, cr, e, k⟩
  | none, none, _ => exact ⟨y0, y82, rfl, hq Z w⟩
theorem fold_obj {ob y0 y82 : List Value} (h : y0.length = ob.length) : List.foldl (fun (cs : Array Value) (x : Value × Nat) => cs.setIfInBounds x.snd x.fst) (y0 ++ y82).toArray ob.zipIdx = (ob ++ y82).toArray := by
  obtain ⟨h1, h2⟩ := fold_at ob 0 (y0 ++ y82).toArray (by simp [h])
  apply Array.ext_getElem?
  intro j
  rw [h2]
  split
  · rename_i hj
    simp only [Nat.zero_add, Nat.zero_le, true_and] at hj
    simp [List.getElem?_append_left hj]
  · rename_i hj
    have hj : ob.length ≤ j := by omega
    simp [List.getElem?_append_right hj, List.getElem?_append_right (show y0.length ≤ j by omega), h]
/-- What is held while Put lays its object. -/
structure Pa (Z : Nat → Prop) (w : World) (cb sb tb : Nat) (K : Ca) (ob X : List Value) (W : World) : Prop where
  c : CaAt Z W cb sb tb K
  k : K3 cb sb tb w W
  o : W.heap[w.heap.size]? = some (.cells ob.toArray 30)
  h : W.heap[w.heap.size + 1]? = some (.cells X.toArray 92)
theorem Pa.below {Z : Nat → Prop} {w W W' : World} {cb sb tb : Nat} {K : Ca} {ob X : List Value} (h : Pa Z w cb sb tb K ob X W) (g : Below W.heap.size W W') : Pa Z w cb sb tb K ob X W' :=
  ⟨h.c.below g, h.k.then (row := none) ⟨g.os, g.tape, g.output, g.size, fun k hk _ => g.block k hk⟩ (fun b e => by cases e), (g.block _ (blk_lt h.o)).trans h.o, (g.block _ (blk_lt h.h)).trans h.h⟩
theorem Pa.gr {Z : Nat → Prop} {w W W' : World} {cb sb tb : Nat} {K : Ca} {ob X : List Value} (h : Pa Z w cb sb tb K ob X W) (g : Gr W W') : Pa Z w cb sb tb K ob X W' := h.below (gr_below (.refl _ _) (Nat.le_refl _) g)
theorem Pa.set {Z : Nat → Prop} {w W : World} {cb sb tb : Nat} {K : Ca} {ob X : List Value} (h : Pa Z w cb sb tb K ob X W) (hz : ∀ b, Z b → b < w.heap.size) (hw : cb < w.heap.size ∧ sb < w.heap.size ∧ tb < w.heap.size) (j : Nat) (v : Value) : Pa Z w cb sb tb K ob (X.set j v) (W.setCell ⟨w.heap.size + 1, j, none⟩ v) := by
  have g := grown_sets (w := W) (w.heap.size + 1) [v] j
  obtain ⟨l1, l2, l3⟩ := h.c.lt
  refine ⟨h.c.keep (Kz.grown g (fun b e => by cases e; intro hb; have := hz _ hb; omega)) (g.block _ l1 (by simp; omega)) (g.block _ l2 (by simp; omega)) (g.block _ l3 (by simp; omega)), h.k.then g (fun b e => by cases e; exact .inr (.inr (.inr (by omega)))), (g.block _ (blk_lt h.o) (by simp)).trans h.o, ?_⟩
  have := blk_sets (w.heap.size + 1) 92 [v] j h.h
  simp only [setMany, List.setIfInBounds_toArray] at this
  exact this
theorem setMany_app {A B C : List Value} (h : C.length = B.length) : setMany (A ++ B).toArray A.length C = (A ++ C).toArray := by
  refine ext_get! (by simp [h]) fun t ht => ?_
  have ht' : t < A.length + B.length := by simpa using ht
  rw [get_setMany _ _ _ t (by simpa using ht')]
  by_cases hh : A.length ≤ t ∧ t < A.length + C.length
  · rw [if_pos hh]
    rw [getElem!_pos (A ++ C).toArray t (by simp; omega), getElem!_pos C _ (by omega)]
    simp [List.getElem_append_right hh.1]
  · rw [if_neg hh]
    have hlt : t < A.length := by omega
    rw [getElem!_pos (A ++ C).toArray t (by simp; omega), getElem!_pos (A ++ B).toArray t (by simp; omega)]
    simp [List.getElem_append_left hlt]
theorem Pa.sets {Z : Nat → Prop} {w W : World} {cb sb tb : Nat} {K : Ca} {ob A B C : List Value} (h : Pa Z w cb sb tb K ob (A ++ B) W) (hz : ∀ b, Z b → b < w.heap.size) (hw : cb < w.heap.size ∧ sb < w.heap.size ∧ tb < w.heap.size) (hA : A.length = 14) (hC : C.length = B.length) : Pa Z w cb sb tb K ob (A ++ C) (W.setCells (w.heap.size + 1) 14 C) := by
  have g := grown_sets (w := W) (w.heap.size + 1) C 14
  obtain ⟨l1, l2, l3⟩ := h.c.lt
  refine ⟨h.c.keep (Kz.grown g (fun b e => by cases e; intro hb; have := hz _ hb; omega)) (g.block _ l1 (by simp; omega)) (g.block _ l2 (by simp; omega)) (g.block _ l3 (by simp; omega)), h.k.then g (fun b e => by cases e; exact .inr (.inr (.inr (by omega)))), (g.block _ (blk_lt h.o) (by simp)).trans h.o, ?_⟩
  have := blk_sets (w.heap.size + 1) 92 C 14 h.h
  rw [← hA, setMany_app hC, hA] at this
  exact this
/-- The object is stored. -/
theorem Pa.store {Z Z1 : Nat → Prop} {w W : World} {cb sb tb : Nat} {K : Ca} {ob ob1 cr : List Value} {hd : Hd} (h : Pa Z w cb sb tb K ob (ob1 ++ cr) W) (k : HdR Z1 W ob1 cr hd) (hZ : ∀ b, Z b → Z1 b) (hz : ∀ b, Z1 b → b < W.heap.size) (hn : ¬ Z1 cb ∧ ¬ Z1 sb ∧ ¬ Z1 tb) (hw : cb < w.heap.size ∧ sb < w.heap.size ∧ tb < w.heap.size) {P : Program} (t83 : P.underlying 83 = some (.map 3 92)) (t3 : P.underlying 3 = some (.int .i64)) {i : Int} (hi : 0 ≤ i) (hi2 : i < 256) :
    ∃ W', (Instr.mapUpdate 83 (.map (some sb)) (.int .i64 i) (.agg (ob1 ++ cr).toArray)).run P W = .ok () W' ∧ Pa Z1 w cb sb tb (K.set i hd) ob (ob1 ++ cr) W' ∧ HdR Z1 W' ob1 cr hd := by
  obtain ⟨ca, cc, d0, d1, d2, d3, rs, c1, c2, c3, c4, c5⟩ := h.c.c
  obtain ⟨n, F, s1, s2⟩ := h.c.s
  obtain ⟨m, t1⟩ := h.c.t
  have hm := s1.le (h.c.kF s2)
  obtain ⟨l1, l2, l3⟩ := h.c.lt
  obtain ⟨W', hr, hM, g, hs⟩ := s1.put t83 t3 (by unfold maxLen; omega) i (.agg (ob1 ++ cr).toArray)
  have ne := h.c.ne
  have kz : Kz Z1 W W' := Kz.grown g (fun b e => by cases e; exact hn.2.1)
  have up : ∀ b, Z b → b < W.heap.size → Z1 b := fun b hb _ => hZ b hb
  have k' := k.keep kz
  refine ⟨W', hr, ⟨⟨⟨ca, cc, d0, d1, d2, d3, rs, (g.block _ l1 (by simpa using ne.1)).trans c1, c2, (c3.mono up).keep kz, c4, fun i r x hr hx => ((c5 i r x hr hx).mono up).keep kz⟩, ⟨_, _, hM, fun j => ?_⟩, ⟨m, t1.keep (g.block _ l3 (by simpa using fun e => ne.2.2.1 e.symm))⟩, fun j hj => ?_, fun j hj => ?_, h.c.nc, ⟨ne.1, ne.2.1, ne.2.2.1, hn⟩, fun b hb => Nat.lt_of_lt_of_le (hz b hb) g.size⟩, h.k.then g (fun b e => by cases e; exact .inr (.inl rfl)), (g.block _ (blk_lt h.o) (by simp; omega)).trans h.o, (g.block _ (blk_lt h.h) (by simp; omega)).trans h.h⟩, k'⟩
  · show HdV Z1 W' (if j = i then _ else F j) (if j = i then some hd else K.sl j)
    split
    · exact ⟨ob1, cr, rfl, k'⟩
    · exact ((s2 j).mono up).keep kz
  · have hj : (if j = i then some hd else K.sl j).isSome = true := hj
    split at hj
    · rename_i e
      subst e
      exact ⟨hi, hi2⟩
    · exact h.c.kr j hj
  · show (if j = i then some hd else K.sl j).isSome = true
    split
    · rfl
    · exact h.c.tr j hj
set_option maxHeartbeats 8000000 in
set_option maxRecDepth 100000 in
theorem put_in {P : Program} {k30 k82 k89 k92 : Nat} {y30 y82 y89 y92 : List Value} (L : LayQ P k30 k82 k89 k92 y30 y82 y89 y92) (R : Fs P) (S : Sz k30 k82 k89 k92) (C : PutC P) (hz : Zc y92 y82) {Z Zo : Nat → Prop} {w : World} {cb sb tb : Nat} {K : Ca} (h : CaAt Z w cb sb tb K) {i : Int} (hi : 0 ≤ i) (hi2 : i < 256) {ob : List Value} {card ctrl stamp : Int} {effs : List Ef} (hO : ObR Zo w ob card ctrl stamp effs) :
    Calls P 10 #[.pointer (some ⟨cb, 0, none⟩), .int .i64 i, .agg ob.toArray] w fun e w' => e = .returned (.tuple #[]) ∧ ∃ Z', CaAt Z' w' cb sb tb (K.put i ⟨card, ctrl, stamp, effs, cdOf K.cards card⟩) ∧ K3 cb sb tb w w' ∧ (∀ b, Z' b → Z b ∨ w.heap.size ≤ b) := by
  have mixed := L.mixed; have t3 := L.t3; have a3 := L.a3; have z3 := L.z3; have v3 := L.v3; have qu3 := run_underlying L.t3; have t4 := L.t4; have a4 := L.a4; have z4 := L.z4; have qu4 := run_underlying L.t4
  have t24 := L.t24; have a24 := L.a24; have z24 := L.z24; have qu24 := run_underlying L.t24; have t28 := L.t28; have a28 := L.a28; have z28 := L.z28; have v28 := L.v28; have qu28 := run_underlying L.t28
  have t51 := L.t51; have a51 := L.a51; have z51 := L.z51; have v51 := L.v51; have qu51 := run_underlying L.t51
  have a83 := L.a83; have z83 := L.z83; have qu83 := run_underlying L.t83; have a84 := L.a84; have z84 := L.z84; have qu84 := run_underlying L.t84
  have qu30 := run_underlying L.t30; have a30 := L.a30; have z30 := L.z30; have qu82 := run_underlying L.t82; have a82 := L.a82; have z82 := L.z82; have qu92 := run_underlying L.t92; have a92 := L.a92; have z92 := L.z92; have v92 := L.v92
  have qu49 := run_underlying L.t49; have a49 := L.a49; have z49 := L.z49; have v49 := L.v49; have qu86 := run_underlying L.t86; have a86 := L.a86; have z86 := L.z86
  have qu36 := run_underlying L.t36; have a36 := L.a36; have z36 := L.z36; have v36 := L.v36; have qu53 := run_underlying L.t53; have a53 := L.a53; have z53 := L.z53; have v53 := L.v53
  have t26 := L.t26; have a26 := L.a26; have z26 := L.z26; have qu26 := run_underlying L.t26
  have e26 := R.e26; have e27 := R.e27; have e28 := R.e28; have e29 := R.e29; have n30 : ¬ k30 = 0 := by rw [S.s30]; decide
  have n82 : ¬ k82 = 0 := by rw [S.s82]; decide
  have hob : ob.length = k30 := hO.len.trans S.s30.symm
  obtain ⟨ea, ec, o13, oz⟩ := hO.ef
  obtain ⟨y0, hy, hyz⟩ := hz.e
  have hy0 := (hyz Z w).len
  have hc82 := (hyz Z w).c
  have hfold : List.foldl (fun (cs : Array Value) (x : Value × Nat) => cs.setIfInBounds x.snd x.fst) y92.toArray ob.zipIdx = (ob ++ y82).toArray := by rw [hy]; exact fold_obj (hy0.trans hO.len.symm)
  have hX : (ob ++ y82).length = k92 := by rw [List.length_append, hO.len, hc82.len, S.s92]
  have hX9 : (ob ++ y82).length = y92.length := by rw [hy, List.length_append, List.length_append, hO.len, hy0]
  have oX : ∀ v ∈ ob ++ y82, v.oneCell' = true := fun v hv => by
    rcases List.mem_append.1 hv with h | h
    · exact hO.one v h
    · exact hc82.one v h
  have x13 : (ob ++ y82)[13]? = some (.slice ea effs.length ec) := by rw [List.getElem?_append_left (by rw [hO.len]; decide)]; exact o13
  have b5 := blk_new w (.cells ob.toArray 30)
  have ld := hold_ld P (blk_hold b5) hob
  have sA := hold_st P (hold_new (w.alloc (.cells ob.toArray 30)) y92 92) (ob ++ y82) hX9 oX
  rw [World.size_alloc] at sA
  obtain ⟨g1, c5, c6⟩ := two_box w ob y92 (ob ++ y82) 30 92 hX9
  have l13 := hold_cell (blk_hold c5) o13
  have f6 := (blk_hold c6 13 (by rw [List.size_toArray, List.length_append, hO.len]; omega)).2
  have r6 := hold_cell (blk_hold c6) x13
  have hcl := C.cl ea (effs.map encE) (fun x hx => by obtain ⟨y, _, rfl⟩ := List.mem_map.1 hx; exact encE_len y) (fun x hx => by obtain ⟨y, _, rfl⟩ := List.mem_map.1 hx; exact encE_one y) ec _ (by rw [List.length_map]; exact hO.n) (oz.keep (Kz.gr g1))
  rw [List.length_map] at hcl
  have hk3 : ¬ y92.length < k30 := by rw [hy, List.length_append, hy0, S.s30]; omega
  have hc0 : decide (i < 0) = false := by simp; omega
  have hc1 : decide (256 ≤ i) = false := by simp; omega
  have hx0 : ¬ i < 0 := by omega
  have hx1 : ¬ 256 ≤ i := by omega
  generalize hXX : ob ++ y82 = X at hfold hX hX9 oX x13 sA g1 c5 c6 l13 f6 r6 hcl
  have HH : Aside _ := h
  have HO : Aside _ := hO
  have G1 : Aside _ := g1
  have C5 : Aside _ := c5
  have C6 : Aside _ := c6
  have HZZ : Aside _ := hz
  have HXX : Hid _ := hXX
  have CLL : Aside (∀ _ : Unit, Calls P 26 _ _ _) := fun _ => hcl
  have l6 : ∀ w2, Below _ _ w2 → w2.cell? ⟨w.heap.size + 1, 13, none⟩ = some (.slice ea effs.length ec) ∧ w2.frozen? ⟨w.heap.size + 1, 13, none⟩ = false := fun w2 hb => by
    have c6' := (hb.block _ (blk_lt c6)).trans c6
    exact ⟨hold_cell (blk_hold c6') x13, (blk_hold c6' 13 (by rw [List.size_toArray, hX, S.s92]; decide)).2⟩
  have L6 : Aside _ := l6
  clear h hO g1 c5 c6 hc82 hy hyz b5 oz hz hX9 oX x13 hcl hXX l6
  go_enter R.f10, Try.ntmps10
  go_upto_region 4 with (first | (go_at_fn 26; refine (CLL.out ()).mono ?_; rintro e w2 ⟨a, c, rfl, hz2, hb2⟩; obtain ⟨r6', f6'⟩ := L6.out w2 hb2; have HZ2 : Aside (RowsZ _ w2 a 4 (effs.map encE)) := hz2; have HB2 : Aside _ := hb2; clear hz2 hb2))
  have P2 : Pa Z w cb sb tb K ob (X.set 13 (.slice a effs.length c)) (w2.setCell ⟨w.heap.size + 1, 13, none⟩ (.slice a effs.length c)) := by
    have O0 : Pa Z w cb sb tb K ob X _ := ⟨HH.out.gr G1.out, K3.gr G1.out, C5.out, C6.out⟩
    exact (O0.below HB2.out).set HH.out.zl HH.out.lt 13 _
  have hZ3 : RowsZ (fun b => w.heap.size + 2 ≤ b ∧ b < w2.heap.size) (w2.setCell ⟨w.heap.size + 1, 13, none⟩ (.slice a effs.length c)) a 4 (effs.map encE) := by
    have hs : (((w.alloc (.cells ob.toArray 30)).alloc (.cells y92.toArray 92)).setCells (w.heap.size + 1) 0 X).heap.size = w.heap.size + 2 := by simp
    have := HZ2.out
    rw [hs] at this
    exact this.keep (Kz.grown (grown_sets (w.heap.size + 1) [.slice a effs.length c] 13) (fun b e => by cases e; omega))
  have hs3 : w.heap.size + 2 ≤ w2.heap.size := by
    have := HB2.out.size
    simpa using this
  have HS3 : (w2.setCell ⟨w.heap.size + 1, 13, none⟩ (.slice a effs.length c)).heap.size = w2.heap.size := by simp
  clear r6' f6' HZ2 HB2 L6 l13 f6 r6 sA ld hfold CLL C5 C6 G1
  generalize w2.setCell ⟨w.heap.size + 1, 13, none⟩ (.slice a effs.length c) = V at P2 hZ3 HS3 ⊢
  have hd1 : ob.length = 14 := HO.out.len
  have hX1 : X.set 13 (.slice a effs.length c) = ob.set 13 (.slice a effs.length c) ++ y82 := by
    rw [← HXX.out, List.set_append_left _ _ (by rw [hd1]; decide)]
  rw [hX1] at P2
  have hO1 : ∀ cr cd, CdR (fun b => Z b ∨ (w.heap.size + 2 ≤ b ∧ b < w2.heap.size)) V cr cd → HdR (fun b => Z b ∨ (w.heap.size + 2 ≤ b ∧ b < w2.heap.size)) V (ob.set 13 (.slice a effs.length c)) cr ⟨card, ctrl, stamp, effs, cd⟩ := fun cr cd hcd => by
    refine ⟨by rw [List.length_set]; exact hd1, fun v hv => ?_, ?_, ?_, ?_, ⟨a, c, ?_, hZ3.mono (fun b hb _ => .inr hb)⟩, HO.out.n, hcd⟩
    · rcases List.mem_or_eq_of_mem_set hv with h | rfl
      · exact HO.out.one v h
      · rfl
    · rw [List.getElem?_set_ne (by decide)]
      exact HO.out.q1
    · rw [List.getElem?_set_ne (by decide)]
      exact HO.out.q3
    · rw [List.getElem?_set_ne (by decide)]
      exact HO.out.q9
    · rw [List.getElem?_set_self (by rw [hd1]; decide)]
  have HO1 : Aside _ := hO1
  have hnz : ¬ (Z cb ∨ (w.heap.size + 2 ≤ cb ∧ cb < w2.heap.size)) ∧ ¬ (Z sb ∨ (w.heap.size + 2 ≤ sb ∧ sb < w2.heap.size)) ∧ ¬ (Z tb ∨ (w.heap.size + 2 ≤ tb ∧ tb < w2.heap.size)) := by
    obtain ⟨l1, l2, l3⟩ := HH.out.lt
    have ne := HH.out.ne.2.2.2
    refine ⟨fun h => ?_, fun h => ?_, fun h => ?_⟩
    · rcases h with h | h
      · exact ne.1 h
      · omega
    · rcases h with h | h
      · exact ne.2.1 h
      · omega
    · rcases h with h | h
      · exact ne.2.2 h
      · omega
  have hzz : ∀ b, (Z b ∨ (w.heap.size + 2 ≤ b ∧ b < w2.heap.size)) → b < V.heap.size := fun b hb => by
    rw [HS3]
    rcases hb with h | h
    · have := HH.out.zl b h
      omega
    · exact h.2
  have HNZ : Aside _ := hnz
  have HZ1 : Aside _ := hzz
  have P3 := P2.gr (Gr.refl _).drew
  have o1 := hold_cell (blk_hold P3.o) HO.out.q1
  obtain ⟨ca, cc, d0, d1, d2, d3, rs, c1, _, c3, c4, c5⟩ := P3.c.c
  obtain ⟨⟨a0, a1, a2, _⟩, _⟩ := ca_cells c1
  by_cases hcd : 0 ≤ card ∧ card < (K.cards.length : Int)
  · obtain ⟨hcd0, hcd1⟩ := hcd
    obtain ⟨q, hq⟩ : ∃ q : Nat, card = (q : Int) := ⟨card.toNat, by omega⟩
    have hql : q < K.cards.length := by omega
    have hqr : q < rs.length := by rw [c4]; exact hql
    have hrq : rs[q]? = some rs[q] := List.getElem?_eq_getElem hqr
    have hck := c5 q _ _ hrq (List.getElem?_eq_getElem hql)
    have hcc : cdOf K.cards card = K.cards[q] := by
      rw [cdOf, if_pos ⟨hcd0, hcd1⟩, hq, Int.toNat_natCast, List.getElem?_eq_getElem hql]
      rfl
    obtain ⟨B, O, hBO, _, _, hl⟩ := c3.ld P hrq hck.len
    subst hBO
    have lA := hl V.drew.drew (Kz.gr (Gr.refl _).drew)
    rw [← S.s82] at lA
    have hr8 : rs[q].length = k82 := hck.len.trans S.s82.symm
    generalize rs[q] = cr at hck lA hr8
    have P4 := P3.gr (Gr.refl _).drew
    have sC := stores_of_holds P (blk_hold P4.h) 14 cr (by rw [List.size_toArray, List.length_append, List.length_set, hd1, hck.len, (HZZ.out.e.elim fun y0' h => ((h.2 Z w).c.len))]; exact Nat.le_refl _) hck.one
    have P5 := P4.sets HH.out.zl HH.out.lt (by rw [List.length_set]; exact hd1) (hck.len.trans (HZZ.out.e.elim fun y0' h => ((h.2 Z w).c.len)).symm)
    have ld4 : decide (card < 0) = false := by simp; omega
    subst hq
    have hqz : (q : Int) < (K.cards.length : Int) := hcd1
    have QD : HdR (fun b => Z b ∨ (w.heap.size + 2 ≤ b ∧ b < w2.heap.size)) (V.drew.drew.setCells (w.heap.size + 1) 14 cr) (ob.set 13 (.slice a effs.length c)) cr ⟨(q : Int), ctrl, stamp, effs, cdOf K.cards (q : Int)⟩ := by
      rw [hcc]
      have hg : Kz (fun b => Z b ∨ (w.heap.size + 2 ≤ b ∧ b < w2.heap.size)) V (V.drew.drew.setCells (w.heap.size + 1) 14 cr) := (Kz.gr ((Gr.refl V).drew.drew)).trans (Kz.grown (grown_sets (w.heap.size + 1) cr 14) (fun b e => by
        cases e
        rintro (h | h)
        · have := HH.out.zl _ h
          omega
        · omega))
      exact (HO1.out cr _ ((hck.keep (w' := V) ⟨Nat.le_refl _, fun _ _ _ => rfl⟩).mono (fun b hb _ => Or.inl hb))).keep hg
    have Q3 : Pa Z w cb sb tb K ob (ob.set 13 (.slice a effs.length c) ++ cr) (V.drew.drew.setCells (w.heap.size + 1) 14 cr) := P5
    have SZ3 : Aside (V.heap.size ≤ (V.drew.drew.setCells (w.heap.size + 1) 14 cr).heap.size) := (grown_sets (w := V.drew.drew) (w.heap.size + 1) cr 14).size
    have o2 := hold_cell (blk_hold P4.o) HO.out.q1
    have c1' := blk_gr c1 (Gr.refl _).drew
    obtain ⟨⟨b0, b1, b2, _⟩, _⟩ := ca_cells c1'
    rw [Nat.zero_add] at sC
    clear hcc c1 c1' c3 c4 c5 P3 P4 P5 hl hck hrq hqr
    go_big_region_o
    clear o1 a0 a1 a2
    go_wp2
    go_region_o
    clear o2 b0 b1 b2 lA sC
    generalize V.drew.drew.setCells (w.heap.size + 1) 14 cr = V3 at Q3 QD SZ3 ⊢
    obtain ⟨n, F, s1, s2⟩ := Q3.c.s
    have lk := s1.look L.t83 L.t3 L.v92 i
    obtain ⟨ob', cr', e1, (kh : HdR Z _ ob' cr' (K.at i))⟩ := slot_getZ HZZ.out (s2 i)
    rw [e1] at lk
    have hst := statics_calls L R S kh
    generalize ob' ++ cr' = X' at lk hst
    obtain ⟨ca', cc', z0, z1, z2, z3, rs', y1, _⟩ := Q3.c.c
    obtain ⟨⟨v0, v1, v2, _⟩, _⟩ := ca_cells y1
    have HST : Aside (∀ _ : Unit, Calls P 27 #[.agg X'.toArray] _ _) := fun _ => hst
    have Q3' : Aside _ := Q3
    have QD' : Aside _ := QD
    clear s1 s2 e1 kh y1 hst Q3 QD
    go_upto_region 7 with (first | (go_at_fn 27; refine (HST.out ()).mono ?_; rintro e w3 ⟨rfl, hG⟩; have G3 : Aside _ := hG; clear hG))
    clear v0 v1 v2 lk HST
    have Q4 := Q3'.out.gr (Gr.trans G3.out (Gr.refl _).drew)
    have QD4 := QD'.out.keep (Kz.gr (Gr.trans G3.out (Gr.refl _).drew))
    obtain ⟨W5, hmu, Q5, QD5⟩ := Q4.store QD4 (fun b hb => .inl hb) (fun b hb => Nat.lt_of_lt_of_le (HZ1.out b hb) (Nat.le_trans (Nat.le_trans SZ3.out (Gr.le G3.out)) (Nat.le_refl _))) HNZ.out HH.out.lt L.t83 L.t3 hi hi2
    have hk9 : (ob.set 13 (.slice a effs.length c) ++ cr).length = k92 := by rw [List.length_append, QD4.len, QD4.c.len, S.s92]
    have l9 := hold_ld P (blk_hold Q4.h) hk9
    obtain ⟨ca', cc', z0, z1, z2, z3, rs', y1, _⟩ := Q4.c.c
    obtain ⟨⟨v0, v1, v2, _⟩, _⟩ := ca_cells y1
    have hso := C.so Q5.c hi hi2
    have HSO : Aside (∀ _ : Unit, Calls P 28 _ _ _) := fun _ => hso
    have Q5' : Aside _ := Q5
    have QD5' : Aside _ := QD5
    clear Q4 QD4 Q5 QD5 y1 hso G3 Q3' QD'
    go_region_o
    clear l9 v0 v1 v2 hmu
    go_upto_region 9 with (first | (go_at_fn 28; refine (HSO.out ()).mono ?_; rintro e W6 ⟨rfl, hC6, hK6, _⟩; have C6' : Aside _ := hC6; have K6 : Aside _ := hK6; clear hC6 hK6))
    have kz6 := K6.out.kz (Z := fun b => Z b ∨ (w.heap.size + 2 ≤ b ∧ b < w2.heap.size)) HNZ.out
    have QD6 := QD5'.out.keep kz6
    have hlw := HH.out.lt
    have h6 := (K6.out.k _ (blk_lt Q5'.out.h) (by omega) (by omega) (by omega)).trans Q5'.out.h
    have l9 := hold_ld P (blk_hold h6) hk9
    have hst := statics_calls L R S QD6
    have HST : Aside (∀ _ : Unit, Calls P 27 #[.agg (ob.set 13 (.slice a effs.length c) ++ cr).toArray] _ _) := fun _ => hst
    have KK : Aside (K3 cb sb tb w W6) := ⟨K6.out.os.trans Q5'.out.k.os, K6.out.tape.trans Q5'.out.k.tape, K6.out.output.trans Q5'.out.k.output, Nat.le_trans Q5'.out.k.size K6.out.size, fun b hb x y z => (K6.out.k b (Nat.lt_of_lt_of_le hb Q5'.out.k.size) x y z).trans (Q5'.out.k.k b hb x y z)⟩
    have hput : Hid (Ca.put K i ⟨(q : Int), ctrl, stamp, effs, cdOf K.cards (q : Int)⟩ = if stat (K.at i).cd || stat (cdOf K.cards (q : Int)) then ((K.set i ⟨(q : Int), ctrl, stamp, effs, cdOf K.cards (q : Int)⟩).soil i).soilAll else (K.set i ⟨(q : Int), ctrl, stamp, effs, cdOf K.cards (q : Int)⟩).soil i) := rfl
    have hZf : Aside (∀ b, (Z b ∨ (w.heap.size + 2 ≤ b ∧ b < w2.heap.size)) → Z b ∨ w.heap.size ≤ b) := fun b hb => hb.imp id (fun h => by omega)
    clear hst kz6 h6 HSO
    generalize ob.set 13 (.slice a effs.length c) ++ cr = X6 at l9 HST hk9
    cases hh1 : stat (K.at i).cd with
    | true =>
      have hsa := C.sa C6'.out
      have HSA : Aside (∀ _ : Unit, Calls P 29 _ _ _) := fun _ => hsa
      clear hsa
      go_wp2_with (first | (go_at_fn 29; refine (HSA.out ()).mono ?_; rintro e W7 ⟨rfl, hC7, hK7⟩))
      go_end0
      refine ⟨rfl, _, ?_, KK.out.trans hK7, hZf.out⟩
      rw [hput.out, hh1, Bool.true_or, if_pos rfl]
      exact hC7
    | false =>
      cases hh2 : stat (cdOf K.cards (q : Int)) with
      | true =>
        have HST2 : Aside (∀ _ : Unit, Calls P 27 #[.agg X6.toArray] W6 fun e w' => e = .returned (.bool true) ∧ Gr W6 w') := fun _ => by
          have := HST.out ()
          rw [hh2] at this
          exact this
        clear HST
        go_upto_region 10 with (first | (go_at_fn 27; refine (HST2.out ()).mono ?_; rintro e W7 ⟨rfl, hG7⟩))
        have hsa := C.sa (C6'.out.gr hG7)
        have HSA : Aside (∀ _ : Unit, Calls P 29 _ _ _) := fun _ => hsa
        have HG7 : Aside _ := hG7
        clear hsa hG7
        go_wp2_with (first | (go_at_fn 29; refine (HSA.out ()).mono ?_; rintro e W8 ⟨rfl, hC8, hK8⟩))
        go_end0
        refine ⟨rfl, _, ?_, KK.out.trans ((K3.gr HG7.out).trans hK8), hZf.out⟩
        rw [hput.out, hh1, hh2, Bool.or_true, if_pos rfl]
        exact hC8
      | false =>
        have HST2 : Aside (∀ _ : Unit, Calls P 27 #[.agg X6.toArray] W6 fun e w' => e = .returned (.bool false) ∧ Gr W6 w') := fun _ => by
          have := HST.out ()
          rw [hh2] at this
          exact this
        clear HST
        go_wp2_with (first | (go_at_fn 27; refine (HST2.out ()).mono ?_; rintro e W7 ⟨rfl, hG7⟩))
        go_end0
        refine ⟨rfl, _, ?_, KK.out.trans (K3.gr hG7), hZf.out⟩
        rw [hput.out, hh1, hh2, Bool.or_false, if_neg (by simp)]
        exact C6'.out.gr hG7
  · have hcc : cdOf K.cards card = zCd := if_neg hcd
    have HCC : Hid _ := hcc
    have QD : HdR (fun b => Z b ∨ (w.heap.size + 2 ≤ b ∧ b < w2.heap.size)) V.drew (ob.set 13 (.slice a effs.length c)) y82 ⟨card, ctrl, stamp, effs, cdOf K.cards card⟩ := by
      rw [hcc]
      obtain ⟨y0', _, hq⟩ := HZZ.out.e
      exact (HO1.out y82 zCd (hq _ _).c).keep (Kz.gr (Gr.refl _).drew)
    have Q3 : Pa Z w cb sb tb K ob (ob.set 13 (.slice a effs.length c) ++ y82) V.drew := P3
    have SZ3 : Aside (V.heap.size ≤ V.drew.heap.size) := Nat.le_refl _
    have hge : decide (0 ≤ card) = true ∨ decide (0 ≤ card) = false := by cases decide (0 ≤ card) <;> simp
    clear hcc c1 c3 c4 c5 P3
    by_cases h0 : 0 ≤ card
    · have h1 : ¬ card < (K.cards.length : Int) := fun h => hcd ⟨h0, h⟩
      go_big_region_o
      clear o1 a0 a1 a2
      generalize V.drew = V3 at Q3 QD SZ3 ⊢
      obtain ⟨n, F, s1, s2⟩ := Q3.c.s
      have lk := s1.look L.t83 L.t3 L.v92 i
      obtain ⟨ob', cr', e1, (kh : HdR Z _ ob' cr' (K.at i))⟩ := slot_getZ HZZ.out (s2 i)
      rw [e1] at lk
      have hst := statics_calls L R S kh
      generalize ob' ++ cr' = X' at lk hst
      obtain ⟨ca', cc', z0, z1, z2, z3, rs', y1, _⟩ := Q3.c.c
      obtain ⟨⟨v0, v1, v2, _⟩, _⟩ := ca_cells y1
      have HST : Aside (∀ _ : Unit, Calls P 27 #[.agg X'.toArray] _ _) := fun _ => hst
      have Q3' : Aside _ := Q3
      have QD' : Aside _ := QD
      clear s1 s2 e1 kh y1 hst Q3 QD
      go_upto_region 7 with (first | (go_at_fn 27; refine (HST.out ()).mono ?_; rintro e w3 ⟨rfl, hG⟩; have G3 : Aside _ := hG; clear hG))
      clear v0 v1 v2 lk HST
      have Q4 := Q3'.out.gr (Gr.trans G3.out (Gr.refl _).drew)
      have QD4 := QD'.out.keep (Kz.gr (Gr.trans G3.out (Gr.refl _).drew))
      obtain ⟨W5, hmu, Q5, QD5⟩ := Q4.store QD4 (fun b hb => .inl hb) (fun b hb => Nat.lt_of_lt_of_le (HZ1.out b hb) (Nat.le_trans (Nat.le_trans SZ3.out (Gr.le G3.out)) (Nat.le_refl _))) HNZ.out HH.out.lt L.t83 L.t3 hi hi2
      have hk9 : (ob.set 13 (.slice a effs.length c) ++ y82).length = k92 := by rw [List.length_append, QD4.len, QD4.c.len, S.s92]
      have l9 := hold_ld P (blk_hold Q4.h) hk9
      obtain ⟨ca', cc', z0, z1, z2, z3, rs', y1, _⟩ := Q4.c.c
      obtain ⟨⟨v0, v1, v2, _⟩, _⟩ := ca_cells y1
      have hso := C.so Q5.c hi hi2
      have HSO : Aside (∀ _ : Unit, Calls P 28 _ _ _) := fun _ => hso
      have Q5' : Aside _ := Q5
      have QD5' : Aside _ := QD5
      clear Q4 QD4 Q5 QD5 y1 hso G3 Q3' QD'
      go_region_o
      clear l9 v0 v1 v2 hmu
      go_upto_region 9 with (first | (go_at_fn 28; refine (HSO.out ()).mono ?_; rintro e W6 ⟨rfl, hC6, hK6, _⟩; have C6' : Aside _ := hC6; have K6 : Aside _ := hK6; clear hC6 hK6))
      have kz6 := K6.out.kz (Z := fun b => Z b ∨ (w.heap.size + 2 ≤ b ∧ b < w2.heap.size)) HNZ.out
      have QD6 := QD5'.out.keep kz6
      have hlw := HH.out.lt
      have h6 := (K6.out.k _ (blk_lt Q5'.out.h) (by omega) (by omega) (by omega)).trans Q5'.out.h
      have l9 := hold_ld P (blk_hold h6) hk9
      have hst := statics_calls L R S QD6
      have HST : Aside (∀ _ : Unit, Calls P 27 #[.agg (ob.set 13 (.slice a effs.length c) ++ y82).toArray] _ _) := fun _ => hst
      have KK : Aside (K3 cb sb tb w W6) := ⟨K6.out.os.trans Q5'.out.k.os, K6.out.tape.trans Q5'.out.k.tape, K6.out.output.trans Q5'.out.k.output, Nat.le_trans Q5'.out.k.size K6.out.size, fun b hb x y z => (K6.out.k b (Nat.lt_of_lt_of_le hb Q5'.out.k.size) x y z).trans (Q5'.out.k.k b hb x y z)⟩
      have hput : Hid (Ca.put K i ⟨card, ctrl, stamp, effs, cdOf K.cards card⟩ = if stat (K.at i).cd || stat (cdOf K.cards card) then ((K.set i ⟨card, ctrl, stamp, effs, cdOf K.cards card⟩).soil i).soilAll else (K.set i ⟨card, ctrl, stamp, effs, cdOf K.cards card⟩).soil i) := rfl
      have hZf : Aside (∀ b, (Z b ∨ (w.heap.size + 2 ≤ b ∧ b < w2.heap.size)) → Z b ∨ w.heap.size ≤ b) := fun b hb => hb.imp id (fun h => by omega)
      clear hst kz6 h6 HSO
      generalize ob.set 13 (.slice a effs.length c) ++ y82 = X6 at l9 HST hk9
      cases hh1 : stat (K.at i).cd with
      | true =>
        have hsa := C.sa C6'.out
        have HSA : Aside (∀ _ : Unit, Calls P 29 _ _ _) := fun _ => hsa
        clear hsa
        go_wp2_with (first | (go_at_fn 29; refine (HSA.out ()).mono ?_; rintro e W7 ⟨rfl, hC7, hK7⟩))
        go_end0
        refine ⟨rfl, _, ?_, KK.out.trans hK7, hZf.out⟩
        rw [hput.out, hh1, Bool.true_or, if_pos rfl]
        exact hC7
      | false =>
        cases hh2 : stat (cdOf K.cards card) with
        | true =>
          have HST2 : Aside (∀ _ : Unit, Calls P 27 #[.agg X6.toArray] W6 fun e w' => e = .returned (.bool true) ∧ Gr W6 w') := fun _ => by
            have := HST.out ()
            rw [hh2] at this
            exact this
          clear HST
          go_upto_region 10 with (first | (go_at_fn 27; refine (HST2.out ()).mono ?_; rintro e W7 ⟨rfl, hG7⟩))
          have hsa := C.sa (C6'.out.gr hG7)
          have HSA : Aside (∀ _ : Unit, Calls P 29 _ _ _) := fun _ => hsa
          have HG7 : Aside _ := hG7
          clear hsa hG7
          go_wp2_with (first | (go_at_fn 29; refine (HSA.out ()).mono ?_; rintro e W8 ⟨rfl, hC8, hK8⟩))
          go_end0
          refine ⟨rfl, _, ?_, KK.out.trans ((K3.gr HG7.out).trans hK8), hZf.out⟩
          rw [hput.out, hh1, hh2, Bool.or_true, if_pos rfl]
          exact hC8
        | false =>
          have HST2 : Aside (∀ _ : Unit, Calls P 27 #[.agg X6.toArray] W6 fun e w' => e = .returned (.bool false) ∧ Gr W6 w') := fun _ => by
            have := HST.out ()
            rw [hh2] at this
            exact this
          clear HST
          go_wp2_with (first | (go_at_fn 27; refine (HST2.out ()).mono ?_; rintro e W7 ⟨rfl, hG7⟩))
          go_end0
          refine ⟨rfl, _, ?_, KK.out.trans (K3.gr hG7), hZf.out⟩
          rw [hput.out, hh1, hh2, Bool.or_false, if_neg (by simp)]
          exact C6'.out.gr hG7
    · go_big_region_o
      clear o1 a0 a1 a2
      generalize V.drew = V3 at Q3 QD SZ3 ⊢
      obtain ⟨n, F, s1, s2⟩ := Q3.c.s
      have lk := s1.look L.t83 L.t3 L.v92 i
      obtain ⟨ob', cr', e1, (kh : HdR Z _ ob' cr' (K.at i))⟩ := slot_getZ HZZ.out (s2 i)
      rw [e1] at lk
      have hst := statics_calls L R S kh
      generalize ob' ++ cr' = X' at lk hst
      obtain ⟨ca', cc', z0, z1, z2, z3, rs', y1, _⟩ := Q3.c.c
      obtain ⟨⟨v0, v1, v2, _⟩, _⟩ := ca_cells y1
      have HST : Aside (∀ _ : Unit, Calls P 27 #[.agg X'.toArray] _ _) := fun _ => hst
      have Q3' : Aside _ := Q3
      have QD' : Aside _ := QD
      clear s1 s2 e1 kh y1 hst Q3 QD
      go_upto_region 7 with (first | (go_at_fn 27; refine (HST.out ()).mono ?_; rintro e w3 ⟨rfl, hG⟩; have G3 : Aside _ := hG; clear hG))
      clear v0 v1 v2 lk HST
      have Q4 := Q3'.out.gr (Gr.trans G3.out (Gr.refl _).drew)
      have QD4 := QD'.out.keep (Kz.gr (Gr.trans G3.out (Gr.refl _).drew))
      obtain ⟨W5, hmu, Q5, QD5⟩ := Q4.store QD4 (fun b hb => .inl hb) (fun b hb => Nat.lt_of_lt_of_le (HZ1.out b hb) (Nat.le_trans (Nat.le_trans SZ3.out (Gr.le G3.out)) (Nat.le_refl _))) HNZ.out HH.out.lt L.t83 L.t3 hi hi2
      have hk9 : (ob.set 13 (.slice a effs.length c) ++ y82).length = k92 := by rw [List.length_append, QD4.len, QD4.c.len, S.s92]
      have l9 := hold_ld P (blk_hold Q4.h) hk9
      obtain ⟨ca', cc', z0, z1, z2, z3, rs', y1, _⟩ := Q4.c.c
      obtain ⟨⟨v0, v1, v2, _⟩, _⟩ := ca_cells y1
      have hso := C.so Q5.c hi hi2
      have HSO : Aside (∀ _ : Unit, Calls P 28 _ _ _) := fun _ => hso
      have Q5' : Aside _ := Q5
      have QD5' : Aside _ := QD5
      clear Q4 QD4 Q5 QD5 y1 hso G3 Q3' QD'
      go_region_o
      clear l9 v0 v1 v2 hmu
      go_upto_region 9 with (first | (go_at_fn 28; refine (HSO.out ()).mono ?_; rintro e W6 ⟨rfl, hC6, hK6, _⟩; have C6' : Aside _ := hC6; have K6 : Aside _ := hK6; clear hC6 hK6))
      have kz6 := K6.out.kz (Z := fun b => Z b ∨ (w.heap.size + 2 ≤ b ∧ b < w2.heap.size)) HNZ.out
      have QD6 := QD5'.out.keep kz6
      have hlw := HH.out.lt
      have h6 := (K6.out.k _ (blk_lt Q5'.out.h) (by omega) (by omega) (by omega)).trans Q5'.out.h
      have l9 := hold_ld P (blk_hold h6) hk9
      have hst := statics_calls L R S QD6
      have HST : Aside (∀ _ : Unit, Calls P 27 #[.agg (ob.set 13 (.slice a effs.length c) ++ y82).toArray] _ _) := fun _ => hst
      have KK : Aside (K3 cb sb tb w W6) := ⟨K6.out.os.trans Q5'.out.k.os, K6.out.tape.trans Q5'.out.k.tape, K6.out.output.trans Q5'.out.k.output, Nat.le_trans Q5'.out.k.size K6.out.size, fun b hb x y z => (K6.out.k b (Nat.lt_of_lt_of_le hb Q5'.out.k.size) x y z).trans (Q5'.out.k.k b hb x y z)⟩
      have hput : Hid (Ca.put K i ⟨card, ctrl, stamp, effs, cdOf K.cards card⟩ = if stat (K.at i).cd || stat (cdOf K.cards card) then ((K.set i ⟨card, ctrl, stamp, effs, cdOf K.cards card⟩).soil i).soilAll else (K.set i ⟨card, ctrl, stamp, effs, cdOf K.cards card⟩).soil i) := rfl
      have hZf : Aside (∀ b, (Z b ∨ (w.heap.size + 2 ≤ b ∧ b < w2.heap.size)) → Z b ∨ w.heap.size ≤ b) := fun b hb => hb.imp id (fun h => by omega)
      clear hst kz6 h6 HSO
      generalize ob.set 13 (.slice a effs.length c) ++ y82 = X6 at l9 HST hk9
      cases hh1 : stat (K.at i).cd with
      | true =>
        have hsa := C.sa C6'.out
        have HSA : Aside (∀ _ : Unit, Calls P 29 _ _ _) := fun _ => hsa
        clear hsa
        go_wp2_with (first | (go_at_fn 29; refine (HSA.out ()).mono ?_; rintro e W7 ⟨rfl, hC7, hK7⟩))
        go_end0
        refine ⟨rfl, _, ?_, KK.out.trans hK7, hZf.out⟩
        rw [hput.out, hh1, Bool.true_or, if_pos rfl]
        exact hC7
      | false =>
        cases hh2 : stat (cdOf K.cards card) with
        | true =>
          have HST2 : Aside (∀ _ : Unit, Calls P 27 #[.agg X6.toArray] W6 fun e w' => e = .returned (.bool true) ∧ Gr W6 w') := fun _ => by
            have := HST.out ()
            rw [hh2] at this
            exact this
          clear HST
          go_upto_region 10 with (first | (go_at_fn 27; refine (HST2.out ()).mono ?_; rintro e W7 ⟨rfl, hG7⟩))
          have hsa := C.sa (C6'.out.gr hG7)
          have HSA : Aside (∀ _ : Unit, Calls P 29 _ _ _) := fun _ => hsa
          have HG7 : Aside _ := hG7
          clear hsa hG7
          go_wp2_with (first | (go_at_fn 29; refine (HSA.out ()).mono ?_; rintro e W8 ⟨rfl, hC8, hK8⟩))
          go_end0
          refine ⟨rfl, _, ?_, KK.out.trans ((K3.gr HG7.out).trans hK8), hZf.out⟩
          rw [hput.out, hh1, hh2, Bool.or_true, if_pos rfl]
          exact hC8
        | false =>
          have HST2 : Aside (∀ _ : Unit, Calls P 27 #[.agg X6.toArray] W6 fun e w' => e = .returned (.bool false) ∧ Gr W6 w') := fun _ => by
            have := HST.out ()
            rw [hh2] at this
            exact this
          clear HST
          go_wp2_with (first | (go_at_fn 27; refine (HST2.out ()).mono ?_; rintro e W7 ⟨rfl, hG7⟩))
          go_end0
          refine ⟨rfl, _, ?_, KK.out.trans (K3.gr hG7), hZf.out⟩
          rw [hput.out, hh1, hh2, Bool.or_false, if_neg (by simp)]
          exact C6'.out.gr hG7
end Go.Proofs.Yticgadnmlbfmfaa.cachePlays
