/-
  Chapter 25: Of, where it is reckoned, walked.
-/
import Derived.Test.YticgadnmlbfmfaaTxH
namespace Go.Proofs.Yticgadnmlbfmfaa.cachePlays
open Go.Shelf Go.RowKit Go.Lib Go.Sort Go.Maps
attribute [local go_sem] Oper.semAt_some
/-- What a slot's beast is. -/
def Chr (K : Ca) (i : Int) (v : Int × Int × Int) : Prop := ∃ R, IsS (actE K i) R ∧ v = foldE R ((K.at i).cd.pow, (K.at i).cd.tou, (K.at i).cd.keys)
/-- What Of leans on. -/
structure OfC (P : Program) : Prop where
  a : ∀ (cb : Nat) (i : Int) (W : World), Calls P 31 #[.pointer (some ⟨cb, 0, none⟩), .int .i64 i] W fun e w' => e = .returned (.func (.func 53) #[] #[.pointer (some ⟨W.heap.size, 0, none⟩), .pointer (some ⟨W.heap.size + 1, 0, none⟩)]) ∧ w' = (W.alloc (.cells #[.pointer (some ⟨cb, 0, none⟩)] 24)).alloc (.cells #[.int .i64 i] 3)
  st : ∀ {Z : Nat → Prop} {cb sb tb : Nat} {K : Ca} {i : Int} {bc bs n₀ x : Nat} {w : World}, CaAt Z w cb sb tb K → w.heap[bc]? = some (.cells [Value.pointer (some ⟨cb, 0, none⟩)].toArray 24) → w.heap[bs]? = some (.cells [Value.int .i64 i].toArray 3) → (K.sl i).isSome = true → n₀ ≤ w.heap.size → Ox Z n₀ x cb sb tb bc bs →
    SeqStopsK Fence.wide 6 P 53 #[.pointer (some ⟨bc, 0, none⟩), .pointer (some ⟨bs, 0, none⟩)] (fun x : Ef => #[.agg (encE x).toArray]) (KpA n₀ x) (fun ys => ys = actE K i) (fun _ => True) 1000000 w
  so : ∀ {W : World} {base : Nat} {v : Value} {l : List Ef}, W.ownsRow base 49 4 v l.length (flatE l) → l.length < 2305843009213693952 → Calls P 32 #[v, .func (.func 33) #[] #[]] W fun e w' => e = .returned (.tuple #[]) ∧ ∃ R, IsS l R ∧ w'.ownsRow base 49 4 v R.length (flatE R) ∧ W.grownBy w' v.ownBlock
  fo : ∀ (v : Int × Int × Int) {R : List Ef} {a : Option Addr} {c base : Nat} {w : World}, w.ownsRow base 49 4 (.slice a R.length c) R.length (flatE R) → R.length ≤ 1000000 → Calls P 37 #[.agg (encV v).toArray, .slice a R.length c] w fun e w' => e = .returned (.agg (encV (foldE R v)).toArray) ∧ Below w.heap.size w w'
  e31 : ∀ args w, (callFunc 31 args).run P w = .ok (.enter 31 args) w
  e32 : ∀ args w, (callFunc 32 args).run P w = .ok (.enter 32 args) w
  e37 : ∀ args w, (callFunc 37 args).run P w = .ok (.enter 37 args) w
  e53 : ∀ args w, (callFunc 53 args).run P w = .ok (.enter 53 args) w
  i49 : ∃ i, P.info? 49 = some i ∧ i.zero = some (.agg #[.int .i64 0, .int .i64 0, .int .i64 0, .int .i64 0]) ∧ i.size = 4 ∧ i.bytes = 32
theorem i49T : ∃ i, Try.prog.info? 49 = some i ∧ i.zero = some (.agg #[.int .i64 0, .int .i64 0, .int .i64 0, .int .i64 0]) ∧ i.size = 4 ∧ i.bytes = 32 := by
  have h : (Try.prog.info? 49).map (fun i => (i.zero, i.size, i.bytes)) = some (some (.agg #[.int .i64 0, .int .i64 0, .int .i64 0, .int .i64 0]), 4, 32) := by kernel_rfl
  cases hi : Try.prog.info? 49 with
  | none => rw [hi] at h; cases h
  | some i =>
    rw [hi] at h
    injection h with h
    injection h with h1 h2
    injection h2 with h2 h3
    exact ⟨i, rfl, h1, h2, h3⟩
theorem ofT : OfC Try.prog where
  a := acting_calls
  st := acting_stops
  so := sort_own
  fo := fold_own
  e31 := fsT.e31
  e32 := enters_of Try.func32 (by kernel_rfl) rfl
  e37 := fsT.e37
  e53 := fsT.e53
  i49 := i49T
/-- What is held while effects come. -/
structure Zo (w : World) (x : Nat) (pre : List Ef) (W : World) : Prop where
  b : ∃ v, W.heap[x]? = some (.cells [v].toArray 28) ∧ W.ownsRow w.heap.size 49 4 v pre.length (flatE pre)
  g : w.grownBy W (some x)
theorem own_apart' {W : World} {base : Nat} {v : Value} {n : Nat} {xs : List Value} (h : W.ownsRow base 49 4 v n xs) {j : Nat} {o : Obj} (hj : W.heap[j]? = some o) (hno : ∀ cs, o ≠ .cells cs 49) : v.ownBlock = none ∨ v.ownBlock ≠ some j := by
  rcases h.2 with ⟨rfl, _⟩ | ⟨g, cap, cur, rfl, _, hg, _⟩
  · exact .inl rfl
  · refine .inr fun e => ?_
    have : g = j := by simpa [Value.ownBlock] using e
    subst this
    rw [hg] at hj
    cases hj
    exact hno _ rfl
theorem then_grown {w a c : World} {x : Nat} {row : Option Nat} (h : w.grownBy a (some x)) (g : a.grownBy c row) (hr : ∀ r, row = some r → r = x ∨ w.heap.size ≤ r) : w.grownBy c (some x) :=
  ⟨g.os.trans h.os, g.tape.trans h.tape, g.output.trans h.output, Nat.le_trans h.size g.size, fun k hk hne => (g.block k (Nat.lt_of_lt_of_le hk h.size) (fun e => by rcases hr k e.symm with h | h; exact hne (by rw [h]); omega)).trans (h.block k hk hne)⟩
theorem Zo.own {w : World} {x : Nat} (hx : x < w.heap.size) : OwnFrom w.heap.size (Zo w x) := fun s W W' row hs hg hr => by
  obtain ⟨v, hv, ho⟩ := hs.b
  refine ⟨⟨v, (hg.block x (blk_lt hv) (fun e => by have := (hr x e.symm).1; omega)).trans hv, ho.kept hg ?_⟩, then_grown hs.g hg (fun r e => .inr (hr r e).1)⟩
  cases row with
  | none =>
    cases h : v.ownBlock with
    | none => exact .inl rfl
    | some j => exact .inr (by simp)
  | some r =>
    obtain ⟨_, o, h1, h2⟩ := hr r rfl
    exact own_apart' ho h1 (fun cs e => by rw [e] at h2; cases h2)
theorem Zo.gr {w : World} {x : Nat} {pre : List Ef} {W W' : World} (h : Zo w x pre W) (g : Gr W W') : Zo w x pre W' := by
  obtain ⟨v, hv, ho⟩ := h.b
  exact ⟨⟨v, blk_gr hv g, ho.kept (gr_grown g) (by cases v.ownBlock with | none => exact .inl rfl | some j => exact .inr (by simp))⟩, then_grown h.g (gr_grown g) (fun r e => by cases e)⟩
theorem own_slice2 {W : World} {base size n : Nat} {e : TypeId} {v : Value} {xs : List Value} (h : W.ownsRow base e size v n xs) : ∃ a c, v = .slice a n c := by
  rcases h.2 with ⟨rfl, hz⟩ | ⟨g, cap, cur, rfl, _⟩
  · exact ⟨none, 0, by rw [hz]⟩
  · exact ⟨_, cap, rfl⟩
theorem own_ne {W : World} {base n : Nat} {v : Value} {xs : List Value} (ho : W.ownsRow base 49 4 v n xs) {k : Nat} {o : Obj} (hk : W.heap[k]? = some o) (hh : k < base ∨ ∀ cs, o ≠ .cells cs 49) : some k ≠ v.ownBlock := fun e => by
  rcases ho.2 with ⟨rfl, _⟩ | ⟨j, cap, cur, rfl, hb, hj, _⟩
  · cases e
  · have : k = j := by simpa [Value.ownBlock] using e
    subst this
    rcases hh with h | h
    · omega
    · rw [hj] at hk
      cases hk
      exact h _ rfl
/-- What is held behind the range. -/
structure Ob (Z : Nat → Prop) (w : World) (cb sb tb : Nat) (K : Ca) (X : List Value) (x D : Nat) (v : Value) (W : World) : Prop where
  o : Oa Z w cb sb tb K X W
  x : W.heap[x]? = some (.cells [v].toArray 28)
  d : W.heap[D]? = some (.deferred (some []))
theorem Ob.below {Z : Nat → Prop} {w W W' : World} {cb sb tb : Nat} {K : Ca} {X : List Value} {x D : Nat} {v : Value} (h : Ob Z w cb sb tb K X x D v W) (g : Below W.heap.size W W') : Ob Z w cb sb tb K X x D v W' :=
  ⟨⟨h.o.c.below g, h.o.k.then (row := none) ⟨g.os, g.tape, g.output, g.size, fun k hk _ => g.block k hk⟩ (fun b e => by cases e), (g.block _ (blk_lt h.o.r)).trans h.o.r, (g.block _ (blk_lt h.o.h)).trans h.o.h⟩, (g.block _ (blk_lt h.x)).trans h.x, (g.block _ (blk_lt h.d)).trans h.d⟩
theorem Ob.gr {Z : Nat → Prop} {w W W' : World} {cb sb tb : Nat} {K : Ca} {X : List Value} {x D : Nat} {v : Value} (h : Ob Z w cb sb tb K X x D v W) (g : Gr W W') : Ob Z w cb sb tb K X x D v W' := h.below (gr_below (.refl _ _) (Nat.le_refl _) g)
/-- One's own row has changed. -/
theorem Ob.row {Z : Nat → Prop} {w W W' : World} {cb sb tb : Nat} {K : Ca} {X : List Value} {x D base n : Nat} {v u : Value} {xs : List Value} (h : Ob Z w cb sb tb K X x D v W) (ho : W.ownsRow base 49 4 u n xs) (g : W.grownBy W' u.ownBlock) (hw : w.heap.size ≤ base) (hc : cb < base ∧ sb < base ∧ tb < base) (hz : ∀ b, Z b → b < base) : Ob Z w cb sb tb K X x D v W' := by
  have same : ∀ k o, W.heap[k]? = some o → (k < base ∨ ∀ cs, o ≠ .cells cs 49) → W'.heap[k]? = some o := fun k o hk hh => (g.block k (blk_lt hk) (own_ne ho hk hh)).trans hk
  have sm : ∀ k, k < base → k < W.heap.size → W'.heap[k]? = W.heap[k]? := fun k hk hl => by
    obtain ⟨o, hko⟩ : ∃ o, W.heap[k]? = some o := ⟨_, Array.getElem?_eq_getElem hl⟩
    rw [hko]
    exact same k o hko (.inl hk)
  obtain ⟨l1, l2, l3⟩ := h.o.c.lt
  refine ⟨⟨h.o.c.keep ⟨g.size, fun b hb hl => sm b (hz b hb) hl⟩ (sm _ hc.1 l1) (sm _ hc.2.1 l2) (sm _ hc.2.2 l3), h.o.k.then g (fun b e => ?_), same _ _ h.o.r (.inr (fun cs e => by cases e)), same _ _ h.o.h (.inr (fun cs e => by cases e))⟩, same _ _ h.x (.inr (fun cs e => by cases e)), same _ _ h.d (.inr (fun cs e => by cases e))⟩
  have := (ho.lt b e).1
  exact .inr (.inr (.inr (by omega)))
/-- What was reckoned is told. -/
theorem Ob.tell {Z : Nat → Prop} {w W : World} {cb sb tb : Nat} {K : Ca} {X : List Value} {x D : Nat} {u : Value} (h : Ob Z w cb sb tb K X x D u W) {P : Program} (t84 : P.underlying 84 = some (.map 3 36)) (t3 : P.underlying 3 = some (.int .i64)) {i : Int} (hi : (K.sl i).isSome = true) (v : Int × Int × Int) (hw : w.heap.size ≤ x ∧ cb < w.heap.size ∧ sb < w.heap.size ∧ tb < w.heap.size) :
    ∃ W', (Instr.mapUpdate 84 (.map (some tb)) (.int .i64 i) (.agg (encV v).toArray)).run P W = .ok () W' ∧ Ob Z w cb sb tb { K with tl := fun k => if k = i then some v else K.tl k } X x D u W' ∧ W.grownBy W' (some tb) := by
  obtain ⟨m, t1⟩ := h.o.c.t
  have hm : m ≤ 256 := t1.le fun k hk => by
    refine h.o.c.kr k (h.o.c.tr k ?_)
    cases ht : K.tl k with
    | none => rw [ht] at hk; cases hk
    | some v => rfl
  obtain ⟨W', hr, hM, g, hs⟩ := t1.put t84 t3 (by unfold maxLen; omega) i (.agg (encV v).toArray)
  have ne := h.o.c.ne
  obtain ⟨l1, l2, l3⟩ := h.o.c.lt
  have hd : D ≠ tb := fun e => by
    obtain ⟨es, c, hb, _⟩ := t1
    have := h.d
    rw [e, hb] at this
    cases this
  refine ⟨W', hr, ⟨⟨?_, h.o.k.then g (fun b e => by cases e; exact .inr (.inr (.inl rfl))), (g.block _ (blk_lt h.o.r) (by simp; omega)).trans h.o.r, (g.block _ (blk_lt h.o.h) (by simp; omega)).trans h.o.h⟩, (g.block _ (blk_lt h.x) (by simp; omega)).trans h.x, (g.block _ (blk_lt h.d) (by simpa using hd)).trans h.d⟩, g⟩
  refine h.o.c.upd (K3.grown g (fun b e => by cases e; exact .inr (.inr (.inl rfl)))) (g.block _ l2 (by simpa using ne.2.2.1)) (tl := fun k => if k = i then some v else K.tl k) (dt := K.dt) (hM.congr fun k => ?_) (fun k hk => ?_) ?_
  · split <;> rfl
  · split at hk
    · rename_i e
      rw [e]
      exact hi
    · exact h.o.c.tr k hk
  · intro ca cc d0 d1 d2 d3 hx
    obtain ⟨ca', cc', x0, x1, x2, x3, rs, c1, c2, _⟩ := h.o.c.c
    rw [c1] at hx
    injection hx with hx
    injection hx with hx
    have : (ca' = ca ∧ cc' = cc) ∧ x0 = d0 ∧ x1 = d1 ∧ x2 = d2 ∧ x3 = d3 := by simpa using hx
    obtain ⟨⟨rfl, rfl⟩, rfl, rfl, rfl, rfl⟩ := this
    exact ⟨x0, x1, x2, x3, (g.block _ l1 (by simpa using ne.2.1)).trans c1, c2⟩
theorem Ob.fin {Z : Nat → Prop} {w W : World} {cb sb tb : Nat} {K : Ca} {X : List Value} {x D : Nat} {v : Value} (h : Ob Z w cb sb tb K X x D v W) (hw : cb < w.heap.size ∧ sb < w.heap.size ∧ tb < w.heap.size) (hz : ∀ b, Z b → b < w.heap.size) (hD : w.heap.size < D) (V : List Value) :
    (W.setCells w.heap.size 0 V).heap[D]? = some (.deferred (some [])) ∧ CaAt Z ((W.setCells w.heap.size 0 V).putObj D (.deferred none)) cb sb tb K ∧ K3 cb sb tb w ((W.setCells w.heap.size 0 V).putObj D (.deferred none)) := by
  obtain ⟨c1, k1⟩ := h.o.put hw hz V
  have hd : (W.setCells w.heap.size 0 V).heap[D]? = some (.deferred (some [])) := by
    rw [sets_other (by omega)]
    exact h.d
  have g := grownBy_putObj' (W.setCells w.heap.size 0 V) D (.deferred none)
  obtain ⟨l1, l2, l3⟩ := c1.lt
  refine ⟨hd, c1.keep (Kz.grown g (fun b e => by cases e; intro hb; have := hz _ hb; omega)) (g.block _ l1 (by simp; omega)) (g.block _ l2 (by simp; omega)) (g.block _ l3 (by simp; omega)), k1.then g (fun b e => by cases e; exact .inr (.inr (.inr (by omega))))⟩
/-- A round that appends. -/
theorem Zo.round {w W w3 : World} {x : Nat} {pre : List Ef} {y : Ef} {v v' : Value} (g : w.grownBy W (some x)) (hv : W.heap[x]? = some (.cells [v].toArray 28)) (ho : W.ownsRow w.heap.size 49 4 v pre.length (flatE pre)) (hx : x < w.heap.size)
    (hg : (W.alloc (.cells (encE y).toArray 49)).grownBy w3 v.ownBlock) (hn : w3.ownsRow w.heap.size 49 4 v' (pre.length + 1) (flatE pre ++ encE y)) :
    KeepsFrom w.heap.size W (w3.setCell ⟨x, 0, none⟩ v') ∧ KpA w.heap.size x W (w3.setCell ⟨x, 0, none⟩ v') ∧ Zo w x (pre ++ [y]) (w3.setCell ⟨x, 0, none⟩ v') := by
  have hown : ∀ k o, W.heap[k]? = some o → (k < w.heap.size ∨ ∀ cs, o ≠ .cells cs 49) → some k ≠ v.ownBlock := fun k o hk hh e => by
    rcases ho.2 with ⟨rfl, _⟩ | ⟨j, cap, cur, rfl, hb, hj, _⟩
    · cases e
    · have : k = j := by simpa [Value.ownBlock] using e
      subst this
      rcases hh with h | h
      · omega
      · rw [hj] at hk
        cases hk
        exact h _ rfl
  have old : ∀ k o, W.heap[k]? = some o → (k < w.heap.size ∨ ∀ cs, o ≠ .cells cs 49) → w3.heap[k]? = some o := fun k o hk hh => (hg.block k (by simp; have := blk_lt hk; omega) (hown k o hk hh)).trans (blk_old hk _)
  have sz := hg.size
  rw [World.size_alloc] at sz
  have g3 := grown_sets (w := w3) x [v'] 0
  have oth : ∀ k o, k ≠ x → W.heap[k]? = some o → (k < w.heap.size ∨ ∀ cs, o ≠ .cells cs 49) → (w3.setCell ⟨x, 0, none⟩ v').heap[k]? = some o := fun k o hkx hk hh => by
    have h1 := old k o hk hh
    exact (g3.block k (blk_lt h1) (by simpa using hkx)).trans h1
  have hs3 : (w3.setCell ⟨x, 0, none⟩ v').heap.size = w3.heap.size := by simp
  have hb3 := old x _ hv (.inl hx)
  refine ⟨⟨by rw [hs3]; omega, fun k o hk h1 h2 => oth k o (by omega) h1 (.inr (fun cs e => by rw [e] at h2; cases h2))⟩, ⟨by rw [hs3]; omega, fun k o hkx h1 h2 => oth k o hkx h1 (h2.imp id (fun ⟨cs, t, f, e, ht⟩ cs2 e2 => ht (by rw [e] at e2; injection e2)))⟩, ⟨v', ?_, ?_⟩, ?_⟩
  · exact blk_sets x 28 [v'] 0 hb3
  · rw [List.length_append, flatE_app]
    have e2 : flatE [y] = encE y := by simp [flatE]
    rw [e2]
    exact hn.kept g3 (own_apart' hn hb3 (fun cs e => by cases e))
  · refine ⟨(hg.os.trans g.os), (hg.tape.trans g.tape), (hg.output.trans g.output), by rw [hs3]; have := g.size; omega, fun k hk hne => ?_⟩
    have hkx : k ≠ x := fun e => hne (by rw [e])
    obtain ⟨o, hko⟩ : ∃ o, W.heap[k]? = some o := ⟨_, Array.getElem?_eq_getElem (Nat.lt_of_lt_of_le hk g.size)⟩
    exact (oth k o hkx hko (.inl hk)).trans (hko.symm.trans (g.block k hk hne))
set_option maxHeartbeats 16000000 in
set_option maxRecDepth 100000 in
theorem of_new {P : Program} {k30 k82 k89 k92 : Nat} {y30 y82 y89 y92 : List Value} (L : LayQ P k30 k82 k89 k92 y30 y82 y89 y92) (R : Fs P) (S : Sz k30 k82 k89 k92) (hy9 : y92.length = k92) (oy9 : ∀ v ∈ y92, v.oneCell' = true) (cD : DelC P) (C : OfC P) {Z : Nat → Prop} {w : World} {cb sb tb : Nat} {K : Ca} (h : CaAt Z w cb sb tb K) {i : Int} (hi : (K.sl i).isSome = true) (hk : (K.at i).cd.kind = 2) (hv : K.tl i = none) :
    Calls P 11 #[.pointer (some ⟨cb, 0, none⟩), .int .i64 i] w fun e w' => ∃ v, Chr K i v ∧ e = .returned (.tuple #[.agg (encV v).toArray, .bool true]) ∧ CaAt Z w' cb sb tb { K.clean i with tl := fun k => if k = i then some v else K.tl k } ∧ K3 cb sb tb w w' := by
  refine (callsIn_wide (n := 7)).1 ?_
  have mixed := L.mixed; have t3 := L.t3; have a3 := L.a3; have z3 := L.z3; have v3 := L.v3; have qu3 := run_underlying L.t3; have t4 := L.t4; have a4 := L.a4; have z4 := L.z4; have qu4 := run_underlying L.t4
  have t24 := L.t24; have a24 := L.a24; have z24 := L.z24; have qu24 := run_underlying L.t24; have t28 := L.t28; have a28 := L.a28; have z28 := L.z28; have v28 := L.v28; have qu28 := run_underlying L.t28
  have t51 := L.t51; have a51 := L.a51; have z51 := L.z51; have v51 := L.v51; have qu51 := run_underlying L.t51
  have a83 := L.a83; have z83 := L.z83; have qu83 := run_underlying L.t83; have a84 := L.a84; have z84 := L.z84; have qu84 := run_underlying L.t84
  have qu30 := run_underlying L.t30; have a30 := L.a30; have z30 := L.z30; have qu82 := run_underlying L.t82; have a82 := L.a82; have z82 := L.z82; have qu92 := run_underlying L.t92; have a92 := L.a92; have z92 := L.z92; have v92 := L.v92
  have qu49 := run_underlying L.t49; have a49 := L.a49; have z49 := L.z49; have v49 := L.v49; have qu86 := run_underlying L.t86; have a86 := L.a86; have z86 := L.z86
  have qu36 := run_underlying L.t36; have a36 := L.a36; have z36 := L.z36; have v36 := L.v36; have qu53 := run_underlying L.t53; have a53 := L.a53; have z53 := L.z53; have v53 := L.v53
  have e30 := R.e30; have n30 : ¬ k30 = 0 := by rw [S.s30]; decide
  have n82 : ¬ k82 = 0 := by rw [S.s82]; decide
  obtain ⟨ca, cc, d0, d1, d2, d3, rs, c1, c2, _⟩ := h.c
  obtain ⟨n, F, s1, s2⟩ := h.s
  have hr := h.kr i hi
  obtain ⟨ob, cr, e1, kh⟩ : ∃ ob cr, F i = some (.agg (ob ++ cr).toArray) ∧ HdR Z w ob cr (K.at i) := by
    have h := s2 i
    obtain ⟨hd, hh⟩ := Option.isSome_iff_exists.1 hi
    unfold Ca.at
    rw [hh] at h ⊢
    cases hf : F i with
    | none => rw [hf] at h; exact h.elim
    | some v =>
      rw [hf] at h
      obtain ⟨ob, cr, rfl, kh⟩ := h
      exact ⟨ob, cr, rfl, kh⟩
  have s1' : MapV (w.alloc (.cells #[.int .i64 0, .int .i64 0, .int .i64 0] 36)) sb n F := s1.keep ((gr_grown ((Gr.refl w).alloc _)).block sb s1.lt (by simp))
  have lk := s1'.look_ok L.t83 L.t3 L.v92 i
  rw [e1] at lk
  simp only [Option.getD_some, Option.isSome_some] at lk
  have o9 : ∀ v ∈ ob ++ cr, v.oneCell' = true := fun v hv => by
    rcases List.mem_append.1 hv with h | h
    · exact kh.one v h
    · exact kh.c.one v h
  have hX : (ob ++ cr).length = k92 := by rw [List.length_append, kh.len, kh.c.len, S.s92]
  have xr : ∀ j v, cr[j]? = some v → (ob ++ cr)[14 + j]? = some v := fun j v hj => by
    rw [List.getElem?_append_right (by rw [kh.len]; omega), kh.len, Nat.add_sub_cancel_left]
    exact hj
  have x15 := xr 1 _ kh.c.q1
  have x21 := xr 7 _ kh.c.q7
  have x22 := xr 8 _ kh.c.q8
  have x23 := xr 9 _ kh.c.q9
  clear kh xr
  generalize ob ++ cr = X at lk o9 hX e1 x15 x21 x22 x23
  have hl9 : X.length = y92.length := by rw [hX, hy9]
  have sA := hold_st P (hold_new (w.alloc (.cells #[.int .i64 0, .int .i64 0, .int .i64 0] 36)) y92 92) X hl9 o9
  rw [World.size_alloc] at sA
  obtain ⟨⟨a0, a1, a2, _⟩, _⟩ := ca_cells (blk_old c1 (.cells #[.int .i64 0, .int .i64 0, .int .i64 0] 36))
  obtain ⟨g2, b4, b6⟩ := two_box w (encV (0, 0, 0)) y92 X 36 92 hl9
  have O1 : Aside (Oa Z w cb sb tb K X _) := ⟨h.gr g2, K3.gr g2, b4, b6⟩
  obtain ⟨⟨p0, p1, p2, p3, p4, p5, p6⟩, _⟩ := ca_cells (blk_gr c1 g2)
  simp only [encV] at O1 p0 p1 p2 p3 p4 p5 p6
  obtain ⟨e0, e1', e2, e3, hB, hD⟩ := cD c2 hr.1 hr.2
  simp only [encB4] at hD
  have HD : Aside _ := hD
  have HB : Aside _ := hB
  have HZ : Aside _ := h.zl
  have HL : Aside _ := h.lt
  have C1 : Aside _ := blk_gr c1 g2
  have hi2 := hi
  simp only [encV] at C1
  have X15 : Aside _ := x15
  have X21 : Aside _ := x21
  have X22 : Aside _ := x22
  have X23 : Aside _ := x23
  clear h c1 c2 s1 s2 s1' g2 b4 b6 e1 hi hl9 o9 hD hB hr x15 x21 x22 x23
  have e31 := C.e31; have e32 := C.e32; have e37 := C.e37
  have HK : Aside _ := hk
  have HV : Aside _ := hv
  have HI : Aside _ := hi2
  clear hk hv hi2
  refine callsIn_of_wp_marks R.f11 rfl trivial ?_ rfl
  simp only [Try.ntmps11, List.size_toArray, List.length_cons, List.length_nil, Nat.reduceAdd, Nat.reduceSub, Array.replicate_succ, Array.replicate_zero, List.push_toArray, List.append_toArray, List.nil_append, List.cons_append]
  gi_upto_region 7 with (refine ⟨trivial, ?_⟩; gi_at_fn 30; refine CallsIn.mono (callsIn_wide.2 (HD.out _)) ?_; rintro e w2 ⟨rfl, hG⟩; obtain ⟨⟨q0, q1, q2, q3, q4, q5, q6⟩, ⟨f3, f4, f5, f6⟩⟩ := ca_cells (blk_gr C1.out hG); have O2 : Aside _ := (O1.out.gr hG).words HL.out HB.out; clear hG)
  generalize (((w2.setCell ⟨cb, 3, none⟩ (.int .u64 e0)).setCell ⟨cb, 4, none⟩ (.int .u64 e1')).setCell ⟨cb, 5, none⟩ (.int .u64 e2)).setCell ⟨cb, 6, none⟩ (.int .u64 e3) = V at O2 ⊢
  have c15 := hold_cell (blk_hold O2.out.h) X15.out
  clear q0 q1 q2 q3 q4 q5 q6 f3 f4 f5 f6 a0 a1 a2 p0 p1 p2 p3 p4 p5 p6 lk sA
  have nk : ((K.at i).cd.kind != 2) = false := by simpa using HK.out
  obtain ⟨m, t1⟩ := O2.out.c.t
  have lt := t1.look_ok L.t84 L.t3 L.v36 i
  simp only [show (K.clean i).tl i = none from HV.out, Option.map_none, Option.getD_none, Option.isSome_none] at lt
  obtain ⟨ca, cc, x0, x1, x2, x3, rs, y1, _⟩ := O2.out.c.c
  obtain ⟨⟨q0, q1, q2, _⟩, _⟩ := ca_cells y1
  clear y1 t1
  gi_wp2_with (refine ⟨trivial, ?_⟩; gi_at_fn 31; refine CallsIn.mono (callsIn_wide.2 (C.a _ _ _)) ?_; rintro e w' ⟨rfl, rfl⟩)
  have g6 : Gr V ((((V.alloc (.cells #[.int .i64 0, .int .i64 0, .int .i64 0] 36)).alloc (.cells #[.slice none 0 0] 28)).alloc (.cells #[.pointer (some ⟨cb, 0, none⟩)] 24)).alloc (.cells #[.int .i64 i] 3)) := ((((Gr.refl _).alloc _).alloc _).alloc _).alloc _
  have s6 : ((((V.alloc (.cells #[.int .i64 0, .int .i64 0, .int .i64 0] 36)).alloc (.cells #[.slice none 0 0] 28)).alloc (.cells #[.pointer (some ⟨cb, 0, none⟩)] 24)).alloc (.cells #[.int .i64 i] 3)).heap.size = V.heap.size + 4 := by simp
  have bx6 : ((((V.alloc (.cells #[.int .i64 0, .int .i64 0, .int .i64 0] 36)).alloc (.cells #[.slice none 0 0] 28)).alloc (.cells #[.pointer (some ⟨cb, 0, none⟩)] 24)).alloc (.cells #[.int .i64 i] 3)).heap[V.heap.size + 1]? = some (.cells [Value.slice none 0 0].toArray 28) := by
    have := blk_new (V.alloc (.cells #[.int .i64 0, .int .i64 0, .int .i64 0] 36)) (.cells #[.slice none 0 0] 28)
    rw [World.size_alloc] at this
    exact blk_old (blk_old this _) _
  have bc6 : ((((V.alloc (.cells #[.int .i64 0, .int .i64 0, .int .i64 0] 36)).alloc (.cells #[.slice none 0 0] 28)).alloc (.cells #[.pointer (some ⟨cb, 0, none⟩)] 24)).alloc (.cells #[.int .i64 i] 3)).heap[V.heap.size + 1 + 1]? = some (.cells [Value.pointer (some ⟨cb, 0, none⟩)].toArray 24) := by
    have := blk_new ((V.alloc (.cells #[.int .i64 0, .int .i64 0, .int .i64 0] 36)).alloc (.cells #[.slice none 0 0] 28)) (.cells #[.pointer (some ⟨cb, 0, none⟩)] 24)
    rw [World.size_alloc, World.size_alloc] at this
    exact blk_old this _
  have bs6 : ((((V.alloc (.cells #[.int .i64 0, .int .i64 0, .int .i64 0] 36)).alloc (.cells #[.slice none 0 0] 28)).alloc (.cells #[.pointer (some ⟨cb, 0, none⟩)] 24)).alloc (.cells #[.int .i64 i] 3)).heap[V.heap.size + 1 + 1 + 1]? = some (.cells [Value.int .i64 i].toArray 3) := by
    have := blk_new (((V.alloc (.cells #[.int .i64 0, .int .i64 0, .int .i64 0] 36)).alloc (.cells #[.slice none 0 0] 28)).alloc (.cells #[.pointer (some ⟨cb, 0, none⟩)] 24)) (.cells #[.int .i64 i] 3)
    rw [World.size_alloc, World.size_alloc, World.size_alloc] at this
    exact this
  have O6 := O2.out.gr g6
  have hV : w.heap.size + 1 < V.heap.size := blk_lt O2.out.h
  generalize ((((V.alloc (.cells #[.int .i64 0, .int .i64 0, .int .i64 0] 36)).alloc (.cells #[.slice none 0 0] 28)).alloc (.cells #[.pointer (some ⟨cb, 0, none⟩)] 24)).alloc (.cells #[.int .i64 i] 3)) = W6 at O6 bx6 bc6 bs6 s6 ⊢
  have OX : Ox Z W6.heap.size (V.heap.size + 1) cb sb tb (V.heap.size + 1 + 1) (V.heap.size + 1 + 1 + 1) := by
    obtain ⟨l1, l2, l3⟩ := HL.out
    refine ⟨⟨by omega, by omega, by omega, by omega, by omega⟩, ⟨by omega, by omega, by omega, by omega, by omega⟩, by omega, fun b hb => ?_⟩
    have := HZ.out b hb
    omega
  have S6 : Hid _ := s6
  clear g6 lt q0 q1 q2 c15
  obtain ⟨i49, j1, j2, j3, j4⟩ := C.i49
  refine wpIn_rangeFunc_ownH (α := Ef) rfl (by decide) (gf := 53) (lb := #[.pointer (some ⟨V.heap.size + 1 + 1, 0, none⟩), .pointer (some ⟨V.heap.size + 1 + 1 + 1, 0, none⟩)]) rfl trivial C.e53
    (C.st O6.c bc6 bs6 HI.out (Nat.le_refl _) OX)
    KpA.trans (KpA.putObj (Nat.le_refl _)) (Below.refl _ _) (fun _ => rfl)
    (Zo W6 (V.heap.size + 1)) (fun _ _ _ => False) (Zo.own (by omega)) (fun _ _ _ _ _ hs _ _ => hs)
    ⟨⟨.slice none 0 0, bx6, World.ownsRow_nil _ _ _ _⟩, grow_id _ _⟩
    (fun y a' W => ∃ Bx, W6.heap.size ≤ Bx ∧ W.heap[Bx]? = some (.cells (encE y).toArray 49) ∧ a' = { tmps := ((#[Value.pointer (some { block := cb, off := 0 }), Value.int IntKind.i64 i, undef, undef, Value.pointer (some { block := w.heap.size, off := 0 }), Value.bool false, Value.pointer (some { block := w.heap.size + 1, off := 0 }), Value.bool true, Value.pointer (some { block := V.heap.size, off := 0 }), Value.bool false, Value.pointer (some { block := V.heap.size + 1, off := 0 }), undef, undef, Value.pointer (some { block := cb, off := 0 }), Value.bool false, undef, Value.tuple #[Value.agg X.toArray, Value.bool true], Value.pointer (some { block := cb, off := 0 }), Value.pointer (some { block := cb, off := 0 }), Value.pointer (some { block := cb, off := 1 }), Value.map (some sb), Value.int IntKind.i64 i, Value.tuple #[Value.agg X.toArray, Value.bool true], Value.agg X.toArray, Value.bool true, Value.bool true, Value.bool false, undef, Value.pointer (some { block := cb, off := 0 }), Value.pointer (some { block := cb, off := 0 }), Value.pointer (some { block := cb, off := 0 }), Value.pointer (some { block := cb, off := 3 }), Value.agg #[Value.int IntKind.u64 d0, Value.int IntKind.u64 d1, Value.int IntKind.u64 d2, Value.int IntKind.u64 d3], Value.int IntKind.i64 i, Value.agg #[Value.int IntKind.u64 e0, Value.int IntKind.u64 e1', Value.int IntKind.u64 e2, Value.int IntKind.u64 e3], Value.pointer (some { block := cb, off := 0 }), Value.pointer (some { block := cb, off := 3 }), Value.pointer (some { block := w.heap.size + 1, off := 14 }), Value.pointer (some { block := w.heap.size + 1, off := 15 }), Value.int IntKind.i64 (K.at i).cd.kind, Value.bool false, undef, Value.tuple #[Value.agg #[Value.int IntKind.i64 0, Value.int IntKind.i64 0, Value.int IntKind.i64 0], Value.bool false], Value.pointer (some { block := cb, off := 0 }), Value.pointer (some { block := cb, off := 0 }), Value.pointer (some { block := cb, off := 2 }), Value.map (some tb), Value.int IntKind.i64 i, Value.tuple #[Value.agg #[Value.int IntKind.i64 0, Value.int IntKind.i64 0, Value.int IntKind.i64 0], Value.bool false], Value.agg #[Value.int IntKind.i64 0, Value.int IntKind.i64 0, Value.int IntKind.i64 0], Value.bool false, Value.bool false, undef, Value.pointer (some { block := cb, off := 0 }), Value.int IntKind.i64 i, Value.func (Fn.func 53) #[] #[Value.pointer (some { block := V.heap.size + 1 + 1, off := 0 }), Value.pointer (some { block := V.heap.size + 1 + 1 + 1, off := 0 })], undef, undef, undef, undef, undef, undef, undef, undef, undef, undef, undef, undef, undef, undef, undef, undef, undef, undef, undef, undef, undef, undef, undef, undef, undef, undef] : Array Value).setIfInBounds 56 (.agg (encE y).toArray)).setIfInBounds 11 (.pointer (some ⟨Bx, 0, none⟩)), defers := [] })
    (fun y a' _ X Y row hs hg hr => by
      obtain ⟨Bx, h1, h2, h3⟩ := hs
      refine ⟨Bx, h1, (hg.block Bx (blk_lt h2) (fun e => ?_)).trans h2, h3⟩
      obtain ⟨_, o, ho, hc⟩ := hr Bx e.symm
      rw [h2] at ho
      cases ho
      cases hc)
    ?assign ?body ?done ?stop
  case assign =>
    intro l pre y W K' hi hK'
    obtain ⟨y0, y1, y2, y3⟩ := y
    have g1 : Gr W (W.alloc (.cells #[.int .i64 y0, .int .i64 y1, .int .i64 y2, .int .i64 y3] 49)) := (Gr.refl _).alloc _
    have b1 := blk_new W (.cells #[.int .i64 y0, .int .i64 y1, .int .i64 y2, .int .i64 y3] 49)
    have sw := hi.g.size
    have hK2 := hK' { tmps := ((#[Value.pointer (some { block := cb, off := 0 }), Value.int IntKind.i64 i, undef, undef, Value.pointer (some { block := w.heap.size, off := 0 }), Value.bool false, Value.pointer (some { block := w.heap.size + 1, off := 0 }), Value.bool true, Value.pointer (some { block := V.heap.size, off := 0 }), Value.bool false, Value.pointer (some { block := V.heap.size + 1, off := 0 }), undef, undef, Value.pointer (some { block := cb, off := 0 }), Value.bool false, undef, Value.tuple #[Value.agg X.toArray, Value.bool true], Value.pointer (some { block := cb, off := 0 }), Value.pointer (some { block := cb, off := 0 }), Value.pointer (some { block := cb, off := 1 }), Value.map (some sb), Value.int IntKind.i64 i, Value.tuple #[Value.agg X.toArray, Value.bool true], Value.agg X.toArray, Value.bool true, Value.bool true, Value.bool false, undef, Value.pointer (some { block := cb, off := 0 }), Value.pointer (some { block := cb, off := 0 }), Value.pointer (some { block := cb, off := 0 }), Value.pointer (some { block := cb, off := 3 }), Value.agg #[Value.int IntKind.u64 d0, Value.int IntKind.u64 d1, Value.int IntKind.u64 d2, Value.int IntKind.u64 d3], Value.int IntKind.i64 i, Value.agg #[Value.int IntKind.u64 e0, Value.int IntKind.u64 e1', Value.int IntKind.u64 e2, Value.int IntKind.u64 e3], Value.pointer (some { block := cb, off := 0 }), Value.pointer (some { block := cb, off := 3 }), Value.pointer (some { block := w.heap.size + 1, off := 14 }), Value.pointer (some { block := w.heap.size + 1, off := 15 }), Value.int IntKind.i64 (K.at i).cd.kind, Value.bool false, undef, Value.tuple #[Value.agg #[Value.int IntKind.i64 0, Value.int IntKind.i64 0, Value.int IntKind.i64 0], Value.bool false], Value.pointer (some { block := cb, off := 0 }), Value.pointer (some { block := cb, off := 0 }), Value.pointer (some { block := cb, off := 2 }), Value.map (some tb), Value.int IntKind.i64 i, Value.tuple #[Value.agg #[Value.int IntKind.i64 0, Value.int IntKind.i64 0, Value.int IntKind.i64 0], Value.bool false], Value.agg #[Value.int IntKind.i64 0, Value.int IntKind.i64 0, Value.int IntKind.i64 0], Value.bool false, Value.bool false, undef, Value.pointer (some { block := cb, off := 0 }), Value.int IntKind.i64 i, Value.func (Fn.func 53) #[] #[Value.pointer (some { block := V.heap.size + 1 + 1, off := 0 }), Value.pointer (some { block := V.heap.size + 1 + 1 + 1, off := 0 })], undef, undef, undef, undef, undef, undef, undef, undef, undef, undef, undef, undef, undef, undef, undef, undef, undef, undef, undef, undef, undef, undef, undef, undef, undef, undef] : Array Value).setIfInBounds 56 (.agg (encE (y0, y1, y2, y3)).toArray)).setIfInBounds 11 (.pointer (some ⟨W.heap.size, 0, none⟩)), defers := [] } _ (KeepsFrom.of_grownBy (gr_grown g1) (fun j e => by cases e)) (KpA.gr g1) (hi.gr g1) ⟨W.heap.size, sw, b1, rfl⟩
    have HK' : Aside _ := hK2
    clear hK2 hK' b1 g1 hi
    simp only [encE]
    gi_wp2
    exact HK'.out
  case body =>
    rintro l pre y a' W hl ⟨r, hr⟩ hz ⟨Bx, hBx, bX, rfl⟩ hlt
    obtain ⟨v, hv, hrow⟩ := hz.b
    have sw := hz.g.size
    have hx : V.heap.size + 1 < W6.heap.size := by omega
    clear s6
    have rnd := fun w3 v' => Zo.round (y := y) (w3 := w3) (v' := v') hz.g hv hrow hx
    have cx := (blk_hold hv 0 (by simp))
    obtain ⟨y0, y1, y2, y3⟩ := y
    have b0 := hold_cell (blk_hold bX) (j := 0) (v := .int .i64 y0) rfl
    have b1 := hold_cell (blk_hold bX) (j := 1) (v := .int .i64 y1) rfl
    have b2 := hold_cell (blk_hold bX) (j := 2) (v := .int .i64 y2) rfl
    have b3 := hold_cell (blk_hold bX) (j := 3) (v := .int .i64 y3) rfl
    change World.cell? _ ⟨V.heap.size + 1, 0, none⟩ = some v ∧ World.frozen? _ ⟨V.heap.size + 1, 0, none⟩ = false at cx
    obtain ⟨cx, fx⟩ := cx
    have hBl := blk_lt bX
    have hvl := blk_lt hv
    have RND : Aside _ := rnd
    have HROW : Aside (W.ownsRow W6.heap.size 49 4 v pre.length (flatE pre)) := hrow
    have HV2 : Aside _ := hv
    have hap : ∀ (w3 : World), (W.alloc (.cells (encE (y0, y1, y2, y3)).toArray 49)).grownBy w3 v.ownBlock → w3.cell? ⟨V.heap.size + 1, 0, none⟩ = some v ∧ w3.frozen? ⟨V.heap.size + 1, 0, none⟩ = false := fun w3 hg => by
      have hne : some (V.heap.size + 1) ≠ v.ownBlock := fun e => by
        rcases own_apart' hrow hv (fun cs e => by cases e) with h | h
        · rw [h] at e; cases e
        · exact h e.symm
      have := (hg.block _ (by simp; omega) hne).trans (blk_old hv _)
      exact blk_hold this 0 (by simp)
    have HAP : Aside _ := hap
    clear hz hv hrow rnd bX hap hr
    simp only [encE, List.setIfInBounds_toArray, List.set_cons_succ, List.set_cons_zero] at RND HAP ⊢
    gi_wp2_with (
      gi_at_builtin
      refine wpListIn_append_own _ rfl _ _ 28 rfl W6.heap.size 49 i49 _ 4 32 L.t28 j1 j2 j3 j4 rfl (by decide) v pre.length (flatE pre) rfl (HROW.out.alloc _) ⟨W.heap.size, 0, none⟩ 1 1 (encE (y0, y1, y2, y3)) rfl rfl ?_ (encE_one _) (by unfold maxLen; omega) (by omega) (by simp; omega) ?_
      · intro j u hj
        rw [Addr.add_lit, Nat.zero_add]
        exact hold_cell (blk_hold (blk_new W (.cells (encE (y0, y1, y2, y3)).toArray 49))) hj
      intro v' w3 hown' hg3 _
      obtain ⟨qa, qc, rfl⟩ := own_slice2 hown'
      obtain ⟨cx3, fx3⟩ := HAP.out w3 hg3
      have FIN : Aside _ := RND.out w3 _ hg3 hown'
      clear hown' hg3)
    exact FIN.out
  case done =>
    rintro D ys W hD rfl hz hD2
    rename_i hKK
    have HKK : Aside _ := hKK
    clear hKK
    refine HKK.out _ _ ?_
    refine wpIn_wide.2 ?_
    clear HKK
    obtain ⟨v, hv, hrow⟩ := hz.b
    obtain ⟨qa, qc, rfl⟩ := own_slice2 hrow
    obtain ⟨l1, l2, l3⟩ := O6.c.lt
    have hsz := hz.g.size
    have hne : ∀ k, k < W6.heap.size → k ≠ V.heap.size + 1 → W.heap[k]? = W6.heap[k]? := fun k hk hx => hz.g.block k hk (by simpa using hx)
    have O7 : Oa Z w cb sb tb (K.clean i) X W := ⟨O6.c.keep ⟨hsz, fun b hb hl => hne b hl (OX.z b hb).2⟩ (hne _ l1 (fun e => OX.n.1 e.symm)) (hne _ l2 (fun e => OX.n.2.1 e.symm)) (hne _ l3 (fun e => OX.n.2.2.1 e.symm)), O6.k.then hz.g (fun b e => by cases e; exact .inr (.inr (.inr (by omega)))), (hne _ (by omega) (by omega)).trans O6.r, (hne _ (by omega) (by omega)).trans O6.h⟩
    have hlen : (actE K i).length ≤ 1000000 := by
      have h1 : ∀ k, (K.at k).cd.abs.length ≤ 1000 := fun k => O6.c.nab k
      have h2 : (K.at i).effs.length ≤ 1000 := O6.c.nef i
      have h3 : ((keysK K).flatMap (fun b => statE K i b (K.at b).cd.abs)).length ≤ 256000 := by
        refine Nat.le_trans (flat_len' _ 1000 _ (fun b _ => Nat.le_trans (statE_len _ _ _ _) (h1 b))) ?_
        have : (keysK K).length ≤ 256 := by
          refine Nat.le_trans (List.length_filter_le _ _) ?_
          simp
        omega
      unfold actE
      rw [List.length_append]
      omega
    have cs := C.so hrow (by show (actE K i).length < _; omega)
    have CS : Aside (∀ _ : Unit, Calls P 32 #[.slice qa (actE K i).length qc, .func (.func 33) #[] #[]] W _) := fun _ => cs
    have cx := hold_cell (blk_hold hv) (j := 0) (v := .slice qa (actE K i).length qc) rfl
    have O7' : Aside _ := O7
    have HV3 : Aside _ := hv
    have HR3 : Aside (W.ownsRow W6.heap.size 49 4 (.slice qa (actE K i).length qc) (actE K i).length (flatE (actE K i))) := hrow
    have HD2 : Aside _ := hD2
    have HDn : Aside _ := hD
    have OX' : Aside _ := OX
    clear hz hv hrow O7 hD2 cs hne hsz O6 bx6 bc6 bs6 hD OX l1 l2 l3
    go_upto_region 17 with (first | (go_at_fn 32; refine (CS.out ()).mono ?_; rintro e W2 ⟨rfl, T, hS, hrow2, hg2⟩))
    have B8 : Ob Z w cb sb tb (K.clean i) X (V.heap.size + 1) D (.slice qa (actE K i).length qc) W2 := Ob.row ⟨O7'.out, HV3.out, HD2.out⟩ HR3.out hg2 (by have := S6.out; omega) ⟨OX'.out.l.1, OX'.out.l.2.1, OX'.out.l.2.2.1⟩ (fun b hb => (OX'.out.z b hb).1)
    have c21 := hold_cell (blk_hold B8.o.h) X21.out
    have c22 := hold_cell (blk_hold B8.o.h) X22.out
    have c23 := hold_cell (blk_hold B8.o.h) X23.out
    have cx2 := hold_cell (blk_hold B8.x) (j := 0) (v := .slice qa (actE K i).length qc) rfl
    obtain ⟨⟨r0, r1, r2⟩, hrr⟩ : ∃ v, foldE T ((K.at i).cd.pow, (K.at i).cd.tou, (K.at i).cd.keys) = v := ⟨_, rfl⟩
    have hrow3 : W2.ownsRow W6.heap.size 49 4 (.slice qa T.length qc) T.length (flatE T) := by rw [hS.ln] at hrow2 ⊢; exact hrow2
    have cf := C.fo ((K.at i).cd.pow, (K.at i).cd.tou, (K.at i).cd.keys) hrow3 (by rw [hS.ln]; exact hlen)
    rw [hrr, hS.ln] at cf
    simp only [encV] at cf
    have CFO : Aside (∀ _ : Unit, Calls P 37 _ W2 _) := fun _ => cf
    have HCHR : Aside (Chr K i (r0, r1, r2)) := ⟨T, hS, hrr.symm⟩
    have B8' : Aside _ := B8
    clear hS hrow2 hg2 hrr hrow3 cf B8
    go_upto_region 18 with (first | (go_at_fn 37; refine (CFO.out ()).mono ?_; rintro e W3 ⟨rfl, hB⟩; have B9 : Aside _ := B8'.out.below hB; clear hB))
    have B10 := (B9.out.gr ((Gr.refl _).alloc (.cells #[.int .i64 r0, .int .i64 r1, .int .i64 r2] 36))).gr (Gr.refl _).drew
    have b12 : (W3.alloc (.cells #[.int .i64 r0, .int .i64 r1, .int .i64 r2] 36)).drew.heap[W3.heap.size]? = some (.cells (encV (r0, r1, r2)).toArray 36) := blk_gr (blk_new W3 (.cells #[.int .i64 r0, .int .i64 r1, .int .i64 r2] 36)) (Gr.refl _).drew
    obtain ⟨W5, hmu, B11, g11⟩ := B10.tell L.t84 L.t3 (i := i) HI.out (r0, r1, r2) ⟨by omega, HL.out⟩
    simp only [encV] at hmu
    obtain ⟨ca, cc, z0, z1, z2, z3, rs, y1, _⟩ := B10.o.c.c
    obtain ⟨⟨q0, q1, q2, _⟩, _⟩ := ca_cells y1
    have ht : tb < W3.heap.size := (B9.out.o.c.lt).2.2
    have b12' := (g11.block _ (blk_lt b12) (by simp; omega)).trans b12
    have e0' := hold_cell (blk_hold b12) (j := 0) (v := .int .i64 r0) rfl
    have e1'' := hold_cell (blk_hold b12) (j := 1) (v := .int .i64 r1) rfl
    have e2' := hold_cell (blk_hold b12) (j := 2) (v := .int .i64 r2) rfl
    have h0' := hold_cell (blk_hold b12') (j := 0) (v := .int .i64 r0) rfl
    have h1' := hold_cell (blk_hold b12') (j := 1) (v := .int .i64 r1) rfl
    have h2' := hold_cell (blk_hold b12') (j := 2) (v := .int .i64 r2) rfl
    have fr := blk_hold B11.o.r
    obtain ⟨u0, f0⟩ := fr 0 (by simp [encV])
    obtain ⟨u1, f1⟩ := fr 1 (by simp [encV])
    obtain ⟨u2, f2⟩ := fr 2 (by simp [encV])
    change World.cell? _ ⟨w.heap.size, 0, none⟩ = some (.int .i64 0) at u0
    change World.cell? _ ⟨w.heap.size, 1, none⟩ = some (.int .i64 0) at u1
    change World.cell? _ ⟨w.heap.size, 2, none⟩ = some (.int .i64 0) at u2
    change World.frozen? _ ⟨w.heap.size, 0, none⟩ = false at f0
    change World.frozen? _ ⟨w.heap.size, 1, none⟩ = false at f1
    change World.frozen? _ ⟨w.heap.size, 2, none⟩ = false at f2
    have B11' : Aside _ := B11
    clear fr b12 b12' y1 g11 B10 B11 c21 c22 c23 cx2
    go_big_region_o
    clear q0 q1 q2 e0' e1'' e2' hmu
    go_wp2
    obtain ⟨fd, fc, fk⟩ := B11'.out.fin HL.out HZ.out (by have := HDn.out; have := S6.out; omega) [.int .i64 r0, .int .i64 r1, .int .i64 r2]
    refine ⟨by simp, .inl ⟨_, _, rfl, run_takeDeferred fd, ?_⟩⟩
    refine ⟨.tuple #[.agg #[.int .i64 r0, .int .i64 r1, .int .i64 r2], .bool true], ?_, (r0, r1, r2), HCHR.out, rfl, fc, fk⟩
    have hdw : w.heap.size ≠ D := by have := HDn.out; have := S6.out; omega
    have bG := (World.putObj_heap_other (o := .deferred none) hdw).trans (blk_put B11'.out.o.r [.int .i64 r0, .int .i64 r1, .int .i64 r2] rfl)
    have g0 := hold_cell (blk_hold bG) (j := 0) (v := .int .i64 r0) rfl
    have g1 := hold_cell (blk_hold bG) (j := 1) (v := .int .i64 r1) rfl
    have g2 := hold_cell (blk_hold bG) (j := 2) (v := .int .i64 r2) rfl
    simp only [World.setCells] at g0 g1 g2
    simp [results, go_sem, Try.results11, a36, z36, g0, g1, g2]
  case stop =>
    rintro D c pre W _ _ h _
    exact h.elim
end Go.Proofs.Yticgadnmlbfmfaa.cachePlays
