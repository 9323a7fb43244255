/-
  Chapter 25: the law with both caches: its steps.
-/
import Derived.Test.YticgadnmlbfmfaaTya
namespace Go.Proofs.Yticgadnmlbfmfaa.cachePlays
open Go.Shelf Go.RowKit Go.Lib Go.Sort Go.Maps
/-- Both caches, and blocks of the law's own. -/
structure Tw (w0 : World) (E : Nat → Prop) (cb sb tb rb : Nat) (K : Ca) (R : Rc) (W : World) : Prop where
  b : Below w0.heap.size w0 W
  k : ∃ Z : Nat → Prop, CaAt Z W cb sb tb K ∧ ¬ Z rb ∧ ∀ b, E b → ¬ Z b
  r : ∃ Z : Nat → Prop, RcAt Z W rb R ∧ (¬ Z cb ∧ ¬ Z sb ∧ ¬ Z tb) ∧ ∀ b, E b → ¬ Z b
  n : rb ≠ cb ∧ rb ≠ sb ∧ rb ≠ tb
  hi : w0.heap.size ≤ cb ∧ w0.heap.size ≤ sb ∧ w0.heap.size ≤ tb ∧ w0.heap.size ≤ rb
  i : Inv K
  e : ∀ b, E b → w0.heap.size ≤ b ∧ b < W.heap.size ∧ b ≠ cb ∧ b ≠ sb ∧ b ≠ tb ∧ b ≠ rb
/-- The law's own blocks are as they were. -/
def KpE (E : Nat → Prop) (w w' : World) : Prop := ∀ b, E b → w'.heap[b]? = w.heap[b]?
theorem Tw.lt {w0 : World} {E : Nat → Prop} {cb sb tb rb : Nat} {K : Ca} {R : Rc} {W : World} (h : Tw w0 E cb sb tb rb K R W) : cb < W.heap.size ∧ sb < W.heap.size ∧ tb < W.heap.size ∧ rb < W.heap.size := by
  obtain ⟨Z, c, _⟩ := h.k
  obtain ⟨Z2, r, _⟩ := h.r
  exact ⟨c.lt.1, c.lt.2.1, c.lt.2.2, r.lt⟩
theorem Tw.gr {w0 : World} {E : Nat → Prop} {cb sb tb rb : Nat} {K : Ca} {R : Rc} {W W' : World} (h : Tw w0 E cb sb tb rb K R W) (g : Below W.heap.size W W') : Tw w0 E cb sb tb rb K R W' := by
  obtain ⟨Z, c, z1, z2⟩ := h.k
  obtain ⟨Z2, r, z3, z4⟩ := h.r
  refine ⟨h.b.trans (g.mono h.b.size), ⟨Z, c.below g, z1, z2⟩, ⟨Z2, r.below g, z3, z4⟩, h.n, h.hi, h.i, fun b hb => ?_⟩
  obtain ⟨e1, e2, e3⟩ := h.e b hb
  exact ⟨e1, Nat.lt_of_lt_of_le e2 g.size, e3⟩
theorem Tw.gr' {w0 : World} {E : Nat → Prop} {cb sb tb rb : Nat} {K : Ca} {R : Rc} {W W' : World} (h : Tw w0 E cb sb tb rb K R W) (g : Gr W W') : Tw w0 E cb sb tb rb K R W' := h.gr (gr_below (.refl _ _) (Nat.le_refl _) g)
/-- New blocks become the law's own. -/
theorem Tw.add {w0 : World} {E : Nat → Prop} {cb sb tb rb : Nat} {K : Ca} {R : Rc} {W W' : World} (h : Tw w0 E cb sb tb rb K R W) (g : Below W.heap.size W W') : Tw w0 (fun b => E b ∨ (W.heap.size ≤ b ∧ b < W'.heap.size)) cb sb tb rb K R W' := by
  have h2 := h.gr g
  obtain ⟨l1, l2, l3, l4⟩ := h.lt
  obtain ⟨Z, c, z1, z2⟩ := h.k
  obtain ⟨Z2, r, z3, z4⟩ := h.r
  refine ⟨h2.b, ⟨Z, c.below g, z1, fun b hb => ?_⟩, ⟨Z2, r.below g, z3, fun b hb => ?_⟩, h.n, h.hi, h.i, fun b hb => ?_⟩
  · rcases hb with hb | hb
    · exact z2 b hb
    · exact fun hz => by have := c.zl b hz; omega
  · rcases hb with hb | hb
    · exact z4 b hb
    · exact fun hz => by have := r.zl b hz; omega
  · rcases hb with hb | hb
    · exact h2.e b hb
    · have := h.b.size
      exact ⟨by omega, hb.2, by omega, by omega, by omega, by omega⟩
theorem Tw.less {w0 : World} {E E' : Nat → Prop} {cb sb tb rb : Nat} {K : Ca} {R : Rc} {W : World} (h : Tw w0 E cb sb tb rb K R W) (he : ∀ b, E' b → E b) : Tw w0 E' cb sb tb rb K R W := by
  obtain ⟨Z, c, z1, z2⟩ := h.k
  obtain ⟨Z2, r, z3, z4⟩ := h.r
  exact ⟨h.b, ⟨Z, c, z1, fun b hb => z2 b (he b hb)⟩, ⟨Z2, r, z3, fun b hb => z4 b (he b hb)⟩, h.n, h.hi, h.i, fun b hb => h.e b (he b hb)⟩
/-- A block of the law's own is written. -/
theorem Tw.own {w0 : World} {E : Nat → Prop} {cb sb tb rb : Nat} {K : Ca} {R : Rc} {W W' : World} (h : Tw w0 E cb sb tb rb K R W) {b : Nat} (hb : E b) (g : W.grownBy W' (some b)) : Tw w0 E cb sb tb rb K R W' := by
  obtain ⟨l1, l2, l3, l4⟩ := h.lt
  obtain ⟨e1, e2, e3, e4, e5, e6⟩ := h.e b hb
  obtain ⟨Z, c, z1, z2⟩ := h.k
  obtain ⟨Z2, r, z3, z4⟩ := h.r
  refine ⟨h.b.grown g h.b.size (fun k hk => by cases hk; exact e1), ⟨Z, c.keep (Kz.grown g fun k hk => by cases hk; exact z2 b hb) (g.block _ l1 (by simpa using Ne.symm e3)) (g.block _ l2 (by simpa using Ne.symm e4)) (g.block _ l3 (by simpa using Ne.symm e5)), z1, z2⟩, ⟨Z2, r.keep (Kz.grown g fun k hk => by cases hk; exact z4 b hb) (g.block _ l4 (by simpa using Ne.symm e6)), z3, z4⟩, h.n, h.hi, h.i, fun k hk => ?_⟩
  obtain ⟨f1, f2, f3⟩ := h.e k hk
  exact ⟨f1, Nat.lt_of_lt_of_le f2 g.size, f3⟩
/-- The program's cache has changed. -/
theorem Tw.stepK {w0 : World} {E : Nat → Prop} {cb sb tb rb : Nat} {K K' : Ca} {R : Rc} {W W' : World} {Z' : Nat → Prop} {Z : Nat → Prop} (h : Tw w0 E cb sb tb rb K R W) (z1 : ¬ Z rb) (z2 : ∀ b, E b → ¬ Z b) (c : CaAt Z' W' cb sb tb K') (g : K3 cb sb tb W W') (hz : ∀ b, Z' b → Z b ∨ W.heap.size ≤ b) (hi : Inv K') : Tw w0 E cb sb tb rb K' R W' ∧ KpE E W W' ∧ W.heap.size ≤ W'.heap.size := by
  obtain ⟨l1, l2, l3, l4⟩ := h.lt
  obtain ⟨Z2, r, z3, z4⟩ := h.r
  obtain ⟨n1, n2, n3⟩ := h.n
  obtain ⟨i1, i2, i3, i4⟩ := h.hi
  refine ⟨⟨⟨g.os.trans h.b.os, g.tape.trans h.b.tape, g.output.trans h.b.output, Nat.le_trans h.b.size g.size, fun k hk => (g.k k (Nat.lt_of_lt_of_le hk h.b.size) (by omega) (by omega) (by omega)).trans (h.b.block k hk)⟩, ⟨Z', c, fun hh => ?_, fun b hb hh => ?_⟩, ⟨Z2, r.keep (g.kz z3) (g.k rb l4 n1 n2 n3), z3, z4⟩, h.n, h.hi, hi, fun b hb => ?_⟩, fun b hb => ?_, g.size⟩
  · rcases hz _ hh with hh | hh
    · exact z1 hh
    · omega
  · rcases hz _ hh with hh | hh
    · exact z2 b hb hh
    · have := (h.e b hb).2.1; omega
  · obtain ⟨f1, f2, f3⟩ := h.e b hb
    exact ⟨f1, Nat.lt_of_lt_of_le f2 g.size, f3⟩
  · obtain ⟨f1, f2, f3, f4, f5, f6⟩ := h.e b hb
    exact g.k b f2 f3 f4 f5
/-- The answer's cache has changed. -/
theorem Tw.stepR {w0 : World} {E : Nat → Prop} {cb sb tb rb : Nat} {K : Ca} {R R' : Rc} {W W' : World} {Z' : Nat → Prop} {Z : Nat → Prop} (h : Tw w0 E cb sb tb rb K R W) (z1 : ¬ Z cb ∧ ¬ Z sb ∧ ¬ Z tb) (z2 : ∀ b, E b → ¬ Z b) (c : RcAt Z' W' rb R') (g : OutK (fun b => b = rb) W W') (hz : ∀ b, Z' b → Z b ∨ W.heap.size ≤ b) : Tw w0 E cb sb tb rb K R' W' ∧ KpE E W W' ∧ W.heap.size ≤ W'.heap.size := by
  obtain ⟨l1, l2, l3, l4⟩ := h.lt
  obtain ⟨Z2, k, z3, z4⟩ := h.k
  obtain ⟨n1, n2, n3⟩ := h.n
  obtain ⟨i1, i2, i3, i4⟩ := h.hi
  have nz : ∀ b, b < W.heap.size → ¬ Z b → ¬ Z' b := fun b hb hn hh => by
    rcases hz _ hh with hh | hh
    · exact hn hh
    · omega
  refine ⟨⟨⟨g.os.trans h.b.os, g.tape.trans h.b.tape, g.output.trans h.b.output, Nat.le_trans h.b.size g.size, fun q hk => (g.k q (Nat.lt_of_lt_of_le hk h.b.size) (by omega)).trans (h.b.block q hk)⟩, ⟨Z2, k.keep (g.kz fun b hb e => z3 (e ▸ hb)) (g.k cb l1 (Ne.symm n1)) (g.k sb l2 (Ne.symm n2)) (g.k tb l3 (Ne.symm n3)), z3, z4⟩, ⟨Z', c, ⟨nz _ l1 z1.1, nz _ l2 z1.2.1, nz _ l3 z1.2.2⟩, fun b hb => nz b (h.e b hb).2.1 (z2 b hb)⟩, h.n, h.hi, h.i, fun b hb => ?_⟩, fun b hb => ?_, g.size⟩
  · obtain ⟨f1, f2, f3⟩ := h.e b hb
    exact ⟨f1, Nat.lt_of_lt_of_le f2 g.size, f3⟩
  · obtain ⟨f1, f2, f3, f4, f5, f6⟩ := h.e b hb
    exact g.k b f2 f6
end Go.Proofs.Yticgadnmlbfmfaa.cachePlays
/-
  Chapter 25: the law's pool, walked.
-/
namespace Go.Proofs.Yticgadnmlbfmfaa.cachePlays
open Go.Shelf Go.RowKit Go.Lib Go.Sort Go.Maps
/-- A card that came in: its abilities are as many as they are. -/
structure CdI (Z : Nat → Prop) (w : World) (r : List Value) (c : Cd) : Prop where
  len : r.length = 11
  one : ∀ v ∈ r, v.oneCell' = true
  q1 : r[1]? = some (.int .i64 c.kind)
  q7 : r[7]? = some (.int .i64 c.pow)
  q8 : r[8]? = some (.int .i64 c.tou)
  q9 : r[9]? = some (.int .i64 c.keys)
  ab : ∃ (ad : Option Addr) (cp : Nat) (rs : List (List Value)), r[10]? = some (.slice ad c.abs.length cp) ∧ c.abs.length ≤ cp ∧ RowsZ Z w ad 13 rs ∧ rs.length = c.abs.length ∧ ∀ (i : Nat) (r : List Value) (x : Ab), rs[i]? = some r → c.abs[i]? = some x → AbR r x
/-- Cards that came in. -/
structure CsI (w : World) (ca : Option Addr) (cards : List Cd) : Prop where
  x : ∃ rs : List (List Value), RowsZ (fun b => b < w.heap.size) w ca 11 rs ∧ rs.length = cards.length ∧ ∀ (i : Nat) (r : List Value) (x : Cd), rs[i]? = some r → cards[i]? = some x → CdI (fun b => b < w.heap.size) w r x
def ct (c : Cd) : Cd := { c with abs := c.abs.take 4 }
/-- A card, cut. -/
theorem CdI.cut {Z : Nat → Prop} {w : World} {r : List Value} {c : Cd} (h : CdI Z w r c) {ad : Option Addr} {cp : Nat} (e : r[10]? = some (.slice ad c.abs.length cp)) : CdR Z w (r.set 10 (.slice ad (c.abs.take 4).length cp)) (ct c) := by
  obtain ⟨ad', cp', rs, a1, a2, a3, a4, a5⟩ := h.ab
  rw [e] at a1
  injection a1 with a1
  injection a1 with b1 _ b2
  subst b1 b2
  refine ⟨by simpa using h.len, fun v hv => ?_, ?_, ?_, ?_, ?_, ⟨ad, cp, rs.take 4, by rw [List.getElem?_set_self (by rw [h.len]; decide)]; rfl, rowsZ_take a3 4, by show _ = (c.abs.take 4).length; rw [List.length_take, List.length_take, a4], fun i r x hr hx => ?_⟩, by show (c.abs.take 4).length ≤ 1000; rw [List.length_take]; omega⟩
  · rcases List.mem_or_eq_of_mem_set hv with hv | rfl
    · exact h.one v hv
    · rfl
  · rw [List.getElem?_set_ne (by decide)]; exact h.q1
  · rw [List.getElem?_set_ne (by decide)]; exact h.q7
  · rw [List.getElem?_set_ne (by decide)]; exact h.q8
  · rw [List.getElem?_set_ne (by decide)]; exact h.q9
  · have hx : (c.abs.take 4)[i]? = some x := hx
    rw [List.getElem?_take] at hr hx
    split at hr
    · rename_i hi
      rw [if_pos hi] at hx
      exact a5 i r x hr hx
    · cases hr
/-- What is held while the pool is laid. -/
structure Plx (w : World) (cards : List Cd) (i : Nat) (rows : List (List Value)) (v : Value) (W : World) : Prop where
  b : Below w.heap.size w W
  o : W.ownsRow w.heap.size 82 11 v rows.length rows.flatten
  n : rows.length = i
  r : ∀ (j : Nat) (r : List Value) (x : Cd), rows[j]? = some r → cards[j]? = some x → CdR (fun b => b < w.heap.size) w r (ct x)
theorem Plx.next {w : World} {cards : List Cd} {i : Nat} {rows : List (List Value)} {v v' : Value} {W W1 w' : World} (h : Plx w cards i rows v W) (h1 : Below W.heap.size W W1) {r : List Value} {x : Cd} (hx : cards[i]? = some x) (hr : CdR (fun b => b < w.heap.size) w r (ct x)) (ho : w'.ownsRow w.heap.size 82 11 v' (rows.length + 1) (rows.flatten ++ r)) (hg : (W1.alloc (.cells r.toArray 82)).grownBy w' v.ownBlock) : Plx w cards (i + 1) (rows ++ [r]) v' w' := by
  have b1 := h.b.trans (h1.mono h.b.size)
  refine ⟨(b1.alloc b1.size (.cells r.toArray 82)).grown hg (by have := b1.size; simp; omega) (fun k hk => (h.o.lt k hk).1), ?_, by rw [List.length_append, h.n]; rfl, fun j r' x' hr' hx' => ?_⟩
  · rw [List.length_append, List.flatten_append]
    simpa using ho
  · rcases Nat.lt_or_ge j rows.length with hj | hj
    · rw [List.getElem?_append_left hj] at hr'
      exact h.r j r' x' hr' hx'
    · rw [List.getElem?_append_right hj] at hr'
      have hj0 : j - rows.length = 0 := by
        rcases Nat.eq_zero_or_pos (j - rows.length) with h0 | h0
        · exact h0
        · rw [List.getElem?_eq_none (by simp; omega)] at hr'
          cases hr'
      rw [hj0] at hr'
      cases hr'
      have : j = i := by have := h.n; omega
      subst this
      rw [hx] at hx'
      cases hx'
      exact hr
theorem Plx.cs {w : World} {cards : List Cd} {i : Nat} {rows : List (List Value)} {a : Option Addr} {c : Nat} {W : World} (h : Plx w cards i rows (.slice a rows.length c) W) (hi : i ≤ cards.length) (h12 : i ≤ 12) : Cs (fun b => b < W.heap.size) W a ((cards.take i).map ct) := by
  have hl : ∀ x ∈ rows, x.length = 11 := fun x hx => by
    obtain ⟨j, hj, rfl⟩ := List.getElem_of_mem hx
    exact (h.r j _ _ (List.getElem?_eq_getElem hj) (List.getElem?_eq_getElem (show j < cards.length by have := h.n; omega))).len
  refine ⟨⟨rows, (own_rowsZ h.o hl).mono fun b hb _ => hb.2, by rw [List.length_map, List.length_take, h.n]; omega, fun j r x hr hx => ?_⟩, by rw [List.length_map, List.length_take]; omega, fun b hb => hb⟩
  rw [List.getElem?_map, List.getElem?_take] at hx
  split at hx
  · obtain ⟨y, hy, rfl⟩ := Option.map_eq_some_iff.1 hx
    exact ((h.r j r y hr hy).keep (Kz.below h.b)).mono fun b hb _ => Nat.lt_of_lt_of_le hb h.b.size
  · cases hx
theorem own_belowK {W W' : World} {base e k n : Nat} {v : Value} {l : List Value} (h : W.ownsRow base e k v n l) (g : Below W.heap.size W W') : W'.ownsRow base e k v n l := by
  refine ⟨h.1, ?_⟩
  rcases h.2 with h | ⟨g', cap, cur, hv, hg, hc, hr⟩
  · exact .inl h
  · exact .inr ⟨g', cap, cur, hv, hg, by rw [g.block g' (blk_lt hc)]; exact hc, hr⟩
def PlOK (w : World) (cards : List Cd) (e : Ending) (w' : World) : Prop := ∃ (a : Option Addr) (c : Nat), e = .returned (.slice a ((cards.take 12).map ct).length c) ∧ Cs (fun b => b < w'.heap.size) w' a ((cards.take 12).map ct) ∧ Below w.heap.size w w'
set_option maxHeartbeats 8000000 in
set_option maxRecDepth 100000 in
theorem pool_calls {P : Program} {k30 k82 k89 k92 k59 : Nat} {y30 y82 y89 y92 y59 : List Value} (L : LayQ P k30 k82 k89 k92 y30 y82 y89 y92) (V : LayV P k59 y59) (h82 : k82 = 11) (f13 : P.funcs[13]? = some Try.f13) (hy : y82.length = k82) (oy : ∀ v ∈ y82, v.oneCell' = true) (i82 : ∃ i z, P.info? 82 = some i ∧ i.zero = some z ∧ z.cells.size = 11 ∧ i.size = 11 ∧ i.bytes ≤ 1000) {w : World} {ca : Option Addr} {cards : List Cd} (h : CsI w ca cards) (cc : Nat) : Calls P 13 #[.slice ca cards.length cc] w (PlOK w cards) := by
  have mixed := L.mixed; have t3 := L.t3; have qt3 := run_underlying L.t3; have a3 := L.a3; have z3 := L.z3; have v3 := L.v3; have t4 := L.t4; have qt4 := run_underlying L.t4; have a4 := L.a4; have z4 := L.z4; have v4 := L.v4; have t26 := L.t26; have qt26 := run_underlying L.t26; have a26 := L.a26; have z26 := L.z26; have v26 := L.v26; have t28 := L.t28; have qt28 := run_underlying L.t28; have a28 := L.a28; have z28 := L.z28; have v28 := L.v28; have t80 := L.t80; have qt80 := run_underlying L.t80; have a80 := L.a80; have z80 := L.z80; have v80 := L.v80; have t30 := L.t30; have qt30 := run_underlying L.t30; have a30 := L.a30; have z30 := L.z30; have v30 := L.v30; have t82 := L.t82; have qt82 := run_underlying L.t82; have a82 := L.a82; have z82 := L.z82; have v82 := L.v82; have e38 := V.e38; have e39 := V.e39; have e40 := V.e40; have e41 := V.e41; have e42 := V.e42; have e43 := V.e43; have e44 := V.e44; have t43 := V.t43; have qt43 := run_underlying V.t43; have a43 := V.a43; have z43 := V.z43; have v43 := V.v43; have t59 := V.t59; have qt59 := run_underlying V.t59; have a59 := V.a59; have z59 := V.z59; have v59 := V.v59; have t56 := V.t56; have qt56 := run_underlying V.t56; have a56 := V.a56; have z56 := V.z56; have t57 := V.t57; have qt57 := run_underlying V.t57; have a57 := V.a57; have z57 := V.z57; have z9 := V.z9; have z79 := V.z79
  have z89 := L.z89; have a89 := L.a89; have qu89 := run_underlying L.t89
  have HH : Aside (CsI w ca cards) := h
  have H82 : Aside (k82 = 11) := h82
  have HY : Aside (y82.length = k82) := hy
  have n82 : ¬ k82 = 0 := by rw [h82]; decide
  have m82 : ¬ 16777216 < k82 := by rw [h82]; decide
  have S0 : Aside (Plx w cards 0 [] (.slice none 0 0) w) := (show Plx w cards 0 [] (.slice none 0 0) w from ⟨.refl _ _, World.ownsRow_nil _ _ _ _, rfl, fun j r x hr => by simp at hr⟩)
  clear h h82 hy
  go_enter f13, Try.ntmps13
  go_wp2
  go_loopg [3, 4] cards.length (fun kx s3 s4 wr => ∃ (i : Nat) (ov : Value) (rows : List (List Value)), ov = s3 ∧ s4 = .int .i64 i ∧ i ≤ cards.length ∧ i ≤ 12 ∧ cards.length - i ≤ kx ∧ Aside (Plx w cards i rows ov wr))
  case atStart => exact ⟨0, _, [], rfl, rfl, Nat.zero_le _, Nat.zero_le _, Nat.le_refl _, S0⟩
  case round =>
    clear S0
    obtain ⟨i, ov, rows, rfl, rfl, hi, hi12, hkx, S1⟩ := hrel
    have wi : IntKind.i64.wrap ((i : Int) + 1) = (i : Int) + 1 := by rw [IntKind.wrap_i64]; omega
    by_cases hlt : i < cards.length
    · have hltz : (i : Int) < (cards.length : Int) := by omega
      by_cases h12 : i < 12
      · have h12z : (i : Int) < 12 := by omega
        obtain ⟨rs, z1, z2, z3⟩ := HH.out.x
        obtain ⟨x, hx⟩ : ∃ x, cards[i]? = some x := ⟨_, List.getElem?_eq_getElem hlt⟩
        obtain ⟨r, hr⟩ : ∃ r, rs[i]? = some r := ⟨_, List.getElem?_eq_getElem (by omega)⟩
        have hI := z3 i r x hr hx
        obtain ⟨CB, CO, rfl, _, _, hld⟩ := z1.ld P hr hI.len
        obtain ⟨ad, cp, _, r10, hle, _⟩ := hI.ab
        have HCU : Aside (CdR (fun b => b < w.heap.size) w (r.set 10 (.slice ad (x.abs.take 4).length cp)) (ct x)) := hI.cut r10
        have lC : Sem.run P (loadCellsFrom ⟨CB, CO + i * k82, none⟩ 0 k82 #[]) wr = .ok r.toArray wr := by
          rw [H82.out]
          exact hld _ (Kz.below S1.out.b)
        have rl : r.length = k82 := by rw [H82.out]; exact hI.len
        have HX : Aside (cards[i]? = some x) := hx
        have bw := blk_new wr (.cells y82.toArray 82)
        have sA := hold_st P (blk_hold bw) r (rl.trans HY.out.symm) hI.one
        have bw2 := blk_put bw r (rl.trans HY.out.symm)
        have c10 : ((wr.alloc (.cells y82.toArray 82)).setCells wr.heap.size 0 r).cell? ⟨wr.heap.size, 10, none⟩ = some (.slice ad x.abs.length cp) := hold_cell (blk_hold bw2) (j := 10) r10
        have f10 := (blk_hold bw2 10 (by simpa using (show 10 < r.length by rw [hI.len]; decide))).2
        rw [Nat.zero_add] at f10
        have hm : (x.abs.take 4).length = (min (x.abs.length : Int) 4).toNat := by rw [List.length_take]; omega
        rw [hm] at HCU
        have HBW : Aside (((wr.alloc (.cells y82.toArray 82)).setCells wr.heap.size 0 r).heap[wr.heap.size]? = some (.cells r.toArray 82)) := bw2
        have B1 : Aside (Below wr.heap.size wr ((wr.alloc (.cells y82.toArray 82)).setCells wr.heap.size 0 r)) := below_sets (Nat.le_refl _) _ _ (gr_below (.refl _ _) (Nat.le_refl _) ((Gr.refl _).alloc _))
        clear z1 z2 z3 hI hld hr hx bw bw2 r10 hm
        go_upto_region 6 with fail
        clear lC sA
        generalize ((wr.alloc (.cells y82.toArray 82)).setCells wr.heap.size 0 r) = W1 at c10 f10 HBW B1 ⊢
        generalize hbb : wr.heap.size = bb at c10 f10 HBW B1 ⊢
        have B2 : Aside (Below wr.heap.size wr (W1.setCell ⟨bb, 10, none⟩ (.slice ad (min (x.abs.length : Int) 4).toNat cp))) := (show Below wr.heap.size wr (W1.setCell ⟨bb, 10, none⟩ (.slice ad (min (x.abs.length : Int) 4).toNat cp)) by rw [hbb]; exact B1.out.setCell (p := ⟨bb, 10, none⟩) (Nat.le_refl _) _)
        have HB2 : Aside ((W1.setCell ⟨bb, 10, none⟩ (.slice ad (min (x.abs.length : Int) 4).toNat cp)).heap[bb]? = some (.cells (r.set 10 (.slice ad (min (x.abs.length : Int) 4).toNat cp)).toArray 82)) := blk_set HBW.out 10 _
        have rl2 : (r.set 10 (.slice ad (min (x.abs.length : Int) 4).toNat cp)).length = k82 := by simpa using rl
        clear HBW B1
        go_upto_region 7 with fail
        have ro2 : ∀ v ∈ r.set 10 (.slice ad (min (x.abs.length : Int) 4).toNat cp), v.oneCell' = true := HCU.out.one
        have ho2 := own_belowK S1.out.o B2.out
        have hs2 : w.heap.size ≤ (W1.setCell ⟨bb, 10, none⟩ (.slice ad (min (x.abs.length : Int) 4).toNat cp)).heap.size := Nat.le_trans S1.out.b.size B2.out.size
        generalize r.set 10 (.slice ad (min (x.abs.length : Int) 4).toNat cp) = r2 at HCU HB2 rl2 ro2
        generalize (W1.setCell ⟨bb, 10, none⟩ (.slice ad (min (x.abs.length : Int) 4).toNat cp)) = W2 at B2 HB2 ho2 hs2 ⊢
        have lB := hold_ld P (blk_hold HB2.out) rl2
        obtain ⟨v', w6, hr, ho, hg⟩ := app_row L.t26 i82 (by decide) rows.flatten r2 (rl2.trans H82.out) ro2 ho2 hs2 (by rw [S1.out.n]; omega)
        have S6 : Aside (Plx w cards (i + 1) (rows ++ [r2]) v' w6) := S1.out.next B2.out HX.out HCU.out ho hg
        have hfc := fold_cells2 y82 r2 HY.out.symm rl2
        clear ho hg ho2 hs2 ro2 B2 HB2 S1
        go_wp2_with (first | (at_builtin; refine wpList_app_run rfl _ _ #[26, 26] rfl ov (.slice (some ⟨W2.heap.size, 0, none⟩) 1 1) rfl rfl _ w6 hr ?_))
        go_roundg (cards.length - (i + 1))
        case measure => omega
        case rel => exact ⟨i + 1, v', rows ++ [r2], rfl, by first | rfl | go_num, by omega, by omega, Nat.le_refl _, S6⟩
      · have h12z : ¬ (i : Int) < 12 := by omega
        have e12 : i = 12 := by omega
        obtain ⟨a, c, hv⟩ := own_formk S1.out.o
        subst hv
        rw [S1.out.n]
        have hl : ((cards.take 12).map ct).length = i := by rw [List.length_map, List.length_take]; omega
        have HCS : Aside (PlOK w cards (.returned (.slice a i c)) wr) := (by
          have h := S1.out.cs (by omega) (by omega)
          rw [e12] at h
          exact ⟨a, c, by rw [hl], h, S1.out.b⟩)
        clear hl e12 S1
        go_wp2
        go_returns
        exact HCS.out
    · have hltz : ¬ (i : Int) < (cards.length : Int) := by omega
      have ec : i = cards.length := by omega
      obtain ⟨a, c, hv⟩ := own_formk S1.out.o
      subst hv
      rw [S1.out.n]
      have e2 : cards.take 12 = cards := List.take_of_length_le (by omega)
      have HCS : Aside (PlOK w cards (.returned (.slice a i c)) wr) := (by
        have h := S1.out.cs (by omega) (by omega)
        rw [ec, List.take_of_length_le (Nat.le_refl _)] at h
        exact ⟨a, c, by rw [e2, List.length_map, ec], by rw [e2]; exact h, S1.out.b⟩)
      clear e2 ec S1
      go_wp2
      go_returns
      exact HCS.out
end Go.Proofs.Yticgadnmlbfmfaa.cachePlays
/-
  Chapter 25: the answer's New; what Put does with no slot; all contracts of this program.
-/
namespace Go.Proofs.Yticgadnmlbfmfaa.cachePlays
open Go.Shelf Go.RowKit Go.Lib Go.Sort Go.Maps
theorem layV : LayV Try.prog 4097 Try.zeroCells59.toList where
  f14 := Try.func14
  f16 := Try.func16
  f18 := Try.func18
  f19 := Try.func19
  f39 := Try.func39
  f40 := Try.func40
  f41 := Try.func41
  f42 := Try.func42
  e38 := enters_of Try.func38 (by kernel_rfl) rfl
  e39 := enters_of Try.func39 (by kernel_rfl) rfl
  e40 := enters_of Try.func40 (by kernel_rfl) rfl
  e41 := enters_of Try.func41 (by kernel_rfl) rfl
  e42 := enters_of Try.func42 (by kernel_rfl) rfl
  e43 := enters_of Try.func43 (by kernel_rfl) rfl
  e44 := enters_of Try.func44 (by kernel_rfl) rfl
  t43 := Try.underlying43
  a43 := Try.isAgg43
  z43 := Try.sizeOf43
  v43 := fun w => (Try.zeroValue43 w).trans rfl
  t59 := Try.underlying59
  a59 := Try.isAgg59
  z59 := Try.sizeOf59
  v59 := fun w => (Try.zeroValue59 w).trans rfl
  t56 := Try.underlying56
  a56 := Try.isAgg56
  z56 := Try.sizeOf56
  t57 := Try.underlying57
  a57 := Try.isAgg57
  z57 := Try.sizeOf57
  z9 := Try.sizeOf9
  z79 := Try.sizeOf79
set_option maxHeartbeats 4000000 in
set_option maxRecDepth 100000 in
theorem rnew_calls {P : Program} {k59 : Nat} {y59 : List Value} (V : LayV P k59 y59) (hy : y59.length = k59) (hne : ¬ y59 = []) (z26 : ∀ w, (Go.sizeOf 26).run P w = .ok 1 w) (a : Option Addr) (n c : Nat) (w : World) : Calls P 14 #[.slice a n c] w fun e w' => e = .returned (.pointer (some ⟨w.heap.size, 0, none⟩)) ∧ w' = w.alloc (.cells (y59.set 0 (.slice a n c)).toArray 59) := by
  have t43 := V.t43; have a43 := V.a43; have z43 := V.z43; have v43 := V.v43; have qu59 := run_underlying V.t59; have a59 := V.a59; have z59 := V.z59; have v59 := V.v59; have z56 := V.z56; have z57 := V.z57
  have hy2 : (y59.set 0 (.slice a n c)).length = k59 := by simpa using hy
  go_enter V.f14, Try.ntmps14
  go_wp2
  go_returns
  exact ⟨rfl, rfl⟩
def rc0 (cards : List Cd) : Rc := ⟨cards, fun _ => false, fun _ => zHd, fun _ => false⟩
def fls : List Value := flatN (fun _ => [Value.bool false]) 256
def zos : List Value := flatN (fun _ => zv30) 256
set_option maxRecDepth 100000 in
theorem z59_eq : Try.zeroCells59.toList = Value.slice none 0 0 :: (fls ++ (zos ++ fls)) := by kernel_rfl
theorem fls_len : fls.length = 256 := flatN_len (k := 1) fun _ _ => rfl
theorem zos_len : zos.length = 3584 := flatN_len (k := 14) fun _ _ => rfl
theorem fls_at {k : Nat} (hk : k < 256) : fls[k]? = some (.bool false) := by
  have := flatN_get (f := fun _ => [Value.bool false]) (k := 1) (n := 256) (fun _ _ => rfl) k 0 hk (by decide)
  rw [Nat.mul_one, Nat.add_zero] at this
  exact this
theorem zos_at {k j : Nat} (hk : k < 256) (hj : j < 14) : zos[k * 14 + j]? = zv30[j]? := flatN_get (f := fun _ => zv30) (k := 14) (n := 256) (fun _ _ => rfl) k j hk hj
theorem z59_size : Try.zeroCells59.toList.length = 4097 := by
  rw [z59_eq, List.length_cons, List.length_append, List.length_append, fls_len, zos_len]
theorem z59_i {k : Nat} (hk : k < 256) : Try.zeroCells59.toList[1 + k]? = some (.bool false) := by
  rw [z59_eq, Nat.add_comm, List.getElem?_cons_succ, List.getElem?_append_left (by rw [fls_len]; exact hk)]
  exact fls_at hk
theorem z59_o {k j : Nat} (hk : k < 256) (hj : j < 14) : Try.zeroCells59.toList[257 + k * 14 + j]? = zv30[j]? := by
  rw [z59_eq, show 257 + k * 14 + j = (256 + (k * 14 + j)) + 1 by omega, List.getElem?_cons_succ, List.getElem?_append_right (by rw [fls_len]; omega), fls_len, Nat.add_sub_cancel_left, List.getElem?_append_left (by rw [zos_len]; omega)]
  exact zos_at hk hj
theorem z59_d {k : Nat} (hk : k < 256) : Try.zeroCells59.toList[3841 + k]? = some (.bool false) := by
  rw [z59_eq, show 3841 + k = (256 + (3584 + k)) + 1 by omega, List.getElem?_cons_succ, List.getElem?_append_right (by rw [fls_len]; omega), fls_len, Nat.add_sub_cancel_left, List.getElem?_append_right (by rw [zos_len]; omega), zos_len, Nat.add_sub_cancel_left]
  exact fls_at hk
theorem rc0_at {Z : Nat → Prop} {w W : World} {ca : Option Addr} {cards : List Cd} (h : Cs Z w ca cards) (cc : Nat) (hg : Below w.heap.size w W) : RcAt Z (W.alloc (.cells (Try.zeroCells59.toList.set 0 (.slice ca cards.length cc)).toArray 59)) W.heap.size (rc0 cards) := by
  obtain ⟨rs, r1, r2, r3⟩ := h.r
  have g2 : Below w.heap.size w (W.alloc (.cells (Try.zeroCells59.toList.set 0 (.slice ca cards.length cc)).toArray 59)) := hg.alloc hg.size _
  have hg' : ∀ t, 0 < t → (Try.zeroCells59.toList.set 0 (.slice ca cards.length cc)).toArray[t]? = Try.zeroCells59.toList[t]? := fun t ht => by
    rw [List.getElem?_toArray, List.getElem?_set_ne (by omega)]
  have s := z59_size
  refine ⟨⟨_, ca, cc, rs, fun _ => zv30, blk_new W _, ⟨by rw [List.size_toArray, List.length_set]; exact s, ?_, fun k hk => ?_, fun k hk j v hv => ?_, fun k hk => ?_, fun _ _ => rfl⟩, r1.keep (Kz.below g2), r2, fun i r x hr hx => (r3 i r x hr hx).keep (Kz.below g2), fun k _ => ⟨rfl, (zHdR Z w).one, rfl, rfl, rfl, ⟨none, 0, rfl, .inl rfl⟩, Nat.zero_le _⟩⟩, h.n, fun hz => ?_, fun b hb => Nat.lt_of_lt_of_le (h.z b hb) g2.size⟩
  · rw [List.getElem?_toArray, List.getElem?_set_self (by omega)]
    rfl
  · rw [hg' _ (by omega)]
    exact z59_i hk
  · have hj : j < 14 := (List.getElem?_eq_some_iff.1 hv).1
    rw [hg' _ (by omega), z59_o hk hj]
    exact hv
  · rw [hg' _ (by omega)]
    exact z59_d hk
  · have := h.z _ hz
    have := hg.size
    omega
set_option maxHeartbeats 4000000 in
set_option maxRecDepth 100000 in
theorem put_out {k : Int} (hk : ¬ (0 ≤ k ∧ k < 256)) (cb : Nat) (ob : List Value) (w : World) : Calls Try.prog 10 #[.pointer (some ⟨cb, 0, none⟩), .int .i64 k, .agg ob.toArray] w fun e w' => e = .returned (.tuple #[]) ∧ Gr w w' := by
  have mixed := mixedT
  have G1 : Aside (Gr w (w.alloc (.cells ob.toArray 30))) := (Gr.refl w).alloc _
  by_cases h0 : k < 0
  · have b0 : decide (k < 0) = true := decide_eq_true h0
    go_enter Try.func10, Try.ntmps10
    go_wp2
    go_returns
    exact ⟨rfl, G1.out⟩
  · have b0 : decide (k < 0) = false := decide_eq_false h0
    have h1 : 256 ≤ k := by omega
    have b1 : decide (k ≥ 256) = true := decide_eq_true h1
    go_enter Try.func10, Try.ntmps10
    go_wp2
    go_returns
    exact ⟨rfl, G1.out⟩
/-- The contracts, of this program. -/
theorem rcT : RcP Try.prog := ⟨fun h _ hk => rcard_calls layQ layV rfl rfl rfl (zHdR (fun _ => True) default).c.one (fun Z w => (zHdR Z w).c) h hk⟩
theorem rcqT : RcQ Try.prog 13 := ⟨rplace_calls, fun h _ hk => rstatics_calls layQ layV rcT rfl rfl h hk, fun h => rall_calls layQ layV h, i49T'⟩
theorem rcoT : RcO Try.prog := ⟨rlayer_calls, rfold_calls⟩
theorem rcfT : RcF Try.prog := ⟨rcT.card, fun h _ _ hk hj who => rfits_calls layQ layV rfl h hk hj who⟩
/-- Put, Take, of any slot. -/
def kput (K : Ca) (i : Int) (x : Hd) : Ca := if 0 ≤ i ∧ i < 256 then K.put i x else K
def rput (R : Rc) (i : Int) (x : Hd) : Rc := if 0 ≤ i ∧ i < 256 then R.put i.toNat x else R
def ktake (K : Ca) (i : Int) : Ca := if (K.sl i).isSome = true then K.take i else K
def rtake (R : Rc) (i : Int) : Rc := if 0 ≤ i ∧ i < 256 then R.take i.toNat else R
theorem Agr.put' {K : Ca} {R : Rc} (h : Agr K R) (i : Int) {x : Hd} (hx : x.cd = cdOf R.cards x.card) : Agr (kput K i x) (rput R i x) := by
  unfold kput rput
  split
  · rename_i hi
    have := h.put (k := i.toNat) (by omega) hx
    rwa [Int.toNat_of_nonneg hi.1] at this
  · exact h
theorem Agr.take' {K : Ca} {R : Rc} (h : Agr K R) (i : Int) : Agr (ktake K i) (rtake R i) := by
  unfold rtake
  split
  · rename_i hi
    have := h.take (k := i.toNat) (by omega)
    rwa [Int.toNat_of_nonneg hi.1] at this
  · rename_i hi
    have := h.take_out hi
    unfold ktake
    rw [this]
    exact h
/-- A step of the law. -/
structure TwS (w0 : World) (E : Nat → Prop) (cb sb tb rb : Nat) (K : Ca) (R : Rc) (W W' : World) : Prop where
  t : Tw w0 E cb sb tb rb K R W'
  k : KpE E W W'
  s : W.heap.size ≤ W'.heap.size
theorem Tw.grS {w0 : World} {E : Nat → Prop} {cb sb tb rb : Nat} {K : Ca} {R : Rc} {W W' : World} (h : Tw w0 E cb sb tb rb K R W) (g : Below W.heap.size W W') : TwS w0 E cb sb tb rb K R W W' := ⟨h.gr g, fun b hb => g.block b (h.e b hb).2.1, g.size⟩
theorem tw_put {w0 : World} {E Zo : Nat → Prop} {cb sb tb rb : Nat} {K : Ca} {R : Rc} {W : World} (h : Tw w0 E cb sb tb rb K R W) {ob : List Value} {x : Hd} (hO : ObR Zo W ob x.card x.ctrl x.stamp x.effs) (hx : x.cd = cdOf K.cards x.card) (i : Int) : Calls Try.prog 10 #[.pointer (some ⟨cb, 0, none⟩), .int .i64 i, .agg ob.toArray] W fun e w' => e = .returned (.tuple #[]) ∧ TwS w0 E cb sb tb rb (kput K i x) R W w' := by
  by_cases hi : 0 ≤ i ∧ i < 256
  · obtain ⟨Z, c, z1, z2⟩ := h.k
    refine (put_calls c hi.1 hi.2 hO).mono ?_
    rintro e w' ⟨rfl, Z', c1, c2, c3⟩
    rw [← hx] at c1
    have hh := h.stepK z1 z2 c1 c2 c3 (h.i.put i _)
    unfold kput
    rw [if_pos hi]
    exact ⟨rfl, hh.1, hh.2.1, hh.2.2⟩
  · refine (put_out hi cb ob W).mono ?_
    rintro e w' ⟨rfl, g⟩
    unfold kput
    rw [if_neg hi]
    exact ⟨rfl, h.grS (gr_below (.refl _ _) (Nat.le_refl _) g)⟩
theorem rtw_put {w0 : World} {E Zo : Nat → Prop} {cb sb tb rb : Nat} {K : Ca} {R : Rc} {W : World} (h : Tw w0 E cb sb tb rb K R W) {ob : List Value} {x : Hd} (hO : ObR Zo W ob x.card x.ctrl x.stamp x.effs) (i : Int) : Calls Try.prog 16 #[.pointer (some ⟨rb, 0, none⟩), .int .i64 i, .agg ob.toArray] W fun e w' => e = .returned (.tuple #[]) ∧ TwS w0 E cb sb tb rb K (rput R i x) W w' := by
  by_cases hi : 0 ≤ i ∧ i < 256
  · obtain ⟨Z, c, z1, z2⟩ := h.r
    have hc := rput_in layQ layV rcqT rfl c (k := i.toNat) (by omega) hO
    rw [Int.toNat_of_nonneg hi.1] at hc
    refine hc.mono ?_
    rintro e w' ⟨rfl, Z', c1, c2, c3⟩
    have hh := h.stepR z1 z2 c1 c2 c3
    unfold rput
    rw [if_pos hi]
    exact ⟨rfl, hh.1, hh.2.1, hh.2.2⟩
  · refine (rput_out layQ layV rcqT hi ob).mono ?_
    rintro e w' ⟨rfl, g⟩
    unfold rput
    rw [if_neg hi]
    exact ⟨rfl, h.grS (gr_below (.refl _ _) (Nat.le_refl _) g)⟩
theorem tw_take {w0 : World} {E : Nat → Prop} {cb sb tb rb : Nat} {K : Ca} {R : Rc} {W : World} (h : Tw w0 E cb sb tb rb K R W) (i : Int) : Calls Try.prog 17 #[.pointer (some ⟨cb, 0, none⟩), .int .i64 i] W fun e w' => e = .returned (.tuple #[]) ∧ TwS w0 E cb sb tb rb (ktake K i) R W w' := by
  obtain ⟨Z, c, z1, z2⟩ := h.k
  refine (take_calls c i).mono ?_
  rintro e w' ⟨rfl, c1, c2⟩
  have hh := h.stepK z1 z2 c1 c2 (fun b hb => .inl hb) (by
    split
    · exact h.i.take i
    · exact h.i)
  exact ⟨rfl, hh.1, hh.2.1, hh.2.2⟩
theorem rtw_take {w0 : World} {E : Nat → Prop} {cb sb tb rb : Nat} {K : Ca} {R : Rc} {W : World} (h : Tw w0 E cb sb tb rb K R W) (i : Int) : Calls Try.prog 18 #[.pointer (some ⟨rb, 0, none⟩), .int .i64 i] W fun e w' => e = .returned (.tuple #[]) ∧ TwS w0 E cb sb tb rb K (rtake R i) W w' := by
  by_cases hi : 0 ≤ i ∧ i < 256
  · obtain ⟨Z, c, z1, z2⟩ := h.r
    have hc := rtake_in layQ layV rcqT c (k := i.toNat) (by omega)
    rw [Int.toNat_of_nonneg hi.1] at hc
    refine hc.mono ?_
    rintro e w' ⟨rfl, c1⟩
    have hh := h.stepR z1 z2 c1.h c1.o (fun b hb => .inl hb)
    unfold rtake
    rw [if_pos hi]
    exact ⟨rfl, hh.1, hh.2.1, hh.2.2⟩
  · refine (rtake_out layQ layV rcqT hi).mono ?_
    rintro e w' ⟨rfl, g⟩
    unfold rtake
    rw [if_neg hi]
    exact ⟨rfl, h.grS (gr_below (.refl _ _) (Nat.le_refl _) g)⟩
/-- What the program's Of tells. -/
structure TwO (w0 : World) (E : Nat → Prop) (cb sb tb rb : Nat) (K : Ca) (R : Rc) (W : World) (i v0 v1 v2 : Int) (b : Bool) (K' : Ca) (w' : World) : Prop where
  v : OfV K i (optR b (v0, v1, v2))
  z : b = false → v0 = 0 ∧ v1 = 0 ∧ v2 = 0
  s : TwS w0 E cb sb tb rb K' R W w'
  a : AftO K i K'
theorem tw_of {w0 : World} {E : Nat → Prop} {cb sb tb rb : Nat} {K : Ca} {R : Rc} {W : World} (h : Tw w0 E cb sb tb rb K R W) (i : Int) : Calls Try.prog 11 #[.pointer (some ⟨cb, 0, none⟩), .int .i64 i] W fun e w' => ∃ v0 v1 v2 b K', e = .returned (.tuple #[.agg #[.int .i64 v0, .int .i64 v1, .int .i64 v2], .bool b]) ∧ TwO w0 E cb sb tb rb K R W i v0 v1 v2 b K' w' := by
  obtain ⟨Z, c, z1, z2⟩ := h.k
  refine (ofa_calls c h.i i).mono ?_
  rintro e w' ⟨r, K', rfl, hv, c1, hA, hI, k3⟩
  have hh := h.stepK z1 z2 c1 k3 (fun b hb => .inl hb) hI
  match r, hv with
  | none, hv => exact ⟨0, 0, 0, false, K', rfl, hv, fun _ => ⟨rfl, rfl, rfl⟩, ⟨hh.1, hh.2.1, hh.2.2⟩, hA⟩
  | some (v0, v1, v2), hv => exact ⟨v0, v1, v2, true, K', rfl, hv, (fun h => by cases h), ⟨hh.1, hh.2.1, hh.2.2⟩, hA⟩
theorem optR_eqT {b c : Bool} {v0 v1 v2 u0 u1 u2 : Int} (h : optR b (v0, v1, v2) = optR c (u0, u1, u2)) (hb : b = false → v0 = 0 ∧ v1 = 0 ∧ v2 = 0) (hc : c = false → u0 = 0 ∧ u1 = 0 ∧ u2 = 0) : c = b ∧ u0 = v0 ∧ u1 = v1 ∧ u2 = v2 := by
  unfold optR at h
  cases b <;> cases c
  · obtain ⟨rfl, rfl, rfl⟩ := hb rfl
    obtain ⟨rfl, rfl, rfl⟩ := hc rfl
    exact ⟨rfl, rfl, rfl, rfl⟩
  · simp at h
  · simp at h
  · simp only [if_true, Option.some.injEq, Prod.mk.injEq] at h
    exact ⟨rfl, h.1.symm, h.2.1.symm, h.2.2.symm⟩
theorem rtw_of {w0 : World} {E : Nat → Prop} {cb sb tb rb : Nat} {K K' : Ca} {R : Rc} {W : World} (h : Tw w0 E cb sb tb rb K' R W) (hg : Agr K R) {i v0 v1 v2 : Int} {b : Bool} (hv : OfV K i (optR b (v0, v1, v2))) (hz : b = false → v0 = 0 ∧ v1 = 0 ∧ v2 = 0) (hA : AftO K i K') : Calls Try.prog 19 #[.pointer (some ⟨rb, 0, none⟩), .int .i64 i] W fun e w' => e = .returned (.tuple #[.agg #[.int .i64 v0, .int .i64 v1, .int .i64 v2], .bool b]) ∧ ∃ R', TwS w0 E cb sb tb rb K' R' W w' ∧ Agr K' R' := by
  by_cases hi : 0 ≤ i ∧ i < 256
  · obtain ⟨k, rfl⟩ : ∃ k : Nat, i = k := ⟨i.toNat, by omega⟩
    have hk : k < 256 := by omega
    obtain ⟨Z, c, z1, z2⟩ := h.r
    refine (rof_in layQ layV rcqT rcoT rcfT rfl rfl rfl rfl c hk).mono ?_
    rintro e w' ⟨u0, u1, u2, d, rfl, hr, hdz, c1, c2⟩
    have he := hv.uniq (hr.ofV hg hk)
    obtain ⟨rfl, rfl, rfl, rfl⟩ := optR_eqT he hz hdz
    have hh := h.stepR z1 z2 c1 c2 (fun b hb => .inl hb)
    exact ⟨rfl, _, ⟨hh.1, hh.2.1, hh.2.2⟩, hg.of hk hA⟩
  · refine (rof_out layQ layV rcqT hi).mono ?_
    rintro e w' ⟨rfl, g⟩
    have hs : K.sl i = none := by rw [hg.s, R.sl_out hi]
    have hb : b = false := by
      cases b with
      | false => rfl
      | true =>
        have := hv.1
        rw [hs] at this
        cases this
    obtain ⟨rfl, rfl, rfl⟩ := hz hb
    subst hb
    exact ⟨rfl, R, h.grS g, hg.of_out hi hA⟩
end Go.Proofs.Yticgadnmlbfmfaa.cachePlays
