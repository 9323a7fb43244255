/-
  Chapter 25: the stable sort of effects; what a cache holds, as data.
-/
import Derived.Shelf.SlIterI.Nil
import Derived.Shelf.SortM.Plain
import Derived.Shelf.SortM.SortNone
import Derived.Ground.GgzProg
import Derived.Ground.SlgmProg
import Derived.Test.YticgadnmlbfmfaaTxB
import Derived.Test.YticgadnmlbfmfaaTxE
namespace Go.Proofs.Yticgadnmlbfmfaa.cachePlays
open Go.Shelf Go.RowKit Go.Lib Go.Sort
theorem cmpC_swo : SWO (ltOf cmpC) := by
  refine ⟨fun x => (ltC_f x x).2 (by omega), fun x y z h k => (ltC x z).2 ?_, fun x y z h k => (ltC_f x z).2 ?_⟩
  · have h := (ltC x y).1 h
    have k := (ltC y z).1 k
    omega
  · have h := (ltC_f x y).1 h
    have k := (ltC_f y z).1 k
    omega
theorem befores (blk off size : Nat) (w : World) : CmpL Try.prog 33 #[] encE 4 cmpC blk off size w := fun _ _ _ _ x y => cmpC_calls x y _
set_option maxHeartbeats 4000000 in
/-- SortStableFunc. -/
theorem sorts_calls (blk off cap : Nat) (d : Array Ef) (w : World) (hH : HoldsK encE 4 w blk off d) (hblk : blk < w.heap.size) (hsz : d.size < 2305843009213693952) :
    Calls Try.prog 32 #[.slice (some ⟨blk, off, none⟩) d.size cap, .func (.func 33) #[] #[]] w fun e w' => e = .returned (.tuple #[]) ∧ ∃ d', StbIn (ltOf cmpC) 0 d.size d d' ∧ SortedIn (ltOf cmpC) 0 d.size d' ∧ SWK encE 4 w blk off d' w' := by
  have hc := stable_calls lay encE cmpC 33 #[] blk off cap d d w w (enters_of Try.func33 (by kernel_rfl) rfl) (befores blk off d.size w) ⟨encE_len, encE_one, hH, hblk⟩ cmpC_swo rfl (.start hH) hsz
  clear hH
  go_enter Try.func32, Try.ntmps32
  go_wp2_with (go_at_call 57; refine hc.mono ?_; rintro e w1 ⟨rfl, h⟩)
  go_end0
  exact ⟨rfl, h⟩
theorem sorts_none (p : Option Addr) (cap : Nat) (w : World) :
    Calls Try.prog 32 #[.slice p 0 cap, .func (.func 33) #[] #[]] w fun e w' => e = .returned (.tuple #[]) ∧ w' = w := by
  have hc := stable_none lay p cap (.func (.func 33) #[] #[]) w
  go_enter Try.func32, Try.ntmps32
  go_wp2_with (go_at_call 57; refine hc.mono ?_; rintro e w1 ⟨rfl, rfl⟩)
  go_end0
  exact ⟨rfl, rfl⟩
/-- An ability, what counts of it. -/
structure Ab where
  kind : Int
  who : Int
  op : Int
  a : Int
  b : Int
/-- A card, what counts of it. -/
structure Cd where
  kind : Int
  pow : Int
  tou : Int
  keys : Int
  abs : List Ab
/-- What a slot holds. -/
structure Hd where
  card : Int
  ctrl : Int
  stamp : Int
  effs : List Ef
  cd : Cd
def zCd : Cd := ⟨0, 0, 0, 0, []⟩
def zHd : Hd := ⟨0, 0, 0, [], zCd⟩
/-- Rows in blocks of Z. -/
def RowsZ (Z : Nat → Prop) (w : World) (a : Option Addr) (k : Nat) (l : List (List Value)) : Prop := l = [] ∨ ∃ B O, a = some ⟨B, O, none⟩ ∧ Z B ∧ B < w.heap.size ∧ ∀ i x, l[i]? = some x → ∀ (j : Nat) v, x[j]? = some v → w.cell? ⟨B, O + i * k + j, none⟩ = some v
/-- What lies in Z's blocks is as it was. -/
structure Kz (Z : Nat → Prop) (w w' : World) : Prop where
  s : w.heap.size ≤ w'.heap.size
  k : ∀ b, Z b → b < w.heap.size → w'.heap[b]? = w.heap[b]?
theorem Kz.refl (Z : Nat → Prop) (w : World) : Kz Z w w := ⟨Nat.le_refl _, fun _ _ _ => rfl⟩
theorem Kz.trans {Z : Nat → Prop} {a b c : World} (h : Kz Z a b) (g : Kz Z b c) : Kz Z a c := ⟨Nat.le_trans h.s g.s, fun k hk hl => (g.k k hk (Nat.lt_of_lt_of_le hl h.s)).trans (h.k k hk hl)⟩
theorem Kz.gr {Z : Nat → Prop} {w w' : World} (g : Gr w w') : Kz Z w w' := ⟨Gr.le g, fun k _ hl => (gr_grown g).block k hl (by simp)⟩
theorem Kz.below {Z : Nat → Prop} {w w' : World} (g : Below w.heap.size w w') : Kz Z w w' := ⟨g.size, fun k _ hl => g.block k hl⟩
theorem Kz.grown {Z : Nat → Prop} {w w' : World} {row : Option Nat} (g : w.grownBy w' row) (h : ∀ b, row = some b → ¬ Z b) : Kz Z w w' := ⟨g.size, fun k hk hl => g.block k hl (fun e => h k e.symm hk)⟩
theorem Kz.mono {Z Y : Nat → Prop} {w w' : World} (h : Kz Z w w') (hy : ∀ b, Y b → Z b) : Kz Y w w' := ⟨h.s, fun k hk hl => h.k k (hy k hk) hl⟩
theorem RowsZ.keep {Z : Nat → Prop} {w w' : World} {a : Option Addr} {k : Nat} {l : List (List Value)} (h : RowsZ Z w a k l) (g : Kz Z w w') : RowsZ Z w' a k l := by
  rcases h with h | ⟨B, O, e, hz, hb, h⟩
  · exact .inl h
  · refine .inr ⟨B, O, e, hz, Nat.lt_of_lt_of_le hb g.s, fun i x hi j v hj => ?_⟩
    have := h i x hi j v hj
    unfold World.cell? at this ⊢
    rw [g.k B hz hb]
    exact this
theorem RowsZ.mono {Z Y : Nat → Prop} {w : World} {a : Option Addr} {k : Nat} {l : List (List Value)} (h : RowsZ Z w a k l) (hy : ∀ b, Z b → b < w.heap.size → Y b) : RowsZ Y w a k l := by
  rcases h with h | ⟨B, O, e, hz, hb, h⟩
  · exact .inl h
  · exact .inr ⟨B, O, e, hy B hz hb, hb, h⟩
theorem RowsZ.ld (P : Program) {Z : Nat → Prop} {w : World} {a : Option Addr} {k : Nat} {l : List (List Value)} (h : RowsZ Z w a k l) {i : Nat} {x : List Value} (hx : l[i]? = some x) (hk : x.length = k) : ∃ B O, a = some ⟨B, O, none⟩ ∧ Z B ∧ B < w.heap.size ∧ ∀ w', Kz Z w w' → Sem.run P (loadCellsFrom ⟨B, O + i * k, none⟩ 0 k #[]) w' = .ok x.toArray w' := by
  rcases h with h | ⟨B, O, e, hz, hb, h⟩
  · rw [h] at hx
    simp at hx
  · refine ⟨B, O, e, hz, hb, fun w' g => ?_⟩
    have hr : Rows w' (some ⟨B, O, none⟩) k (l.map List.toArray) := .inr ⟨B, O, rfl, Nat.lt_of_lt_of_le hb g.s, fun i' x' hi' j v hj => by
      rw [List.getElem?_map, Option.map_eq_some_iff] at hi'
      obtain ⟨y, hy, rfl⟩ := hi'
      have := h i' y hy j v (by simpa using hj)
      unfold World.cell? at this ⊢
      rw [g.k B hz hb]
      exact this⟩
    have := Rows.ld P hr (i := i) (x := x.toArray) (by rw [List.getElem?_map, hx]; rfl) (by simpa using hk)
    rw [Addr.add_lit] at this
    exact this
/-- An ability's cells. -/
structure AbR (r : List Value) (x : Ab) : Prop where
  len : r.length = 13
  one : ∀ v ∈ r, v.oneCell' = true
  q0 : r[0]? = some (.int .i64 x.kind)
  q2 : r[2]? = some (.int .i64 x.who)
  q10 : r[10]? = some (.int .i64 x.op)
  q11 : r[11]? = some (.int .i64 x.a)
  q12 : r[12]? = some (.int .i64 x.b)
/-- A card's cells. -/
structure CdR (Z : Nat → Prop) (w : World) (r : List Value) (c : Cd) : Prop where
  len : r.length = 11
  one : ∀ v ∈ r, v.oneCell' = true
  q1 : r[1]? = some (.int .i64 c.kind)
  q7 : r[7]? = some (.int .i64 c.pow)
  q8 : r[8]? = some (.int .i64 c.tou)
  q9 : r[9]? = some (.int .i64 c.keys)
  ab : ∃ (ad : Option Addr) (cp : Nat) (rs : List (List Value)), r[10]? = some (.slice ad c.abs.length cp) ∧ RowsZ Z w ad 13 rs ∧ rs.length = c.abs.length ∧ ∀ (i : Nat) (r : List Value) (x : Ab), rs[i]? = some r → c.abs[i]? = some x → AbR r x
  n : c.abs.length ≤ 1000
theorem CdR.keep {Z : Nat → Prop} {w w' : World} {r : List Value} {c : Cd} (h : CdR Z w r c) (g : Kz Z w w') : CdR Z w' r c := by
  obtain ⟨ad, cp, rs, a1, a2, a3, a4⟩ := h.ab
  exact ⟨h.len, h.one, h.q1, h.q7, h.q8, h.q9, ⟨ad, cp, rs, a1, a2.keep g, a3, a4⟩, h.n⟩
theorem CdR.mono {Z Y : Nat → Prop} {w : World} {r : List Value} {c : Cd} (h : CdR Z w r c) (hy : ∀ b, Z b → b < w.heap.size → Y b) : CdR Y w r c := by
  obtain ⟨ad, cp, rs, a1, a2, a3, a4⟩ := h.ab
  exact ⟨h.len, h.one, h.q1, h.q7, h.q8, h.q9, ⟨ad, cp, rs, a1, a2.mono hy, a3, a4⟩, h.n⟩
/-- What a slot holds, its cells: the object's, the card's. -/
structure HdR (Z : Nat → Prop) (w : World) (ob cr : List Value) (h : Hd) : Prop where
  len : ob.length = 14
  one : ∀ v ∈ ob, v.oneCell' = true
  q1 : ob[1]? = some (.int .i64 h.card)
  q3 : ob[3]? = some (.int .i64 h.ctrl)
  q9 : ob[9]? = some (.int .i64 h.stamp)
  ef : ∃ (ea : Option Addr) (ec : Nat), ob[13]? = some (.slice ea h.effs.length ec) ∧ RowsZ Z w ea 4 (h.effs.map encE)
  n : h.effs.length ≤ 1000
  c : CdR Z w cr h.cd
theorem HdR.keep {Z : Nat → Prop} {w w' : World} {ob cr : List Value} {h : Hd} (hh : HdR Z w ob cr h) (g : Kz Z w w') : HdR Z w' ob cr h := by
  obtain ⟨ea, ec, a1, a2⟩ := hh.ef
  exact ⟨hh.len, hh.one, hh.q1, hh.q3, hh.q9, ⟨ea, ec, a1, a2.keep g⟩, hh.n, hh.c.keep g⟩
theorem HdR.mono {Z Y : Nat → Prop} {w : World} {ob cr : List Value} {h : Hd} (hh : HdR Z w ob cr h) (hy : ∀ b, Z b → b < w.heap.size → Y b) : HdR Y w ob cr h := by
  obtain ⟨ea, ec, a1, a2⟩ := hh.ef
  exact ⟨hh.len, hh.one, hh.q1, hh.q3, hh.q9, ⟨ea, ec, a1, a2.mono hy⟩, hh.n, hh.c.mono hy⟩
/-- A slot's value in the map. -/
def HdV (Z : Nat → Prop) (w : World) : Option Value → Option Hd → Prop
  | some v, some h => ∃ ob cr, v = .agg (ob ++ cr).toArray ∧ HdR Z w ob cr h
  | none, none => True
  | _, _ => False
theorem HdV.keep {Z : Nat → Prop} {w w' : World} {o : Option Value} {h : Option Hd} (hh : HdV Z w o h) (g : Kz Z w w') : HdV Z w' o h := by
  match o, h, hh with
  | some v, some h, ⟨ob, cr, e, k⟩ => exact ⟨ob, cr, e, k.keep g⟩
  | none, none, _ => trivial
theorem HdV.mono {Z Y : Nat → Prop} {w : World} {o : Option Value} {h : Option Hd} (hh : HdV Z w o h) (hy : ∀ b, Z b → b < w.heap.size → Y b) : HdV Y w o h := by
  match o, h, hh with
  | some v, some h, ⟨ob, cr, e, k⟩ => exact ⟨ob, cr, e, k.mono hy⟩
  | none, none, _ => trivial
/-- A cache. -/
structure Ca where
  cards : List Cd
  sl : Int → Option Hd
  tl : Int → Option (Int × Int × Int)
  dt : Int → Bool
/-- A cache in memory: its own block cb, its maps' blocks sb, tb; what else it reads lies in Z. -/
structure CaAt (Z : Nat → Prop) (w : World) (cb sb tb : Nat) (K : Ca) : Prop where
  c : ∃ (ca : Option Addr) (cc : Nat) (d0 d1 d2 d3 : Int) (rs : List (List Value)), w.heap[cb]? = some (.cells [.slice ca K.cards.length cc, .map (some sb), .map (some tb), .int .u64 d0, .int .u64 d1, .int .u64 d2, .int .u64 d3].toArray 86) ∧ Bt d0 d1 d2 d3 K.dt ∧ RowsZ Z w ca 11 rs ∧ rs.length = K.cards.length ∧ ∀ (i : Nat) (r : List Value) (x : Cd), rs[i]? = some r → K.cards[i]? = some x → CdR Z w r x
  s : ∃ n F, MapV w sb n F ∧ ∀ k, HdV Z w (F k) (K.sl k)
  t : ∃ n, MapV w tb n (fun k => (K.tl k).map fun v => .agg (encV v).toArray)
  kr : ∀ k, (K.sl k).isSome = true → 0 ≤ k ∧ k < 256
  tr : ∀ k, (K.tl k).isSome = true → (K.sl k).isSome = true
  nc : K.cards.length ≤ 1000
  ne : cb ≠ sb ∧ cb ≠ tb ∧ sb ≠ tb ∧ ¬ Z cb ∧ ¬ Z sb ∧ ¬ Z tb
  zl : ∀ b, Z b → b < w.heap.size
theorem CaAt.keep {Z : Nat → Prop} {w w' : World} {cb sb tb : Nat} {K : Ca} (h : CaAt Z w cb sb tb K) (g : Kz Z w w') (g1 : w'.heap[cb]? = w.heap[cb]?) (g2 : w'.heap[sb]? = w.heap[sb]?) (g3 : w'.heap[tb]? = w.heap[tb]?) : CaAt Z w' cb sb tb K := by
  obtain ⟨ca, cc, d0, d1, d2, d3, rs, c1, c2, c3, c4, c5⟩ := h.c
  obtain ⟨n, F, s1, s2⟩ := h.s
  obtain ⟨m, t1⟩ := h.t
  exact ⟨⟨ca, cc, d0, d1, d2, d3, rs, g1.trans c1, c2, c3.keep g, c4, fun i r x hr hx => (c5 i r x hr hx).keep g⟩, ⟨n, F, s1.keep g2, fun k => (s2 k).keep g⟩, ⟨m, t1.keep g3⟩, h.kr, h.tr, h.nc, h.ne, fun b hb => Nat.lt_of_lt_of_le (h.zl b hb) g.s⟩
theorem CaAt.lt {Z : Nat → Prop} {w : World} {cb sb tb : Nat} {K : Ca} (h : CaAt Z w cb sb tb K) : cb < w.heap.size ∧ sb < w.heap.size ∧ tb < w.heap.size := by
  obtain ⟨ca, cc, d0, d1, d2, d3, rs, c1, _⟩ := h.c
  obtain ⟨n, F, s1, s2⟩ := h.s
  obtain ⟨m, t1⟩ := h.t
  exact ⟨blk_lt c1, s1.lt, t1.lt⟩
theorem CaAt.below {Z : Nat → Prop} {w w' : World} {cb sb tb : Nat} {K : Ca} (h : CaAt Z w cb sb tb K) (g : Below w.heap.size w w') : CaAt Z w' cb sb tb K := by
  obtain ⟨l1, l2, l3⟩ := h.lt
  exact h.keep (Kz.below g) (g.block _ l1) (g.block _ l2) (g.block _ l3)
theorem CaAt.gr {Z : Nat → Prop} {w w' : World} {cb sb tb : Nat} {K : Ca} (h : CaAt Z w cb sb tb K) (g : Gr w w') : CaAt Z w' cb sb tb K := h.below (gr_below (.refl _ _) (Nat.le_refl _) g)
theorem HdV.isSome {Z : Nat → Prop} {w : World} {o : Option Value} {h : Option Hd} (hh : HdV Z w o h) : o.isSome = h.isSome := by
  match o, h, hh with
  | some v, some h, ⟨ob, cr, e, k⟩ => rfl
  | none, none, _ => rfl
theorem CaAt.kF {Z : Nat → Prop} {w : World} {cb sb tb : Nat} {K : Ca} (h : CaAt Z w cb sb tb K) {F : Int → Option Value} (s2 : ∀ k, HdV Z w (F k) (K.sl k)) : ∀ k, (F k).isSome = true → 0 ≤ k ∧ k < 256 := fun k hk => h.kr k ((s2 k).isSome ▸ hk)
theorem CaAt.nab {Z : Nat → Prop} {w : World} {cb sb tb : Nat} {K : Ca} (h : CaAt Z w cb sb tb K) (k : Int) : ((K.sl k).getD zHd).cd.abs.length ≤ 1000 := by
  obtain ⟨n, F, s1, s2⟩ := h.s
  have := s2 k
  cases hs : K.sl k with
  | none => exact Nat.zero_le _
  | some hd =>
    rw [hs] at this
    cases hf : F k with
    | none => rw [hf] at this; exact this.elim
    | some v =>
      rw [hf] at this
      obtain ⟨ob, cr, _, kh⟩ := this
      exact kh.c.n
theorem CaAt.nef {Z : Nat → Prop} {w : World} {cb sb tb : Nat} {K : Ca} (h : CaAt Z w cb sb tb K) (k : Int) : ((K.sl k).getD zHd).effs.length ≤ 1000 := by
  obtain ⟨n, F, s1, s2⟩ := h.s
  have := s2 k
  cases hs : K.sl k with
  | none => exact Nat.zero_le _
  | some hd =>
    rw [hs] at this
    cases hf : F k with
    | none => rw [hf] at this; exact this.elim
    | some v =>
      rw [hf] at this
      obtain ⟨ob, cr, _, kh⟩ := this
      exact kh.n
/-- Of what was there nothing has changed but three blocks. -/
structure K3 (cb sb tb : Nat) (w w' : World) : Prop where
  os : w'.os = w.os
  tape : w'.tape = w.tape
  output : w'.output = w.output
  size : w.heap.size ≤ w'.heap.size
  k : ∀ b, b < w.heap.size → b ≠ cb → b ≠ sb → b ≠ tb → w'.heap[b]? = w.heap[b]?
theorem K3.refl (cb sb tb : Nat) (w : World) : K3 cb sb tb w w := ⟨rfl, rfl, rfl, Nat.le_refl _, fun _ _ _ _ _ => rfl⟩
theorem K3.trans {cb sb tb : Nat} {a b c : World} (h : K3 cb sb tb a b) (g : K3 cb sb tb b c) : K3 cb sb tb a c := ⟨g.os.trans h.os, g.tape.trans h.tape, g.output.trans h.output, Nat.le_trans h.size g.size, fun k hl a b c => (g.k k (Nat.lt_of_lt_of_le hl h.size) a b c).trans (h.k k hl a b c)⟩
theorem K3.grown {cb sb tb : Nat} {w w' : World} {row : Option Nat} (g : w.grownBy w' row) (h : ∀ b, row = some b → b = cb ∨ b = sb ∨ b = tb ∨ w.heap.size ≤ b) : K3 cb sb tb w w' := ⟨g.os, g.tape, g.output, g.size, fun k hl a b c => g.block k hl (fun e => by rcases h k e.symm with h | h | h | h <;> omega)⟩
theorem K3.gr {cb sb tb : Nat} {w w' : World} (g : Gr w w') : K3 cb sb tb w w' := K3.grown (gr_grown g) (fun b e => by cases e)
theorem K3.below {cb sb tb : Nat} {w w' : World} (g : Below w.heap.size w w') : K3 cb sb tb w w' := ⟨g.os, g.tape, g.output, g.size, fun k hl _ _ _ => g.block k hl⟩
theorem K3.kz {cb sb tb : Nat} {w w' : World} {Z : Nat → Prop} (g : K3 cb sb tb w w') (h : ¬ Z cb ∧ ¬ Z sb ∧ ¬ Z tb) : Kz Z w w' := ⟨g.size, fun k hk hl => g.k k hl (fun e => h.1 (e ▸ hk)) (fun e => h.2.1 (e ▸ hk)) (fun e => h.2.2 (e ▸ hk))⟩
end Go.Proofs.Yticgadnmlbfmfaa.cachePlays
/-
  Chapter 25: statics, fits, walked.
-/
namespace Go.Proofs.Yticgadnmlbfmfaa.cachePlays
open Go.Shelf Go.RowKit Go.Lib Go.Sort
/-- The functions, by their numbers. -/
structure Fs (P : Program) : Prop where
  f7 : P.funcs[7]? = some Try.f7
  e7 : ∀ args w, (callFunc 7 args).run P w = .ok (.enter 7 args) w
  f10 : P.funcs[10]? = some Try.f10
  e10 : ∀ args w, (callFunc 10 args).run P w = .ok (.enter 10 args) w
  f11 : P.funcs[11]? = some Try.f11
  e11 : ∀ args w, (callFunc 11 args).run P w = .ok (.enter 11 args) w
  f17 : P.funcs[17]? = some Try.f17
  e17 : ∀ args w, (callFunc 17 args).run P w = .ok (.enter 17 args) w
  f20 : P.funcs[20]? = some Try.f20
  e20 : ∀ args w, (callFunc 20 args).run P w = .ok (.enter 20 args) w
  f24 : P.funcs[24]? = some Try.f24
  e24 : ∀ args w, (callFunc 24 args).run P w = .ok (.enter 24 args) w
  f26 : P.funcs[26]? = some Try.f26
  e26 : ∀ args w, (callFunc 26 args).run P w = .ok (.enter 26 args) w
  f27 : P.funcs[27]? = some Try.f27
  e27 : ∀ args w, (callFunc 27 args).run P w = .ok (.enter 27 args) w
  f28 : P.funcs[28]? = some Try.f28
  e28 : ∀ args w, (callFunc 28 args).run P w = .ok (.enter 28 args) w
  f29 : P.funcs[29]? = some Try.f29
  e29 : ∀ args w, (callFunc 29 args).run P w = .ok (.enter 29 args) w
  f30 : P.funcs[30]? = some Try.f30
  e30 : ∀ args w, (callFunc 30 args).run P w = .ok (.enter 30 args) w
  f31 : P.funcs[31]? = some Try.f31
  e31 : ∀ args w, (callFunc 31 args).run P w = .ok (.enter 31 args) w
  f36 : P.funcs[36]? = some Try.f36
  e36 : ∀ args w, (callFunc 36 args).run P w = .ok (.enter 36 args) w
  f37 : P.funcs[37]? = some Try.f37
  e37 : ∀ args w, (callFunc 37 args).run P w = .ok (.enter 37 args) w
  f48 : P.funcs[48]? = some Try.f48
  e48 : ∀ args w, (callFunc 48 args).run P w = .ok (.enter 48 args) w
  f49 : P.funcs[49]? = some Try.f49
  e49 : ∀ args w, (callFunc 49 args).run P w = .ok (.enter 49 args) w
  f50 : P.funcs[50]? = some Try.f50
  e50 : ∀ args w, (callFunc 50 args).run P w = .ok (.enter 50 args) w
  f53 : P.funcs[53]? = some Try.f53
  e53 : ∀ args w, (callFunc 53 args).run P w = .ok (.enter 53 args) w
  f54 : P.funcs[54]? = some Try.f54
  e54 : ∀ args w, (callFunc 54 args).run P w = .ok (.enter 54 args) w
  f55 : P.funcs[55]? = some Try.f55
  e55 : ∀ args w, (callFunc 55 args).run P w = .ok (.enter 55 args) w
  f56 : P.funcs[56]? = some Try.f56
  e56 : ∀ args w, (callFunc 56 args).run P w = .ok (.enter 56 args) w
  f70 : P.funcs[70]? = some Try.f70
  e70 : ∀ args w, (callFunc 70 args).run P w = .ok (.enter 70 args) w
/-- The sizes. -/
structure Sz (k30 k82 k89 k92 : Nat) : Prop where
  s30 : k30 = 14
  s82 : k82 = 11
  s89 : k89 = 13
  s92 : k92 = 25
theorem fsT : Fs Try.prog where
  f7 := Try.func7
  e7 := enters_of Try.func7 (by kernel_rfl) rfl
  f10 := Try.func10
  e10 := enters_of Try.func10 (by kernel_rfl) rfl
  f11 := Try.func11
  e11 := enters_of Try.func11 (by kernel_rfl) rfl
  f17 := Try.func17
  e17 := enters_of Try.func17 (by kernel_rfl) rfl
  f20 := Try.func20
  e20 := enters_of Try.func20 (by kernel_rfl) rfl
  f24 := Try.func24
  e24 := enters_of Try.func24 (by kernel_rfl) rfl
  f26 := Try.func26
  e26 := enters_of Try.func26 (by kernel_rfl) rfl
  f27 := Try.func27
  e27 := enters_of Try.func27 (by kernel_rfl) rfl
  f28 := Try.func28
  e28 := enters_of Try.func28 (by kernel_rfl) rfl
  f29 := Try.func29
  e29 := enters_of Try.func29 (by kernel_rfl) rfl
  f30 := Try.func30
  e30 := enters_of Try.func30 (by kernel_rfl) rfl
  f31 := Try.func31
  e31 := enters_of Try.func31 (by kernel_rfl) rfl
  f36 := Try.func36
  e36 := enters_of Try.func36 (by kernel_rfl) rfl
  f37 := Try.func37
  e37 := enters_of Try.func37 (by kernel_rfl) rfl
  f48 := Try.func48
  e48 := enters_of Try.func48 (by kernel_rfl) rfl
  f49 := Try.func49
  e49 := enters_of Try.func49 (by kernel_rfl) rfl
  f50 := Try.func50
  e50 := enters_of Try.func50 (by kernel_rfl) rfl
  f53 := Try.func53
  e53 := enters_of Try.func53 (by kernel_rfl) rfl
  f54 := Try.func54
  e54 := enters_of Try.func54 (by kernel_rfl) rfl
  f55 := Try.func55
  e55 := enters_of Try.func55 (by kernel_rfl) rfl
  f56 := Try.func56
  e56 := enters_of Try.func56 (by kernel_rfl) rfl
  f70 := Try.func70
  e70 := enters_of Try.func70 (by kernel_rfl) rfl
set_option maxHeartbeats 4000000 in
set_option maxRecDepth 100000 in
theorem isStat_calls {P : Program} {k30 k82 k89 k92 : Nat} {y30 y82 y89 y92 : List Value} (L : LayQ P k30 k82 k89 k92 y30 y82 y89 y92) (R : Fs P) (S : Sz k30 k82 k89 k92) {r : List Value} {x : Ab} (h : AbR r x) (w : World) : Calls P 49 #[.agg r.toArray] w fun e w' => e = .returned (.bool (x.kind == 4)) ∧ Gr w w' := by
  have t3 := L.t3; have a3 := L.a3; have z3 := L.z3; have a89 := L.a89; have z89 := L.z89; have qu89 := run_underlying L.t89
  have cb := hold_cell (hold_new w r 89) h.q0
  have G0 : Aside (Gr w (w.alloc (.cells r.toArray 89))) := (Gr.refl _).alloc _
  clear h
  go_enter R.f49, Try.ntmps49
  go_wp2
  go_returns
  exact ⟨rfl, G0.out⟩
/-- Has it some that act on beasts? -/
def stat (c : Cd) : Bool := c.abs.any fun x => x.kind == 4
set_option maxHeartbeats 4000000 in
set_option maxRecDepth 100000 in
theorem idxStat_calls {P : Program} {k30 k82 k89 k92 : Nat} {y30 y82 y89 y92 : List Value} (L : LayQ P k30 k82 k89 k92 y30 y82 y89 y92) (R : Fs P) (S : Sz k30 k82 k89 k92) {Z : Nat → Prop} {r : List Value} {c : Cd} {w : World} (h : CdR Z w r c) {ad : Option Addr} {cp : Nat} (hq : r[10]? = some (.slice ad c.abs.length cp)) :
    Calls P 70 #[.slice ad c.abs.length cp, .func (.func 49) #[] #[]] w fun e w' => ∃ i : Int, e = .returned (.int .i64 i) ∧ decide (0 ≤ i) = stat c ∧ Gr w w' := by
  have t3 := L.t3; have a3 := L.a3; have z3 := L.z3; have t80 := L.t80; have a80 := L.a80; have z80 := L.z80; have a89 := L.a89; have z89 := L.z89; have qu89 := run_underlying L.t89; have e49 := R.e49
  obtain ⟨ad', cp', rs, b1, b2, b3, b4⟩ := h.ab
  rw [hq] at b1
  injection b1 with b1
  injection b1 with b11 b12 b13
  subst b11 b13
  have HB : Aside _ := b2
  have HA : Aside _ := b4
  have hn := h.n
  have hk := S.s89
  have HS : Aside (∀ i (hi : i < c.abs.length), ∃ (B O : Nat) (q : List Value), ad = some ⟨B, O, none⟩ ∧ AbR q c.abs[i] ∧ ∀ w', Kz Z w w' → Sem.run P (loadCellsFrom ⟨B, O + i * k89, none⟩ 0 k89 #[]) w' = .ok q.toArray w') := fun i hi => by
    have hr : rs[i]? = some rs[i] := List.getElem?_eq_getElem _
    have hA := b4 i _ _ hr (List.getElem?_eq_getElem hi)
    obtain ⟨B, O, e, _, _, hl⟩ := b2.ld P hr hA.len
    exact ⟨B, O, rs[i], e, hA, by rw [hk]; exact hl⟩
  clear h hq b2 b4 hk b3 HB HA b12
  go_enter R.f70, Try.ntmps70
  go_wp2
  go_loopg [8] c.abs.length (fun kx s8 wr => ∃ i : Nat, s8 = .int .i64 i ∧ i ≤ c.abs.length ∧ c.abs.length - i ≤ kx ∧ Aside (Gr w wr) ∧ Hid (∀ j (hj : j < i) (hl : j < c.abs.length), (c.abs[j].kind == 4) = false))
  case atStart => exact ⟨0, rfl, Nat.zero_le _, Nat.le_refl _, Gr.refl _, fun j hj => by omega⟩
  case round =>
    obtain ⟨i, rfl, hid, hkx, S1, HE⟩ := hrel
    by_cases hlt : i < c.abs.length
    · have hltz : (i : Int) < (c.abs.length : Int) := by omega
      have wi : IntKind.i64.wrap ((i : Int) + 1) = (i : Int) + 1 := by rw [IntKind.wrap_i64]; omega
      obtain ⟨B, O, q, rfl, hA, hl⟩ := HS.out i hlt
      have lA := hl wr (Kz.gr S1.out)
      have hc := isStat_calls L R S hA
      obtain ⟨x, hx⟩ : ∃ x, x = c.abs[i] := ⟨_, rfl⟩
      rw [← hx] at hc
      have HX : Hid (x = c.abs[i]) := hx
      clear hA hl hx
      cases hq : (x.kind == 4) with
      | true =>
        rw [hq] at hc
        have HC : Aside _ := hc
        clear hc
        go_wp2_with (go_at_fn 49; refine (HC.out _).mono ?_; rintro e w1 ⟨rfl, hG⟩)
        go_returns
        refine ⟨_, rfl, ?_, Gr.trans S1.out hG⟩
        have : stat c = true := List.any_eq_true.2 ⟨c.abs[i], List.getElem_mem _, HX.out ▸ hq⟩
        rw [this]
        simp
      | false =>
        rw [hq] at hc
        have HC : Aside _ := hc
        clear hc
        go_wp2_with (go_at_fn 49; refine (HC.out _).mono ?_; rintro e w1 ⟨rfl, hG⟩)
        have S2 : Aside (Gr w w1) := Gr.trans S1.out hG
        go_roundg (c.abs.length - (i + 1))
        case measure => omega
        case rel =>
          refine ⟨i + 1, by first | rfl | go_num, by omega, Nat.le_refl _, S2, fun j hj hl => ?_⟩
          rcases Nat.lt_or_ge j i with h | h
          · exact HE.out j h hl
          · obtain rfl : j = i := by omega
            rw [← HX.out]
            exact hq
    · have hltz : ¬ (i : Int) < (c.abs.length : Int) := by omega
      go_wp2
      go_returns
      refine ⟨_, rfl, ?_, S1.out⟩
      have : stat c = false := by
        unfold stat
        rw [List.any_eq_false]
        intro x hx
        obtain ⟨j, hj, rfl⟩ := List.getElem_of_mem hx
        rw [HE.out j (by omega) hj]
        simp
      rw [this]
      simp
set_option maxHeartbeats 4000000 in
set_option maxRecDepth 100000 in
theorem hasStat_calls {P : Program} {k30 k82 k89 k92 : Nat} {y30 y82 y89 y92 : List Value} (L : LayQ P k30 k82 k89 k92 y30 y82 y89 y92) (R : Fs P) (S : Sz k30 k82 k89 k92) {Z : Nat → Prop} {r : List Value} {c : Cd} {w : World} (h : CdR Z w r c) {ad : Option Addr} {cp : Nat} (hq : r[10]? = some (.slice ad c.abs.length cp)) :
    Calls P 48 #[.slice ad c.abs.length cp, .func (.func 49) #[] #[]] w fun e w' => e = .returned (.bool (stat c)) ∧ Gr w w' := by
  have t3 := L.t3; have a3 := L.a3; have z3 := L.z3; have e70 := R.e70
  have hc := idxStat_calls L R S h hq
  clear h hq
  go_enter R.f48, Try.ntmps48
  go_wp2_with (go_at_fn 70; refine hc.mono ?_; rintro e w1 ⟨i, rfl, hd, hG⟩)
  go_returns
  exact ⟨by rw [← hd]; rfl, hG⟩
set_option maxHeartbeats 4000000 in
set_option maxRecDepth 100000 in
theorem statics_calls {P : Program} {k30 k82 k89 k92 : Nat} {y30 y82 y89 y92 : List Value} (L : LayQ P k30 k82 k89 k92 y30 y82 y89 y92) (R : Fs P) (S : Sz k30 k82 k89 k92) {Z : Nat → Prop} {ob cr : List Value} {h : Hd} {w : World} (hh : HdR Z w ob cr h) :
    Calls P 27 #[.agg (ob ++ cr).toArray] w fun e w' => e = .returned (.bool (stat h.cd)) ∧ Gr w w' := by
  have t3 := L.t3; have t80 := L.t80; have a80 := L.a80; have z80 := L.z80; have a92 := L.a92; have z92 := L.z92; have qu92 := run_underlying L.t92; have a82 := L.a82; have z82 := L.z82; have qu82 := run_underlying L.t82; have e48 := R.e48
  obtain ⟨ad, cp, rs, b1, _⟩ := hh.c.ab
  have c24 := hold_cell (hold_new w (ob ++ cr) 92) (j := 24) (v := .slice ad h.cd.abs.length cp) (by rw [List.getElem?_append_right (by rw [hh.len]; decide), hh.len]; exact b1)
  have g : Gr w (w.alloc (.cells (ob ++ cr).toArray 92)) := (Gr.refl _).alloc _
  have hc := hasStat_calls L R S (hh.c.keep (Kz.gr g)) b1
  have G0 : Aside _ := g
  have n82 : ¬ k82 = 0 := by rw [S.s82]; decide
  clear hh g b1
  go_enter R.f27, Try.ntmps27
  go_wp2_with (go_at_fn 48; refine hc.mono ?_; rintro e w1 ⟨rfl, hG⟩)
  go_returns
  exact ⟨rfl, Gr.trans G0.out hG⟩
end Go.Proofs.Yticgadnmlbfmfaa.cachePlays
/-
  Chapter 25: soil, walked.
-/
namespace Go.Proofs.Yticgadnmlbfmfaa.cachePlays
open Go.Shelf Go.RowKit Go.Lib Go.Sort
/-- A slot is soiled. -/
def Ca.soil (K : Ca) (i : Int) : Ca := { K with tl := fun k => if k = i then none else K.tl k, dt := addB i K.dt }
theorem grown_sets {w : World} (b : Nat) : ∀ (vs : List Value) (o : Nat), w.grownBy (w.setCells b o vs) (some b) := fun vs o => by
  refine ⟨?_, ?_, ?_, ?_, fun k _ hk => ?_⟩
  · induction vs generalizing o w with
    | nil => rfl
    | cons v vs ih => exact ih (w := w.setCell ⟨b, o, none⟩ v) (o + 1)
  · induction vs generalizing o w with
    | nil => rfl
    | cons v vs ih => exact ih (w := w.setCell ⟨b, o, none⟩ v) (o + 1)
  · induction vs generalizing o w with
    | nil => rfl
    | cons v vs ih => exact ih (w := w.setCell ⟨b, o, none⟩ v) (o + 1)
  · induction vs generalizing o w with
    | nil => exact Nat.le_refl _
    | cons v vs ih =>
      have := ih (w := w.setCell ⟨b, o, none⟩ v) (o + 1)
      rw [World.size_setCell] at this
      exact this
  · exact sets_other (fun e => hk (by rw [e])) vs o
/-- The four words of a cache, stored. -/
theorem ca_words {w : World} {cb : Nat} {a b c : Value} {d0 d1 d2 d3 : Int} (h : w.heap[cb]? = some (.cells [a, b, c, .int .u64 d0, .int .u64 d1, .int .u64 d2, .int .u64 d3].toArray 86)) (e0 e1 e2 e3 : Int) :
    w.grownBy ((((w.setCell ⟨cb, 3, none⟩ (.int .u64 e0)).setCell ⟨cb, 4, none⟩ (.int .u64 e1)).setCell ⟨cb, 5, none⟩ (.int .u64 e2)).setCell ⟨cb, 6, none⟩ (.int .u64 e3)) (some cb) ∧ ((((w.setCell ⟨cb, 3, none⟩ (.int .u64 e0)).setCell ⟨cb, 4, none⟩ (.int .u64 e1)).setCell ⟨cb, 5, none⟩ (.int .u64 e2)).setCell ⟨cb, 6, none⟩ (.int .u64 e3)).heap[cb]? = some (.cells [a, b, c, .int .u64 e0, .int .u64 e1, .int .u64 e2, .int .u64 e3].toArray 86) :=
  ⟨grown_sets (w := w) cb [.int .u64 e0, .int .u64 e1, .int .u64 e2, .int .u64 e3] 3, blk_sets cb 86 [.int .u64 e0, .int .u64 e1, .int .u64 e2, .int .u64 e3] 3 h⟩
/-- The cells of a cache's block. -/
theorem ca_cells {w : World} {cb : Nat} {a b c : Value} {d0 d1 d2 d3 : Int} (h : w.heap[cb]? = some (.cells [a, b, c, .int .u64 d0, .int .u64 d1, .int .u64 d2, .int .u64 d3].toArray 86)) :
    (w.cell? ⟨cb, 0, none⟩ = some a ∧ w.cell? ⟨cb, 1, none⟩ = some b ∧ w.cell? ⟨cb, 2, none⟩ = some c ∧ w.cell? ⟨cb, 3, none⟩ = some (.int .u64 d0) ∧ w.cell? ⟨cb, 4, none⟩ = some (.int .u64 d1) ∧ w.cell? ⟨cb, 5, none⟩ = some (.int .u64 d2) ∧ w.cell? ⟨cb, 6, none⟩ = some (.int .u64 d3)) ∧
    (w.frozen? ⟨cb, 3, none⟩ = false ∧ w.frozen? ⟨cb, 4, none⟩ = false ∧ w.frozen? ⟨cb, 5, none⟩ = false ∧ w.frozen? ⟨cb, 6, none⟩ = false) := by
  have hh := blk_hold h
  refine ⟨⟨(hh 0 (by simp)).1, (hh 1 (by simp)).1, (hh 2 (by simp)).1, (hh 3 (by simp)).1, (hh 4 (by simp)).1, (hh 5 (by simp)).1, (hh 6 (by simp)).1⟩, (hh 3 (by simp)).2, (hh 4 (by simp)).2, (hh 5 (by simp)).2, (hh 6 (by simp)).2⟩
/-- A cache whose words, and what was told, have changed. -/
theorem CaAt.upd {Z : Nat → Prop} {w w' : World} {cb sb tb : Nat} {K : Ca} (h : CaAt Z w cb sb tb K) (g : K3 cb sb tb w w') (gs : w'.heap[sb]? = w.heap[sb]?) {tl : Int → Option (Int × Int × Int)} {dt : Int → Bool} {m : Nat} (ht : MapV w' tb m (fun k => (tl k).map fun v => .agg (encV v).toArray)) (htr : ∀ k, (tl k).isSome = true → (K.sl k).isSome = true)
    (hc : ∀ ca cc d0 d1 d2 d3, w.heap[cb]? = some (.cells [.slice ca K.cards.length cc, .map (some sb), .map (some tb), .int .u64 d0, .int .u64 d1, .int .u64 d2, .int .u64 d3].toArray 86) → ∃ e0 e1 e2 e3, w'.heap[cb]? = some (.cells [.slice ca K.cards.length cc, .map (some sb), .map (some tb), .int .u64 e0, .int .u64 e1, .int .u64 e2, .int .u64 e3].toArray 86) ∧ Bt e0 e1 e2 e3 dt) : CaAt Z w' cb sb tb { K with tl := tl, dt := dt } := by
  obtain ⟨ca, cc, d0, d1, d2, d3, rs, c1, c2, c3, c4, c5⟩ := h.c
  obtain ⟨n, F, s1, s2⟩ := h.s
  obtain ⟨e0, e1, e2, e3, x1, x2⟩ := hc _ _ _ _ _ _ c1
  have kz := g.kz (Z := Z) h.ne.2.2.2
  exact ⟨⟨ca, cc, e0, e1, e2, e3, rs, x1, x2, c3.keep kz, c4, fun i r x hr hx => (c5 i r x hr hx).keep kz⟩, ⟨n, F, s1.keep gs, fun k => (s2 k).keep kz⟩, ⟨m, ht⟩, h.kr, htr, h.nc, h.ne, fun b hb => Nat.lt_of_lt_of_le (h.zl b hb) g.size⟩
set_option maxHeartbeats 4000000 in
set_option maxRecDepth 100000 in
theorem soil_calls {Z : Nat → Prop} {w : World} {cb sb tb : Nat} {K : Ca} (h : CaAt Z w cb sb tb K) {i : Int} (hi : 0 ≤ i) (hi2 : i < 256) :
    Calls Try.prog 28 #[.pointer (some ⟨cb, 0, none⟩), .int .i64 i] w fun e w' => e = .returned (.tuple #[]) ∧ CaAt Z w' cb sb tb (K.soil i) ∧ K3 cb sb tb w w' ∧ w'.heap[sb]? = w.heap[sb]? := by
  obtain ⟨ca, cc, d0, d1, d2, d3, rs, c1, c2, _⟩ := h.c
  obtain ⟨m, t1⟩ := h.t
  obtain ⟨l1, l2, l3⟩ := h.lt
  obtain ⟨W1, m', hd, t2, _, g1, z1⟩ := t1.del Try.underlying84 Try.underlying3 i 0
  have c1' := (g1.block cb l1 (by simp; exact h.ne.2.1)).trans c1
  obtain ⟨e0, e1, e2, e3, hB, hA⟩ := add_calls c2 hi hi2
  obtain ⟨⟨a0, a1, a2, a3, a4, a5, a6⟩, _⟩ := ca_cells c1
  obtain ⟨⟨b0, b1, b2, b3, b4, b5, b6⟩, _⟩ := ca_cells c1'
  have HA : Aside _ := hA
  have fin : ∀ W2, Gr W1 W2 → ((W2.frozen? ⟨cb, 3, none⟩ = false ∧ W2.frozen? ⟨cb, 4, none⟩ = false ∧ W2.frozen? ⟨cb, 5, none⟩ = false ∧ W2.frozen? ⟨cb, 6, none⟩ = false) ∧ (W2.cell? ⟨cb, 3, none⟩ = some (.int .u64 d0) ∧ W2.cell? ⟨cb, 4, none⟩ = some (.int .u64 d1) ∧ W2.cell? ⟨cb, 5, none⟩ = some (.int .u64 d2) ∧ W2.cell? ⟨cb, 6, none⟩ = some (.int .u64 d3)) ∧
      ∀ W3, W3 = ((((W2.setCell ⟨cb, 3, none⟩ (.int .u64 e0)).setCell ⟨cb, 4, none⟩ (.int .u64 e1)).setCell ⟨cb, 5, none⟩ (.int .u64 e2)).setCell ⟨cb, 6, none⟩ (.int .u64 e3)) → CaAt Z W3 cb sb tb (K.soil i) ∧ K3 cb sb tb w W3 ∧ W3.heap[sb]? = w.heap[sb]?) := fun W2 g => by
    have c2' := blk_gr c1' g
    refine ⟨(ca_cells c2').2, ⟨(ca_cells c2').1.2.2.2.1, (ca_cells c2').1.2.2.2.2.1, (ca_cells c2').1.2.2.2.2.2.1, (ca_cells c2').1.2.2.2.2.2.2⟩, fun W3 e => ?_⟩
    subst e
    obtain ⟨g3, h3⟩ := ca_words c2' e0 e1 e2 e3
    have k1 : K3 cb sb tb w W1 := K3.grown g1 (fun b e => by cases e; exact .inr (.inr (.inl rfl)))
    have k2 : K3 cb sb tb W1 W2 := K3.gr g
    have k3 := K3.grown (sb := sb) (tb := tb) g3 (fun b e => by cases e; exact .inl rfl)
    have kk := (k1.trans k2).trans k3
    have gl := Gr.le g
    have hs : _ = w.heap[sb]? := (g3.block sb (by omega) (by simp; exact fun e => h.ne.1 e.symm)).trans (((gr_grown g).block sb (by omega) (by simp)).trans (g1.block sb l2 (by simp; exact h.ne.2.2.1)))
    refine ⟨h.upd kk hs (m := m') (tl := fun k => if k = i then none else K.tl k) (dt := addB i K.dt) ?_ (fun k hk => ?_) ?_, kk, hs⟩
    · refine (t2.congr fun k => ?_).keep ((g3.block tb (by omega) (by simp; exact fun e => h.ne.2.1 e.symm)).trans ((gr_grown g).block tb (by omega) (by simp)))
      split <;> simp
    · split at hk
      · cases hk
      · exact h.tr k hk
    · intro ca' cc' x0 x1 x2 x3 hx
      rw [c1] at hx
      injection hx with hx
      injection hx with hx
      have : (ca = ca' ∧ cc = cc') ∧ d0 = x0 ∧ d1 = x1 ∧ d2 = x2 ∧ d3 = x3 := by simpa using hx
      obtain ⟨⟨rfl, rfl⟩, _⟩ := this
      exact ⟨e0, e1, e2, e3, h3, hB⟩
  have FIN : Aside _ := fin
  clear fin hA hB c2 c1 c1' t1 t2 g1 z1 l1 l2 l3 h
  simp only [encB4] at HA
  go_enter Try.func28, Try.ntmps28
  go_wp2_with (first | (go_at_call 50; refine (HA.out _).mono ?_; rintro e w2 ⟨rfl, hG⟩; obtain ⟨⟨f3, f4, f5, f6⟩, ⟨q3, q4, q5, q6⟩, fn⟩ := FIN.out _ hG; have FF : Aside _ := fn; clear fn hG))
  go_end0
  exact ⟨rfl, FF.out _ rfl⟩
end Go.Proofs.Yticgadnmlbfmfaa.cachePlays
/-
  Chapter 25: soilAll, walked.
-/
namespace Go.Proofs.Yticgadnmlbfmfaa.cachePlays
open Go.Shelf Go.RowKit Go.Lib Go.Sort Go.Maps
theorem ranges_keep {H : Type} {P : Program} {k : TypeId} {R : Value → Option (DataW H × List MemPlace)} {w w' : World} {b r n : Nat} {D : DataW H} {left : Lit → Bool} {cnt : Nat} (h : w.ranges P k R b r n D left cnt) (e1 : w'.heap[b]? = w.heap[b]?) (e2 : w'.heap[r]? = w.heap[r]?) : w'.ranges P k R b r n D left cnt := by
  obtain ⟨es, clock, since, seen, c0, hb, F, hs, hD, hr, rest⟩ := h
  exact ⟨es, clock, since, seen, c0, e1.trans hb, F, hs, hD, e2.trans hr, rest⟩
theorem K3.then {cb sb tb : Nat} {w a c : World} (h : K3 cb sb tb w a) {row : Option Nat} (g : a.grownBy c row) (hr : ∀ b, row = some b → b = cb ∨ b = sb ∨ b = tb ∨ w.heap.size ≤ b) : K3 cb sb tb w c :=
  ⟨g.os.trans h.os, g.tape.trans h.tape, g.output.trans h.output, Nat.le_trans h.size g.size, fun k hl x y z => (g.block k (Nat.lt_of_lt_of_le hl h.size) (fun e => by rcases hr k e.symm with h | h | h | h <;> omega)).trans (h.k k hl x y z)⟩
theorem K3.trans' {cb sb tb : Nat} {a b c : World} (h : K3 cb sb tb a b) (g : K3 cb sb tb b c) : K3 cb sb tb a c := h.trans g
/-- Soiled, but for those that are left. -/
def Ca.soilL (K : Ca) (left : Lit → Bool) : Ca := { K with tl := fun k => if (K.sl k).isSome && !left (.int .i64 k) then none else K.tl k, dt := fun k => ((K.sl k).isSome && !left (.int .i64 k)) || K.dt k }
/-- All that hold something are soiled. -/
def Ca.soilAll (K : Ca) : Ca := { K with tl := fun _ => none, dt := fun k => (K.sl k).isSome || K.dt k }
theorem soilL_none {K : Ca} {left : Lit → Bool} (h : ∀ k, (K.sl k).isSome = true → left (.int .i64 k) = true) : K.soilL left = K := by
  obtain ⟨c, sl, tl, dt⟩ := K
  have e : ∀ k, ((sl k).isSome && !left (.int .i64 k)) = false := fun k => by
    cases hs : (sl k).isSome
    · rfl
    · rw [h k hs]
      rfl
  simp only [Ca.soilL, e, Bool.false_or]
  simp
theorem soilL_all {K : Ca} {left : Lit → Bool} (ht : ∀ k, (K.tl k).isSome = true → (K.sl k).isSome = true) (h : ∀ kl, left kl = false) : K.soilL left = K.soilAll := by
  simp only [Ca.soilL, Ca.soilAll, h, Bool.not_false, Bool.and_true]
  congr 1
  funext k
  split
  · rfl
  · rename_i hs
    cases hk : K.tl k with
    | none => rfl
    | some v => exact absurd (ht k (by rw [hk]; rfl)) hs
theorem soilL_step {K : Ca} {left : Lit → Bool} {x : Int} (hx : (K.sl x).isSome = true) : (K.soilL left).soil x = K.soilL fun z => left z && !z.sameKey (.int .i64 x) := by
  simp only [Ca.soilL, Ca.soil]
  have e : ∀ k, (Lit.int .i64 k).sameKey (.int .i64 x) = decide (k = x) := fun k => by
    rw [Bool.eq_iff_iff, decide_eq_true_iff]
    simp [Lit.sameKey]
  congr 1
  · funext k
    by_cases hk : k = x
    · subst hk
      simp [hx, e]
    · simp [hk, e]
  · funext k
    by_cases hk : k = x
    · subst hk
      simp [hx, e, addB]
    · simp [hk, e, addB]
set_option maxHeartbeats 4000000 in
set_option maxRecDepth 100000 in
theorem soilAll_calls {Z : Nat → Prop} {w : World} {cb sb tb : Nat} {K : Ca} (h : CaAt Z w cb sb tb K) :
    Calls Try.prog 29 #[.pointer (some ⟨cb, 0, none⟩)] w fun e w' => e = .returned (.tuple #[]) ∧ CaAt Z w' cb sb tb K.soilAll ∧ K3 cb sb tb w w' := by
  obtain ⟨ca, cc, d0, d1, d2, d3, rs, c1, _⟩ := h.c
  obtain ⟨n, F, s1, s2⟩ := h.s
  have kF := h.kF s2
  obtain ⟨D, hown, hD, _, _⟩ := s1.own Try.underlying3 (Nat.le_trans (s1.le kF) (by decide)) kF
  obtain ⟨⟨a0, a1, a2, _⟩, _⟩ := ca_cells c1
  have sF : ∀ k, (F k).isSome = (K.sl k).isSome := fun k => (s2 k).isSome
  obtain ⟨l1, l2, l3⟩ := h.lt
  have T3 := Try.underlying3
  have T83 := Try.underlying83
  have HH : Aside _ := h
  have HD : Aside _ := hD
  have HF : Aside _ := sF
  have HT := h.tr
  have HT : Aside _ := HT
  clear h c1 s1 s2 kF hD sF
  go_enter Try.func29, Try.ntmps29
  go_wp2_with (first | (at_range; refine wpList_range_own _ rfl _ 83 rfl 3 92 (int_keyed T3) T83 anyR sb n D rfl hown ?_; intro w0 hrg0 hg0 hs0) | fail)
  go_frame
  go_loopw [2] (fun _ wr => ∃ (left : Lit → Bool) (cnt : Nat), wr.ranges Try.prog 3 anyR sb w.heap.size n D left cnt ∧ Aside (CaAt Z wr cb sb tb (K.soilL left)) ∧ Aside (K3 cb sb tb w wr) ∧ w.heap.size < wr.heap.size)
    (fun _ wr => wr.rangeLeft sb w.heap.size)
  case atStart =>
    refine ⟨_, _, hrg0, ?_, K3.grown hg0 (fun b e => by cases e), by omega⟩
    show CaAt Z w0 cb sb tb _
    rw [soilL_none (fun k hk => by rw [HD.out k, HF.out k]; exact hk)]
    exact HH.out.keep (Kz.grown hg0 (fun b e => by cases e)) (hg0.block _ l1 (by simp)) (hg0.block _ l2 (by simp)) (hg0.block _ l3 (by simp))
  case round =>
    obtain ⟨left, cnt, hrg, HC, HK, hsz⟩ := hrel
    go_wp2_with (first
      | (at_next; refine wpList_next_ranges _ rfl _ rfl 3 (int_keyed T3) anyR encZ id (fun key kl hk => by obtain ⟨x, hx, _⟩ := Maps.keyOf_i64 T3 hk; exact ⟨x, hx⟩) (fun v _ _ => ⟨v, rfl⟩) sb w.heap.size n _ _ _ rfl hrg ?_ ?_)
      | fail)
    · intro hc0 hl0
      go_wp2
      go_end0
      refine ⟨rfl, ?_, HK.out⟩
      have := HC.out
      rw [soilL_all HT.out hl0] at this
      exact this
    · intro x c kl yd yp w2 cnt2 hkey hlk hv hat hrg2 hlt hg2 hs2 hen
      obtain ⟨x', ex, rfl, _⟩ := Maps.keyOf_i64 T3 hkey
      obtain rfl : x = x' := encZ_inj ex
      have hx : (K.sl x).isSome = true := by
        rw [← HF.out x, ← HD.out x]
        exact Maps.has_true_of_atKey hat
      have hb := HH.out.kr x hx
      have hne : w.heap.size ≠ cb ∧ w.heap.size ≠ sb ∧ w.heap.size ≠ tb := ⟨by omega, by omega, by omega⟩
      have C2 : CaAt Z w2 cb sb tb (K.soilL left) := HC.out.keep (Kz.grown hg2 (fun b e => by
        cases e
        intro hz
        have := HH.out.zl _ hz
        omega)) (hg2.block _ (by omega) (by simp; omega)) (hg2.block _ (by omega) (by simp; omega)) (hg2.block _ (by omega) (by simp; omega))
      have hc := soil_calls C2 hb.1 hb.2
      have K2 : Aside _ := HK.out.then hg2 (fun b e => by cases e; exact .inr (.inr (.inr (Nat.le_refl _))))
      have HRG : Aside (w2.ranges Try.prog 3 anyR sb w.heap.size n D (fun z => left z && !z.sameKey (.int .i64 x)) cnt2) := hrg2
      have HLT : Aside _ := hlt
      have HX : Aside _ := hx
      have HS2 : Hid _ := hs2
      have HRG0 : Hid _ := hrg.left_eq
      clear C2 hrg2 hlt hx hat hlk hkey hg2 hs2 hrg
      go_wp2_with (first | (go_at_call 28; refine hc.mono ?_; rintro e w3 ⟨rfl, hC3, hK3, hS3⟩; have C3 : Aside _ := hC3; have A3 : Aside _ := hK3; have S3 : Aside _ := hS3; clear hC3 hK3 hS3) | fail)
      have hr3 := ranges_keep HRG.out S3.out (A3.out.k _ (by rw [HS2.out]; exact hsz) hne.1 hne.2.1 hne.2.2)
      have hz3 := A3.out.size
      have hs2 := HS2.out
      go_roundw
      case rel => exact ⟨_, cnt2, hr3, by rw [← soilL_step HX.out]; exact C3.out, K3.trans' K2.out A3.out, by omega⟩
      case measure => rw [hr3.left_eq, HRG0.out]; exact HLT.out
end Go.Proofs.Yticgadnmlbfmfaa.cachePlays
/-
  Chapter 25: fits, walked.
-/
namespace Go.Proofs.Yticgadnmlbfmfaa.cachePlays
open Go.Shelf Go.RowKit Go.Lib Go.Sort Go.Maps
theorem zHdR (Z : Nat → Prop) (w : World) : HdR Z w zv30 zv82 zHd := by
  refine ⟨rfl, ?_, rfl, rfl, rfl, ⟨none, 0, rfl, .inl rfl⟩, Nat.zero_le _, ⟨rfl, ?_, rfl, rfl, rfl, rfl, ⟨none, 0, [], rfl, .inl rfl, rfl, fun i r x h => by simp at h⟩, Nat.zero_le _⟩⟩
  · intro v hv
    simp only [zv30, List.mem_cons, List.not_mem_nil, or_false, or_self] at hv
    rcases hv with rfl | rfl | rfl | rfl | rfl | rfl | rfl | rfl | rfl | rfl | rfl | rfl | rfl | rfl <;> rfl
  · intro v hv
    simp only [zv82, List.mem_cons, List.not_mem_nil, or_false, or_self] at hv
    rcases hv with rfl | rfl | rfl | rfl | rfl | rfl | rfl | rfl | rfl | rfl | rfl <;> rfl
/-- What stands at a slot; zeros where nothing does. -/
theorem slot_get {Z : Nat → Prop} {w : World} {o : Option Value} {h : Option Hd} (hh : HdV Z w o h) : ∃ ob cr, o.getD (.agg zv92.toArray) = .agg (ob ++ cr).toArray ∧ HdR Z w ob cr (h.getD zHd) := by
  match o, h, hh with
  | some v, some h, ⟨ob, cr, e, k⟩ => exact ⟨ob, cr, e, k⟩
  | none, none, _ => exact ⟨zv30, zv82, rfl, zHdR Z w⟩
def Ca.at (K : Ca) (i : Int) : Hd := (K.sl i).getD zHd
/-- Does a static act on a slot's beast? -/
def fitC (who by_ on : Int) (same : Bool) : Bool := (who == 0 && by_ == on) || (who == 1 && same) || who == 2 || (who == 3 && same && by_ != on)
theorem fld_obj {ob cr : List Value} (h : ob.length = 14) (W : World) : (Instr.field 92 (.agg (ob ++ cr).toArray) 0).run Try.prog W = .ok (.agg ob.toArray) W := by
  have e : List.take 14 (ob ++ cr) = ob := by
    rw [← h]
    simp
  have ha : ∀ a W, (asAgg (.agg a)).run Try.prog W = .ok a W := fun _ _ => rfl
  simp [Instr.field, run_underlying Try.underlying92, go_sem, Try.isAgg30, Try.sizeOf30, ha, Result.andThen, e]
theorem fld_ctrl {ob : List Value} {c : Int} (h : ob[3]? = some (.int .i64 c)) (W : World) : (Instr.field 30 (.agg ob.toArray) 3).run Try.prog W = .ok (.int .i64 c) W := by
  have ha : ∀ a W, (asAgg (.agg a)).run Try.prog W = .ok a W := fun _ _ => rfl
  simp [Instr.field, run_underlying Try.underlying30, go_sem, Try.isAgg3, Try.sizeOf3, ha, Result.andThen, h]
set_option maxHeartbeats 8000000 in
set_option maxRecDepth 100000 in
theorem fits_calls {Z : Nat → Prop} {w : World} {cb sb tb : Nat} {K : Ca} (h : CaAt Z w cb sb tb K) (who by_ on : Int) :
    Calls Try.prog 56 #[.pointer (some ⟨cb, 0, none⟩), .int .i64 who, .int .i64 by_, .int .i64 on] w fun e w' => e = .returned (.bool (fitC who by_ on ((K.at by_).ctrl == (K.at on).ctrl))) ∧ Gr w w' := by
  have mixed := mixedT
  obtain ⟨ca, cc, d0, d1, d2, d3, rs, c1, _⟩ := h.c
  obtain ⟨n, F, s1, s2⟩ := h.s
  obtain ⟨⟨a0, a1, a2, _⟩, _⟩ := ca_cells c1
  have s1' : MapV w.drew sb n F := s1.keep rfl
  have l1 := s1'.look Try.underlying83 Try.underlying3 Try.zeroValue92 by_
  have l2 := s1'.look Try.underlying83 Try.underlying3 Try.zeroValue92 on
  obtain ⟨o1, r1, e1, (k1 : HdR Z w o1 r1 (K.at by_))⟩ := slot_get (s2 by_)
  obtain ⟨o2, r2, e2, (k2 : HdR Z w o2 r2 (K.at on))⟩ := slot_get (s2 on)
  simp only [zv92] at e1 e2
  rw [e1] at l1
  rw [e2] at l2
  have f1 := fld_obj (cr := r1) k1.len
  have f2 := fld_obj (cr := r2) k2.len
  have g1 := fld_ctrl k1.q3
  have g2 := fld_ctrl k2.q3
  have G0 : Aside (Gr w w.drew) := (Gr.refl w).drew
  clear h c1 s1 s1' s2 e1 e2 k1 k2
  generalize (K.at by_).ctrl = x at g1 ⊢
  generalize (K.at on).ctrl = y at g2 ⊢
  generalize hr : fitC who by_ on (x == y) = r
  have HR : Hid _ := hr
  clear hr
  go_enter Try.func56, Try.ntmps56
  go_wp2
  go_big_region_o
  clear l1 l2 f1 f2 g1 g2 a0 a1 a2
  generalize (x == y) = sm at HR ⊢
  generalize w.drew = W at G0 ⊢
  by_cases hbo : by_ = on
  · subst hbo
    by_cases h0 : who = 0
    · subst h0
      go_wp2
      go_returns
      exact ⟨by rw [← HR.out]; simp [fitC], G0.out⟩
    · have b0 : (who == 0) = false := by simpa using h0
      by_cases h1 : who = 1
      · subst h1
        cases sm <;> (go_wp2; go_returns; exact ⟨by rw [← HR.out]; simp [fitC], G0.out⟩)
      · have b1 : (who == 1) = false := by simpa using h1
        by_cases h2 : who = 2
        · subst h2
          go_wp2
          go_returns
          exact ⟨by rw [← HR.out]; simp [fitC], G0.out⟩
        · have b2 : (who == 2) = false := by simpa using h2
          by_cases h3 : who = 3
          · subst h3
            cases sm <;> (go_wp2; go_returns; exact ⟨by rw [← HR.out]; simp [fitC], G0.out⟩)
          · have b3 : (who == 3) = false := by simpa using h3
            go_wp2
            go_returns
            exact ⟨by rw [← HR.out]; simp [fitC, h0, h1, h2, h3], G0.out⟩
  · have be : (by_ == on) = false := by simpa using hbo
    have bn : (by_ != on) = true := by simpa using hbo
    by_cases h0 : who = 0
    · subst h0
      go_wp2
      go_returns
      exact ⟨by rw [← HR.out]; simp [fitC, hbo], G0.out⟩
    · have b0 : (who == 0) = false := by simpa using h0
      by_cases h1 : who = 1
      · subst h1
        cases sm <;> (go_wp2; go_returns; exact ⟨by rw [← HR.out]; simp [fitC], G0.out⟩)
      · have b1 : (who == 1) = false := by simpa using h1
        by_cases h2 : who = 2
        · subst h2
          go_wp2
          go_returns
          exact ⟨by rw [← HR.out]; simp [fitC], G0.out⟩
        · have b2 : (who == 2) = false := by simpa using h2
          by_cases h3 : who = 3
          · subst h3
            cases sm <;> (go_wp2; go_returns; exact ⟨by rw [← HR.out]; simp [fitC, hbo], G0.out⟩)
          · have b3 : (who == 3) = false := by simpa using h3
            go_wp2
            go_returns
            exact ⟨by rw [← HR.out]; simp [fitC, h0, h1, h2, h3], G0.out⟩
end Go.Proofs.Yticgadnmlbfmfaa.cachePlays
/-
  Chapter 25: the numbers of a map, sorted: the shelf's contracts.
-/
namespace Go.Proofs.Yticgadnmlbfmfaa.cachePlays
section
open Go.Shelf
def Try.keysA_ren : Go.Shelf.Ren := ⟨fun | 7 => 55 | 10 => 74 | n => n, fun | 23 => 83 | 26 => 3 | 3 => 92 | 28 => 117 | 0 => 0 | 27 => 116 | 33 => 55 | 4 => 4 | n => n, fun | n => n⟩
theorem Try.keysA : Go.Proofs.SlLaysZI.n7 Try.prog Try.keysA_ren := {
  mixed := by kernel_rfl
  f7 := ⟨Try.f55.name, by decide, Try.func55.trans (congrArg some (by kernel_rfl))⟩
  f10 := ⟨Try.f74.name, by decide, Try.func74.trans (congrArg some (by kernel_rfl))⟩
  t0 := Try.underlying0
  a0 := Try.isAgg0
  z0 := Try.sizeOf0
  v0 := Try.zeroValue0
  t4 := Try.underlying4
  a4 := Try.isAgg4
  z4 := Try.sizeOf4
  v4 := Try.zeroValue4
  t23 := Try.underlying83
  a23 := Try.isAgg83
  z23 := Try.sizeOf83
  v23 := Try.zeroValue83
  t26 := Try.underlying3
  a26 := Try.isAgg3
  z26 := Try.sizeOf3
  v26 := Try.zeroValue3
  t27 := Try.underlying116
  a27 := Try.isAgg116
  z27 := Try.sizeOf116
  v27 := Try.zeroValue116
  t28 := Try.underlying117
  a28 := Try.isAgg117
  z28 := Try.sizeOf117
  v28 := Try.zeroValue117
  t33 := Try.underlying55
  a33 := Try.isAgg55
  z33 := Try.sizeOf55
  v33 := Try.zeroValue55 }
def Try.sortedA_ren : Go.Shelf.Ren := ⟨fun | 6 => 54 | 8 => 72 | 9 => 73 | 11 => 82 | 13 => 84 | 12 => 83 | 23 => 99 | 24 => 100 | 14 => 90 | 15 => 91 | 16 => 92 | 17 => 93 | 18 => 94 | 19 => 95 | 20 => 96 | 21 => 97 | 22 => 98 | 25 => 102 | 26 => 103 | 27 => 104 | 28 => 105 | 29 => 106 | 30 => 58 | 31 => 107 | n => n, fun | 26 => 3 | 28 => 117 | 24 => 69 | 0 => 0 | 3 => 3 | 37 => 146 | 48 => 157 | 50 => 51 | 4 => 4 | 40 => 149 | 39 => 148 | 45 => 154 | 5 => 5 | 9 => 9 | 51 => 159 | 55 => 163 | 57 => 165 | 58 => 166 | 33 => 55 | n => n, fun | n => n⟩
theorem Try.sortedA : Go.Proofs.SlLaysZI.n6 Try.prog Try.sortedA_ren := {
  mixed := by kernel_rfl
  f6 := ⟨Try.f54.name, by decide, Try.func54.trans (congrArg some (by kernel_rfl))⟩
  f8 := ⟨Try.f72.name, by decide, Try.func72.trans (congrArg some (by kernel_rfl))⟩
  f11 := ⟨Try.f82.name, by decide, Try.func82.trans (congrArg some (by kernel_rfl))⟩
  t0 := Try.underlying0
  a0 := Try.isAgg0
  z0 := Try.sizeOf0
  v0 := Try.zeroValue0
  t24 := Try.underlying69
  a24 := Try.isAgg69
  z24 := Try.sizeOf69
  v24 := Try.zeroValue69
  t26 := Try.underlying3
  a26 := Try.isAgg3
  z26 := Try.sizeOf3
  v26 := Try.zeroValue3
  t28 := Try.underlying117
  a28 := Try.isAgg117
  z28 := Try.sizeOf117
  v28 := Try.zeroValue117
  i26 := by kernel_rfl }
def Try.sortA_ren : Go.Shelf.Ren := ⟨fun | 5 => 73 | 8 => 84 | 7 => 83 | 19 => 99 | 20 => 100 | 10 => 90 | 11 => 91 | 12 => 92 | 13 => 93 | 14 => 94 | 15 => 95 | 16 => 96 | 17 => 97 | 18 => 98 | 30 => 102 | 31 => 103 | 32 => 104 | 33 => 105 | 34 => 106 | 35 => 58 | 40 => 107 | n => n, fun | 23 => 69 | 25 => 3 | 3 => 3 | 32 => 146 | 22 => 69 | 0 => 0 | 44 => 157 | 46 => 51 | 4 => 4 | 36 => 149 | 35 => 148 | 41 => 154 | 5 => 5 | 9 => 9 | 53 => 159 | 57 => 163 | 63 => 165 | 64 => 166 | n => n, fun | n => n⟩
theorem Try.sortA : Go.Proofs.SlLaysM.n5 Try.prog Try.sortA_ren := {
  mixed := by kernel_rfl
  f5 := ⟨Try.f73.name, by decide, Try.func73.trans (congrArg some (by kernel_rfl))⟩
  f7 := ⟨Try.f83.name, by decide, Try.func83.trans (congrArg some (by kernel_rfl))⟩
  f8 := Try.func84.trans (congrArg some (by kernel_rfl))
  f10 := ⟨Try.f90.name, by decide, Try.func90.trans (congrArg some (by kernel_rfl))⟩
  f11 := ⟨Try.f91.name, by decide, Try.func91.trans (congrArg some (by kernel_rfl))⟩
  f12 := ⟨Try.f92.name, by decide, Try.func92.trans (congrArg some (by kernel_rfl))⟩
  f13 := ⟨Try.f93.name, by decide, Try.func93.trans (congrArg some (by kernel_rfl))⟩
  f14 := ⟨Try.f94.name, by decide, Try.func94.trans (congrArg some (by kernel_rfl))⟩
  f15 := ⟨Try.f95.name, by decide, Try.func95.trans (congrArg some (by kernel_rfl))⟩
  f16 := ⟨Try.f96.name, by decide, Try.func96.trans (congrArg some (by kernel_rfl))⟩
  f17 := ⟨Try.f97.name, by decide, Try.func97.trans (congrArg some (by kernel_rfl))⟩
  f18 := ⟨Try.f98.name, by decide, Try.func98.trans (congrArg some (by kernel_rfl))⟩
  f19 := Try.func99.trans (congrArg some (by kernel_rfl))
  f20 := Try.func100.trans (congrArg some (by kernel_rfl))
  f30 := ⟨Try.f102.name, by decide, Try.func102.trans (congrArg some (by kernel_rfl))⟩
  f31 := Try.func103.trans (congrArg some (by kernel_rfl))
  f32 := Try.func104.trans (congrArg some (by kernel_rfl))
  f33 := ⟨Try.f105.name, by decide, Try.func105.trans (congrArg some (by kernel_rfl))⟩
  f34 := ⟨Try.f106.name, by decide, Try.func106.trans (congrArg some (by kernel_rfl))⟩
  f35 := ⟨Try.f58.name, by decide, Try.func58.trans (congrArg some (by kernel_rfl))⟩
  f40 := ⟨Try.f107.name, by decide, Try.func107.trans (congrArg some (by kernel_rfl))⟩
  t0 := Try.underlying0
  a0 := Try.isAgg0
  z0 := Try.sizeOf0
  v0 := Try.zeroValue0
  t3 := Try.underlying3
  a3 := Try.isAgg3
  z3 := Try.sizeOf3
  v3 := Try.zeroValue3
  t4 := Try.underlying4
  a4 := Try.isAgg4
  z4 := Try.sizeOf4
  v4 := Try.zeroValue4
  t5 := Try.underlying5
  a5 := Try.isAgg5
  z5 := Try.sizeOf5
  v5 := Try.zeroValue5
  t9 := Try.underlying9
  a9 := Try.isAgg9
  z9 := Try.sizeOf9
  v9 := Try.zeroValue9
  t22 := Try.underlying69
  a22 := Try.isAgg69
  z22 := Try.sizeOf69
  v22 := Try.zeroValue69
  t23 := Try.underlying69
  a23 := Try.isAgg69
  z23 := Try.sizeOf69
  v23 := Try.zeroValue69
  t25 := Try.underlying3
  a25 := Try.isAgg3
  z25 := Try.sizeOf3
  v25 := Try.zeroValue3
  t32 := Try.underlying146
  a32 := Try.isAgg146
  z32 := Try.sizeOf146
  v32 := Try.zeroValue146
  t35 := Try.underlying148
  a35 := Try.isAgg148
  z35 := Try.sizeOf148
  v35 := Try.zeroValue148
  t36 := Try.underlying149
  a36 := Try.isAgg149
  z36 := Try.sizeOf149
  v36 := Try.zeroValue149
  t41 := Try.underlying154
  a41 := Try.isAgg154
  z41 := Try.sizeOf154
  v41 := Try.zeroValue154
  t44 := Try.underlying157
  a44 := Try.isAgg157
  z44 := Try.sizeOf157
  v44 := Try.zeroValue157
  t46 := Try.underlying51
  a46 := Try.isAgg51
  z46 := Try.sizeOf51
  v46 := Try.zeroValue51
  t53 := Try.underlying159
  a53 := Try.isAgg159
  z53 := Try.sizeOf159
  v53 := Try.zeroValue159
  t57 := Try.underlying163
  a57 := Try.isAgg163
  z57 := Try.sizeOf163
  v57 := Try.zeroValue163
  t63 := Try.underlying165
  a63 := Try.isAgg165
  z63 := Try.sizeOf165
  v63 := Try.zeroValue165
  t64 := Try.underlying166
  a64 := Try.isAgg166
  z64 := Try.sizeOf166
  v64 := Try.zeroValue166 }
end
section
open Go.RowKit Go.Maps Go.Sort Go.Shelf
theorem Try.sortsA (m : Nat) : AnyZI.SortsIn Try.prog Try.sortedA_ren Fence.wide m :=
  ⟨fun blk off cap ss W hH hblk hsz => callsIn_wide.2 (AnyM.slices_Sort_int Try.sortA blk off cap ss W hH hblk hsz),
   fun p cap W => callsIn_wide.2 (AnyM.slices_Sort_int_none Try.sortA p cap W)⟩
end
end Go.Proofs.Yticgadnmlbfmfaa.cachePlays
namespace Go.Proofs.Yticgadnmlbfmfaa.cachePlays
open Go.Shelf Go.RowKit Go.Lib Go.Sort Go.Maps
/-- maps.Keys. -/
theorem keys_in (mb : Option Nat) (W : World) : CallsIn Fence.wide 5 Try.prog 55 #[.map mb] W fun e w' => e = .returned (.func (.func 74) #[] #[.pointer (some ⟨W.heap.size, 0, none⟩)]) ∧ w' = W.alloc (.cells #[.map mb] 83) := AnyZI.keys_in Try.keysA Fence.wide 5 trivial rfl mb W
/-- slices.Sorted of them. -/
theorem sorted_in {W : World} {b n : Nat} {F : Int → Option Value} (h : MapV W b n F) (hF : ∀ k, (F k).isSome = true → 0 ≤ k ∧ k < 256) :
    CallsIn Fence.wide 5 Try.prog 54 #[.func (.func 74) #[] #[.pointer (some ⟨W.heap.size, 0, none⟩)]] (W.alloc (.cells #[.map (some b)] 83)) fun e w' => ∃ (a : Option Addr) (c : Nat), e = .returned (.slice a (keysF F).length c) ∧
      (keysF F = [] ∨ ∃ g cur, a = some ⟨g, 0, none⟩ ∧ W.heap.size + 1 ≤ g ∧ w'.heap[g]? = some (.cells cur 3) ∧ ∀ (i : Nat) (k : Int), (keysF F)[i]? = some k → cur[i]? = some (.int .i64 k)) ∧ Below W.heap.size W w' := by
  obtain ⟨D0, hown, hD, hP, hs⟩ := h.own Try.underlying3 (Nat.le_trans (h.le hF) (by decide)) hF
  have hbl := hown.lt
  have hseq : SeqGives Fence.wide 2 Try.prog 74 #[.pointer (some ⟨W.heap.size, 0, none⟩)] encZ (fun ss => ss.Perm (intKeys D0)) (Maps.size D0) (W.alloc (.cells #[.map (some b)] 83)) :=
    AnyZI.keys_gives (ρ := Try.keysA_ren) { Try.keysA with } Fence.wide _ trivial rfl (by omega) W.heap.size b n D0 _ (by simp) (by simp) (by
      obtain ⟨es, clock, hb, Ft, hs, hD⟩ := hown
      exact ⟨es, clock, (Below.heap_alloc _ _ b hbl).trans hb, Ft, hs, hD⟩)
  have cS := AnyZI.sorted_in Try.sortedA Fence.wide 5 trivial trivial trivial trivial rfl (by omega) (Try.sortsA _) (enters_of Try.func73 (by kernel_rfl) rfl) 74 #[.pointer (some ⟨W.heap.size, 0, none⟩)] trivial (enters_of Try.func74 (by kernel_rfl) rfl) _ _ (Nat.le_trans hs (by decide)) (by omega) _ hseq
  change CallsIn _ _ Try.prog 54 _ _ _ at cS
  refine cS.mono ?_
  rintro e w' ⟨v, ss, rfl, hS, hrow, hnil, hb⟩
  have hp : ss.Perm (keysF F) := hS.trans hP.symm
  rw [sorted_keys hp, hp.length_eq, World.size_alloc] at hrow
  have hB : Below W.heap.size W w' := ((Below.refl _ W).alloc (Nat.le_refl _) _).trans (hb.mono (by simp))
  rcases hrow.2 with ⟨rfl, hz⟩ | ⟨g, cap, cur, rfl, hbase, hg, r1, r2, r3, r4⟩
  · exact ⟨none, 0, by rw [hz], .inl (List.eq_nil_of_length_eq_zero hz), hB⟩
  · refine ⟨_, cap, rfl, .inr ⟨g, cur, rfl, hbase, hg, fun i k hk => ?_⟩, hB⟩
    have hi : i < (keysF F).length := (List.getElem?_eq_some_iff.1 hk).1
    have : (cur.toList.take ((keysF F).length * 1))[i]? = some (.int .i64 k) := by
      rw [r4, List.getElem?_map, hk]
      rfl
    rw [List.getElem?_take, if_pos (by omega)] at this
    simpa using this
end Go.Proofs.Yticgadnmlbfmfaa.cachePlays
