/-
  'EventApart' over known calls (the second half): the calls, the paths.
-/
import Derived.Test.YtjfbakhebdhbmaaDoorTxAr
import Derived.Test.YtjfbakhebdhbmaaDoorTxAy
namespace Go.Proofs.YtjfbakhebdhbmaaDoor.event
open Go.Ev Go.RowKit Go.Lib
set_option linter.unusedVariables false
noncomputable section
theorem str_eq (s t : ByteArray) : (s.toList == t.toList) = decide (s = t) := by
  rw [ByteArray.toList_eq, ByteArray.toList_eq]
  by_cases e : s = t
  · rw [e]; simp
  · rw [decide_eq_false e]
    refine beq_eq_false_iff_ne.2 fun k => e ?_
    have : s.data.toList = t.data.toList := k
    cases s; cases t
    simp only [Array.toList_inj] at this
    rw [this]
theorem fact_eql {ρ : Rho} {x y : VV} {s t : ByteArray} {b : Bool} (hx : sval ρ x = some (.string s)) (hy : sval ρ y = some (.string t)) (hb : b = decide (s = t)) : FactOK ρ (.bin .eql x y (.bool b)) :=
  ⟨.string s, .string t, .bool b, hx, hy, rfl, (fun cs h => by cases h), (fun h => by cases h), fun P ty w => by
    simp only [binOp, Op.stringOp, str_eq, hb]
    rfl⟩
theorem fact_isB {ρ : Rho} {u : Nat} {b : Bool} (h : ρ.val u = .bool b) : FactOK ρ (.fn .isB [.sym u] (.bool b)) := ⟨[.bool b], .bool b, by simp only [svals, sval, h], rfl, rfl⟩
theorem alloc_self (w : World) (o : Obj) : (w.alloc o).heap[w.heap.size]? = some o := by
  show (w.heap.push o)[w.heap.size]? = some o
  simp
structure ApG where
  a : EvG
  b : EvG
  la : Nat
  lt : Nat
  ma : Nat
  mt : Nat
  f : Int
  n : Int
structure ApG.OK (x : ApG) (w : World) : Prop where
  a : x.a.OK w
  b : x.b.OK w
  ra : Raw x.a x.la x.lt
  rb : Raw x.b x.ma x.mt
  f : I64 x.f
  n : I64 x.n
theorem ApG.OK.later {x : ApG} {w w' : World} (h : x.OK w) (hs : w.heap.size ≤ w'.heap.size) (ho : ∀ k, k < w.heap.size → w'.heap[k]? = w.heap[k]?) : x.OK w' := ⟨h.a.later hs ho, h.b.later hs ho, h.ra, h.rb, h.f, h.n⟩
def ApG.fu (x : ApG) : Int := IntKind.u8.wrap x.f
def ApG.bl (x : ApG) : Bool := decide (1 ≤ x.a.l.length)
def ApG.bt (x : ApG) : Bool := decide (1 ≤ x.a.t.length)
def cntF (bl bt : Bool) : Int := match bl, bt with
  | true, true => 13
  | true, false => 11
  | false, true => 12
  | false, false => 10
def ApG.nF (x : ApG) : Int := cntF x.bl x.bt
def ApG.p (x : ApG) : Int := x.fu.tmod x.nF
theorem fu_in (x : ApG) : 0 ≤ x.fu ∧ x.fu ≤ 255 := by
  unfold ApG.fu IntKind.wrap
  simp only [IntKind.signed, IntKind.bits]
  have h1 := Int.emod_nonneg x.f (show (256 : Int) ≠ 0 by decide)
  have h2 := Int.emod_lt_of_pos x.f (show (0 : Int) < 256 by decide)
  simp
  omega
theorem nF_pos (x : ApG) : 10 ≤ x.nF ∧ x.nF ≤ 13 := by
  unfold ApG.nF cntF
  split <;> decide
theorem p_in (x : ApG) : 0 ≤ x.p ∧ x.p < x.nF ∧ x.p ≤ 12 := by
  have h1 := (fu_in x).1
  have h2 := nF_pos x
  have h3 := Int.tmod_lt_of_pos x.fu (show 0 < x.nF by omega)
  have h4 := Int.tmod_nonneg x.nF h1
  unfold ApG.p
  omega
/-- A field that is another number, if it is the one. -/
def ApG.at (x : ApG) (q : Int) (v : Int) : Int := if x.p = q then x.n else v
def ApG.cl (x : ApG) : List Int := if x.bl = true ∧ x.p = 10 then x.a.l.set 0 x.n else x.a.l
def ApG.q (x : ApG) : Int := if x.bl = true then 11 else 10
def ApG.ct (x : ApG) : List (Int × Int) := if x.bt = true ∧ x.p = x.q then x.a.t.set 0 (x.n, (x.a.t.getD 0 (0, 0)).2) else if x.bt = true ∧ x.p = x.q + 1 then x.a.t.set 0 ((x.a.t.getD 0 (0, 0)).1, x.n) else x.a.t
/-- The third event. -/
def ApG.c (x : ApG) : EvG := { x.a with k := x.at 0 x.a.k, a := x.at 1 x.a.a, b := x.at 2 x.a.b, n := x.at 3 x.a.n, m := x.at 4 x.a.m, i6 := x.at 5 x.a.i6, i7 := x.at 6 x.a.i7, i8 := x.at 7 x.a.i8, i9 := x.at 8 x.a.i9, i10 := x.at 9 x.a.i10, l := x.cl, t := x.ct }
theorem cl_len (x : ApG) : x.cl.length = x.a.l.length := by
  unfold ApG.cl
  split
  · rw [List.length_set]
  · rfl
theorem ct_len (x : ApG) : x.ct.length = x.a.t.length := by
  unfold ApG.ct
  split
  · rw [List.length_set]
  · split
    · rw [List.length_set]
    · rfl
section
variable {x : ApG} {w : World}
theorem at_fits (h : x.OK w) {q v : Int} (hv : I64 v) : I64 (x.at q v) := by
  unfold ApG.at
  split
  · exact h.n
  · exact hv
theorem cl_fits (h : x.OK w) : ∀ z ∈ x.cl, I64 z := by
  intro z hz
  unfold ApG.cl at hz
  split at hz
  · rcases List.mem_or_eq_of_mem_set hz with hz | rfl
    · exact h.a.wl z hz
    · exact h.n
  · exact h.a.wl z hz
theorem ct_fits (h : x.OK w) : ∀ z ∈ x.ct, I64 z.1 ∧ I64 z.2 := by
  intro z hz
  have h0 := h.a.ft 0
  unfold ApG.ct at hz
  split at hz
  · rcases List.mem_or_eq_of_mem_set hz with hz | rfl
    · exact h.a.wt z hz
    · exact ⟨h.n, h0.2⟩
  · split at hz
    · rcases List.mem_or_eq_of_mem_set hz with hz | rfl
      · exact h.a.wt z hz
      · exact ⟨h0.1, h.n⟩
    · exact h.a.wt z hz
/-- The third one, wherever its lists lie. -/
theorem c_ok (h : x.OK w) {w' : World} {Ba Oa ca Bb Ob cb : Nat} (h1 : ∀ (i : Nat) z, x.cl[i]? = some z → Ba < w'.heap.size ∧ w'.cell? ⟨Ba, Oa + i, none⟩ = some (.int .i64 z)) (h2 : ∀ (i : Nat) z, x.ct[i]? = some z → Bb < w'.heap.size ∧ w'.cell? ⟨Bb, Ob + i * 2, none⟩ = some (.int .i64 z.1) ∧ w'.cell? ⟨Bb, Ob + i * 2 + 1, none⟩ = some (.int .i64 z.2)) :
    (x.c.at2 (some ⟨Ba, Oa, none⟩) ca Ba Oa (some ⟨Bb, Ob, none⟩) cb Bb Ob).OK w' :=
  { cl := fun i z hz => ⟨rfl, h1 i z hz⟩, ct := fun i z hz => ⟨rfl, h2 i z hz⟩, wl := cl_fits h, wt := ct_fits h, nl := by show x.cl.length ≤ 260; rw [cl_len]; exact h.a.nl, nt := by show x.ct.length ≤ 4; rw [ct_len]; exact h.a.nt,
    fk := at_fits h h.a.fk, fa := at_fits h h.a.fa, fb := at_fits h h.a.fb, fn := at_fits h h.a.fn, fm := at_fits h h.a.fm, f5 := h.a.f5, f6 := at_fits h h.a.f6, f7 := at_fits h h.a.f7, f8 := at_fits h h.a.f8, f9 := at_fits h h.a.f9, f10 := at_fits h h.a.f10 }
def intsV (l : List Int) : List VV := l.map fun z => .int .i64 z
def pairsV : List (Int × Int) → List VV
  | [] => []
  | z :: l => .int .i64 z.1 :: .int .i64 z.2 :: pairsV l
theorem pairsV_len : ∀ l, (pairsV l).length = l.length * 2
  | [] => rfl
  | z :: l => by simp only [pairsV, List.length_cons, pairsV_len l]; omega
theorem intsV_at {l : List Int} {i : Nat} {z : Int} (h : l[i]? = some z) : (intsV l)[i]? = some (.int .i64 z) := by
  unfold intsV
  rw [List.getElem?_map, h]
  rfl
theorem pairsV_at : ∀ {l : List (Int × Int)} {i : Nat} {z : Int × Int}, l[i]? = some z → (pairsV l)[i * 2]? = some (.int .i64 z.1) ∧ (pairsV l)[i * 2 + 1]? = some (.int .i64 z.2)
  | [], i, z, h => by simp at h
  | y :: l, 0, z, h => by
    simp only [List.getElem?_cons_zero, Option.some.injEq] at h
    subst h
    exact ⟨rfl, rfl⟩
  | y :: l, i + 1, z, h => by
    simp only [List.getElem?_cons_succ] at h
    obtain ⟨h1, h2⟩ := pairsV_at h
    rw [show (i + 1) * 2 = i * 2 + 1 + 1 by omega]
    exact ⟨by simpa [pairsV] using h1, by simpa [pairsV] using h2⟩
/-- Values of cells. -/
def intsC (l : List Int) : List Value := l.map fun z => .int .i64 z
def pairsC : List (Int × Int) → List Value
  | [] => []
  | z :: l => .int .i64 z.1 :: .int .i64 z.2 :: pairsC l
theorem intsC_at {l : List Int} {i : Nat} {z : Int} (h : l[i]? = some z) : (intsC l)[i]? = some (.int .i64 z) := by
  unfold intsC
  rw [List.getElem?_map, h]
  rfl
theorem pairsC_at : ∀ {l : List (Int × Int)} {i : Nat} {z : Int × Int}, l[i]? = some z → (pairsC l)[i * 2]? = some (.int .i64 z.1) ∧ (pairsC l)[i * 2 + 1]? = some (.int .i64 z.2)
  | [], i, z, h => by simp at h
  | y :: l, 0, z, h => by
    simp only [List.getElem?_cons_zero, Option.some.injEq] at h
    subst h
    exact ⟨rfl, rfl⟩
  | y :: l, i + 1, z, h => by
    simp only [List.getElem?_cons_succ] at h
    obtain ⟨h1, h2⟩ := pairsC_at h
    rw [show (i + 1) * 2 = i * 2 + 1 + 1 by omega]
    exact ⟨by simpa [pairsC] using h1, by simpa [pairsC] using h2⟩
theorem cell_of {w : World} {b j : Nat} {c : List Value} {t : TypeId} {v : Value} (h : w.heap[b]? = some (Obj.cells ⟨c⟩ t)) (hv : c[j]? = some v) : w.cell? ⟨b, 0 + j, none⟩ = some v := by
  simp [World.cell?, h, hv]
/-- There is a place for the third one. -/
theorem c_somewhere (h : x.OK w) : ∃ (w' : World) (Ba Bb : Nat), (x.c.at2 (some ⟨Ba, 0, none⟩) 0 Ba 0 (some ⟨Bb, 0, none⟩) 0 Bb 0).OK w' := by
  have e1 : ((w.alloc (Obj.cells ⟨intsC x.cl⟩ 3)).alloc (Obj.cells ⟨pairsC x.ct⟩ 3)).heap[w.heap.size]? = some (Obj.cells ⟨intsC x.cl⟩ 3) := by
    rw [Below.heap_alloc _ _ _ (by show _ < (w.heap.push _).size; rw [Array.size_push]; omega)]
    exact alloc_self w _
  have e2 : ((w.alloc (Obj.cells ⟨intsC x.cl⟩ 3)).alloc (Obj.cells ⟨pairsC x.ct⟩ 3)).heap[(w.alloc (Obj.cells ⟨intsC x.cl⟩ 3)).heap.size]? = some (Obj.cells ⟨pairsC x.ct⟩ 3) := alloc_self _ _
  have s2 : ((w.alloc (Obj.cells ⟨intsC x.cl⟩ 3)).alloc (Obj.cells ⟨pairsC x.ct⟩ 3)).heap.size = w.heap.size + 2 := by
    show ((w.heap.push _).push _).size = _
    rw [Array.size_push, Array.size_push]
  have s1 : (w.alloc (Obj.cells ⟨intsC x.cl⟩ 3)).heap.size = w.heap.size + 1 := by
    show (w.heap.push _).size = _
    rw [Array.size_push]
  refine ⟨_, w.heap.size, (w.alloc (Obj.cells ⟨intsC x.cl⟩ 3)).heap.size, c_ok h (fun i z hz => ⟨by omega, cell_of e1 (intsC_at hz)⟩) fun i z hz => ⟨by omega, cell_of e2 (pairsC_at hz).1, ?_⟩⟩
  have := cell_of e2 (pairsC_at hz).2
  rwa [show 0 + (i * 2 + 1) = 0 + i * 2 + 1 by omega] at this
theorem c_chk (h : x.OK w) : 0 ≤ chk x.c ∧ chk x.c ≤ 1000 := by
  obtain ⟨w', Ba, Bb, hc⟩ := c_somewhere h
  have := (checks hc).2
  rwa [chk_at2] at this
theorem good_text {g : EvG} {w : World} {oa ob : Option Addr} {ca Ba Oa cb Bb Ob : Nat} (hc : (g.at2 oa ca Ba Oa ob cb Bb Ob).OK w) (hz : chk g = 0) : txtB g ≠ ⟨#[63]⟩ := by
  have := ok_text hc (by rw [chk_at2]; exact hz)
  have e := txt_at2 (oa := g.oa) (ca := g.ca) (Ba := g.Ba) (Oa := g.Oa) (ob := g.ob) (cb := g.cb) (Bb := g.Bb) (Ob := g.Ob) hc
  have e2 : (g.at2 oa ca Ba Oa ob cb Bb Ob).at2 g.oa g.ca g.Ba g.Oa g.ob g.cb g.Bb g.Ob = g := rfl
  rw [e2] at e
  rw [e]
  exact this
theorem c_text {g : EvG} {w : World} {oa ob : Option Addr} {ca Ba Oa cb Bb Ob : Nat} (hc : (g.at2 oa ca Ba Oa ob cb Bb Ob).OK w) : txtB (g.at2 oa ca Ba Oa ob cb Bb Ob) = txtB g := by
  have e := txt_at2 (oa := g.oa) (ca := g.ca) (Ba := g.Ba) (Oa := g.Oa) (ob := g.ob) (cb := g.cb) (Bb := g.Bb) (Ob := g.Ob) hc
  have e2 : (g.at2 oa ca Ba Oa ob cb Bb Ob).at2 g.oa g.ca g.Ba g.Oa g.ob g.cb g.Bb g.Ob = g := rfl
  rw [e2] at e
  exact e.symm
theorem alike_at2 {g : EvG} {oa ob : Option Addr} {ca Ba Oa cb Bb Ob : Nat} : Alike g (g.at2 oa ca Ba Oa ob cb Bb Ob) := ⟨rfl, rfl, rfl, rfl, rfl, rfl, rfl, rfl, rfl, rfl, rfl, rfl, rfl⟩
theorem Alike.trans {g h k : EvG} (a : Alike g h) (b : Alike h k) : Alike g k := ⟨a.k.trans b.k, a.a.trans b.a, a.b.trans b.b, a.n.trans b.n, a.m.trans b.m, a.i5.trans b.i5, a.i6.trans b.i6, a.i7.trans b.i7, a.i8.trans b.i8, a.i9.trans b.i9, a.i10.trans b.i10, a.l.trans b.l, a.t.trans b.t⟩
/-- Something that is an event, in some world. -/
def Some (g : EvG) : Prop := ∃ (w : World) (oa : Option Addr) (ca Ba Oa : Nat) (ob : Option Addr) (cb Bb Ob : Nat), (g.at2 oa ca Ba Oa ob cb Bb Ob).OK w
theorem Some.of {g : EvG} {w : World} (h : g.OK w) : Some g := ⟨w, g.oa, g.ca, g.Ba, g.Oa, g.ob, g.cb, g.Bb, g.Ob, h⟩
theorem Some.ne {g : EvG} (h : Some g) (hz : chk g = 0) : txtB g ≠ ⟨#[63]⟩ := by
  obtain ⟨w, oa, ca, Ba, Oa, ob, cb, Bb, Ob, hc⟩ := h
  exact good_text hc hz
theorem Some.iff {g h : EvG} (hg : Some g) (hh : Some h) (zg : chk g = 0) (zh : chk h = 0) : txtB g = txtB h ↔ Alike g h := by
  obtain ⟨w, oa, ca, Ba, Oa, ob, cb, Bb, Ob, hc⟩ := hg
  obtain ⟨w', oa', ca', Ba', Oa', ob', cb', Bb', Ob', hd⟩ := hh
  have := text_iff hc hd (by rw [chk_at2]; exact zg) (by rw [chk_at2]; exact zh)
  rw [c_text hc, c_text hd] at this
  exact this.trans ⟨fun k => alike_at2.trans (k.trans alike_at2.symm), fun k => alike_at2.symm.trans (k.trans alike_at2)⟩
theorem alikeB_congr {g h g' h' : EvG} (a : Alike g g') (b : Alike h h') : alikeB g h = alikeB g' h' := by
  have : alikeB g h = true ↔ alikeB g' h' = true := by
    rw [alikeB_iff, alikeB_iff]
    exact ⟨fun k => a.symm.trans (k.trans b), fun k => a.trans (k.trans b.symm)⟩
  cases e : alikeB g h <;> cases e' : alikeB g' h' <;> simp_all
def flagT (g h : EvG) : Int := if txtB g = txtB h then 1 else 0
theorem flagT_in (g h : EvG) : 0 ≤ flagT g h ∧ flagT g h ≤ 1 := by
  unfold flagT
  split <;> decide
end
end
end Go.Proofs.YtjfbakhebdhbmaaDoor.event
namespace Go.Proofs.YtjfbakhebdhbmaaDoor.event
open Go.Ev Go.RowKit Go.Lib
set_option linter.unusedVariables false
noncomputable section
def yint (x : ApG) : Nat → Int
  | 24 => x.a.k
  | 1 => x.a.a
  | 2 => x.a.b
  | 3 => x.a.n
  | 4 => x.a.m
  | 5 => x.a.i5
  | 6 => x.a.i6
  | 7 => x.a.i7
  | 8 => x.a.i8
  | 9 => x.a.i9
  | 10 => x.a.i10
  | 12 => (x.a.l.length : Int)
  | 13 => (x.a.t.length : Int)
  | 71 => (x.la : Int)
  | 73 => (x.lt : Int)
  | 48 => x.b.k
  | 31 => x.b.a
  | 32 => x.b.b
  | 33 => x.b.n
  | 34 => x.b.m
  | 35 => x.b.i5
  | 36 => x.b.i6
  | 37 => x.b.i7
  | 38 => x.b.i8
  | 39 => x.b.i9
  | 40 => x.b.i10
  | 42 => (x.b.l.length : Int)
  | 43 => (x.b.t.length : Int)
  | 45 => (x.ma : Int)
  | 47 => (x.mt : Int)
  | 20 => chk x.a
  | 21 => chk x.b
  | 22 => chk x.c
  | 80 => x.f
  | 81 => x.fu
  | 82 => x.n
  | 84 => x.p
  | 85 => flagT x.a x.b
  | 86 => flagT x.a x.c
  | 87 => flagT x.b x.c
  | 90 => x.at 0 x.a.k
  | 91 => x.at 1 x.a.a
  | 92 => x.at 2 x.a.b
  | 93 => x.at 3 x.a.n
  | 94 => x.at 4 x.a.m
  | 95 => x.a.i5
  | 96 => x.at 5 x.a.i6
  | 97 => x.at 6 x.a.i7
  | 98 => x.at 7 x.a.i8
  | 99 => x.at 8 x.a.i9
  | 100 => x.at 9 x.a.i10
  | 101 => (x.cl.length : Int)
  | 102 => (x.ct.length : Int)
  | _ => 0
def yvv (x : ApG) : Nat → Value
  | 70 => .slice x.a.oa x.la x.a.ca
  | 72 => .slice x.a.ob x.lt x.a.cb
  | 0 => .slice x.a.oa x.a.l.length x.a.ca
  | 11 => .slice x.a.ob x.a.t.length x.a.cb
  | 44 => .slice x.b.oa x.ma x.b.ca
  | 46 => .slice x.b.ob x.mt x.b.cb
  | 30 => .slice x.b.oa x.b.l.length x.b.ca
  | 41 => .slice x.b.ob x.b.t.length x.b.cb
  | 54 => .string (txtB x.a)
  | 56 => .string (txtB x.b)
  | 58 => .string (txtB x.c)
  | 60 => .bool (alikeB x.a x.a)
  | 61 => .bool (alikeB x.b x.b)
  | 62 => .bool (alikeB x.c x.c)
  | 63 => .bool (alikeB x.a x.b)
  | 64 => .bool (alikeB x.b x.a)
  | 65 => .bool (alikeB x.a x.c)
  | 66 => .bool (alikeB x.c x.a)
  | 67 => .bool (alikeB x.b x.c)
  | 68 => .bool (alikeB x.c x.b)
  | _ => .bool false
theorem yvv_one {x : ApG} (j : Nat) : (yvv x j).oneCell' = true := by
  unfold yvv
  split <;> rfl
def ylst (x : ApG) : Nat → List VV
  | 0 => intsV x.a.l
  | 1 => pairsV x.a.t
  | 2 => (intsV x.a.l).set 0 (.int .i64 x.n)
  | 3 => (pairsV x.a.t).set 0 (.int .i64 x.n)
  | 4 => (pairsV x.a.t).set 1 (.int .i64 x.n)
  | 10 => intsV x.cl
  | 11 => pairsV x.ct
  | _ => []
/-- Are all numbers? -/
def AllI (l : List VV) : Prop := ∀ y ∈ l, ∃ z : Int, y = .int .i64 z
theorem intsV_all (l : List Int) : AllI (intsV l) := by
  intro y hy
  obtain ⟨z, _, rfl⟩ := List.mem_map.1 hy
  exact ⟨z, rfl⟩
theorem pairsV_all : ∀ l, AllI (pairsV l)
  | [], y, hy => by cases hy
  | z :: l, y, hy => by
    rcases List.mem_cons.1 hy with rfl | hy
    · exact ⟨_, rfl⟩
    · rcases List.mem_cons.1 hy with rfl | hy
      · exact ⟨_, rfl⟩
      · exact pairsV_all l y hy
theorem set_all {l : List VV} (h : AllI l) (i : Nat) (z : Int) : AllI (l.set i (.int .i64 z)) := by
  intro y hy
  rcases List.mem_or_eq_of_mem_set hy with hy | rfl
  · exact h y hy
  · exact ⟨z, rfl⟩
theorem ylst_all (x : ApG) (i : Nat) : AllI (ylst x i) := by
  unfold ylst
  split
  · exact intsV_all _
  · exact pairsV_all _
  · exact set_all (intsV_all _) _ _
  · exact set_all (pairsV_all _) _ _
  · exact set_all (pairsV_all _) _ _
  · exact intsV_all _
  · exact pairsV_all _
  · intro y hy; cases hy
def yrho (x : ApG) : Rho := ⟨yint x, yvv x, fun _ => 0, fun _ => 0, yvv_one, ylst x, fun i y hy => by obtain ⟨z, rfl⟩ := ylst_all x i y hy; rfl⟩
section
variable {x : ApG} {w : World}
theorem y_fits (h : x.OK w) : ∀ k, I64 (yint x k) := fun k => by
  have s1 := (checks h.a).2
  have s2 := (checks h.b).2
  have s3 := c_chk h
  have f1 := flagT_in x.a x.b
  have f2 := flagT_in x.a x.c
  have f3 := flagT_in x.b x.c
  have hp := p_in x
  have hu := fu_in x
  have n1 := h.a.nl
  have n2 := h.a.nt
  have n3 := h.b.nl
  have n4 := h.b.nt
  have c1 := cl_len x
  have c2 := ct_len x
  unfold yint
  split
  · exact h.a.fk
  · exact h.a.fa
  · exact h.a.fb
  · exact h.a.fn
  · exact h.a.fm
  · exact h.a.f5
  · exact h.a.f6
  · exact h.a.f7
  · exact h.a.f8
  · exact h.a.f9
  · exact h.a.f10
  · exact ⟨by omega, by omega⟩
  · exact ⟨by omega, by omega⟩
  · exact ⟨by omega, h.ra.ba⟩
  · exact ⟨by omega, h.ra.bb⟩
  · exact h.b.fk
  · exact h.b.fa
  · exact h.b.fb
  · exact h.b.fn
  · exact h.b.fm
  · exact h.b.f5
  · exact h.b.f6
  · exact h.b.f7
  · exact h.b.f8
  · exact h.b.f9
  · exact h.b.f10
  · exact ⟨by omega, by omega⟩
  · exact ⟨by omega, by omega⟩
  · exact ⟨by omega, h.rb.ba⟩
  · exact ⟨by omega, h.rb.bb⟩
  · exact ⟨by omega, by omega⟩
  · exact ⟨by omega, by omega⟩
  · exact ⟨by omega, by omega⟩
  · exact h.f
  · exact ⟨by omega, by omega⟩
  · exact h.n
  · exact ⟨by omega, by omega⟩
  · exact ⟨by omega, by omega⟩
  · exact ⟨by omega, by omega⟩
  · exact ⟨by omega, by omega⟩
  · exact at_fits h h.a.fk
  · exact at_fits h h.a.fa
  · exact at_fits h h.a.fb
  · exact at_fits h h.a.fn
  · exact at_fits h h.a.fm
  · exact h.a.f5
  · exact at_fits h h.a.f6
  · exact at_fits h h.a.f7
  · exact at_fits h h.a.f8
  · exact at_fits h h.a.f9
  · exact at_fits h h.a.f10
  · exact ⟨by omega, by omega⟩
  · exact ⟨by omega, by omega⟩
  · exact i64_0
theorem y_iv (h : x.OK w) : IvOK eyiv0 (yrho x) := by
  have f := y_fits h
  have s1 := (checks h.a).2
  have s2 := (checks h.b).2
  have s3 := c_chk h
  have hp := p_in x
  have hu := fu_in x
  have n1 := h.a.nl
  have n2 := h.a.nt
  exact iv_all (f := yint x) ⟨f 0, f 1, f 2, f 3, f 4, f 5, f 6, f 7, f 8, f 9, f 10, f 11, ⟨by show (0 : Int) ≤ (x.a.l.length : Int); omega, by show (x.a.l.length : Int) ≤ (260 : Int); omega⟩, ⟨by show (0 : Int) ≤ (x.a.t.length : Int); omega, by show (x.a.t.length : Int) ≤ (4 : Int); omega⟩, f 14, f 15, f 16, f 17, f 18, f 19, s1, s2, s3,
    f 23, f 24, f 25, f 26, f 27, f 28, f 29, f 30, f 31, f 32, f 33, f 34, f 35, f 36, f 37, f 38, f 39, f 40, f 41, f 42, f 43, f 44, f 45, f 46, f 47, f 48, f 49, f 50, f 51, f 52, f 53, f 54, f 55, f 56, f 57, f 58, f 59, f 60, f 61, f 62, f 63, f 64, f 65, f 66, f 67, f 68, f 69, f 70, f 71, f 72, f 73, f 74, f 75, f 76, f 77, f 78, f 79, f 80,
    hu, f 82, ⟨by show (0 : Int) ≤ 0; decide, by show (0 : Int) ≤ 255; decide⟩, ⟨by show 0 ≤ x.p; omega, by show x.p ≤ 12; omega⟩, flagT_in _ _, flagT_in _ _, flagT_in _ _, trivial⟩ f
/-! ### what is known -/
abbrev FwOK (fs : List Fact) (ρ : Rho) (w : World) : Prop := ∀ f ∈ fs, FactW ρ w f
theorem fw_nil {ρ : Rho} : FwOK [] ρ w := fun f hf => by cases hf
theorem fw_cons {f : Fact} {l : List Fact} {ρ : Rho} (h1 : FactW ρ w f) (h2 : FwOK l ρ w) : FwOK (f :: l) ρ w := fun g hg => by
  rcases List.mem_cons.1 hg with rfl | hg
  · exact h1
  · exact h2 g hg
theorem fw_c {f : Fact} {l : List Fact} {ρ : Rho} (h1 : FactOK ρ f) (h2 : FwOK l ρ w) : FwOK (f :: l) ρ w := fw_cons h1.w h2
theorem fw_app {f1 f2 : List Fact} {ρ : Rho} (h1 : FwOK f1 ρ w) (h2 : FwOK f2 ρ w) : FwOK (f1 ++ f2) ρ w := fun f hf => by
  rcases List.mem_append.1 hf with hf | hf
  · exact h1 f hf
  · exact h2 f hf
theorem fw_of {fs : List Fact} {ρ : Rho} (h : FsOK fs ρ) : FwOK fs ρ w := fun f hf => (h f hf).w
theorem gv_int (ρ : Rho) (z : Int) : GV ρ (.int .i64 z) (.int .i64 z) := ⟨rfl, fun f => by simp only [VR]⟩
theorem intsV_inv {l : List Int} {k : Nat} {y : VV} (h : (intsV l)[k]? = some y) : ∃ z, l[k]? = some z ∧ y = .int .i64 z := by
  unfold intsV at h
  rw [List.getElem?_map] at h
  cases e : l[k]? with
  | none => rw [e] at h; cases h
  | some z => rw [e] at h; cases h; exact ⟨z, rfl, rfl⟩
theorem pairsV_inv : ∀ {l : List (Int × Int)} {k : Nat} {y : VV}, (pairsV l)[k]? = some y → ∃ i z, l[i]? = some z ∧ ((k = i * 2 ∧ y = .int .i64 z.1) ∨ (k = i * 2 + 1 ∧ y = .int .i64 z.2))
  | [], k, y, h => by simp [pairsV] at h
  | z :: l, 0, y, h => by
    simp only [pairsV, List.getElem?_cons_zero, Option.some.injEq] at h
    exact ⟨0, z, rfl, .inl ⟨rfl, h.symm⟩⟩
  | z :: l, 1, y, h => by
    simp only [pairsV, List.getElem?_cons_succ, List.getElem?_cons_zero, Option.some.injEq] at h
    exact ⟨0, z, rfl, .inr ⟨rfl, h.symm⟩⟩
  | z :: l, k + 2, y, h => by
    simp only [pairsV, List.getElem?_cons_succ] at h
    obtain ⟨i, z', h1, h2⟩ := pairsV_inv h
    refine ⟨i + 1, z', by simpa using h1, ?_⟩
    rcases h2 with ⟨e, h2⟩ | ⟨e, h2⟩
    · exact .inl ⟨by omega, h2⟩
    · exact .inr ⟨by omega, h2⟩
theorem mem0 (h : x.OK w) : FactW (yrho x) w (.mem (.sym 0) 0 12 1) := by
  refine ⟨x.a.oa, x.a.l.length, x.a.ca, rfl, rfl, by show (intsV x.a.l).length = _; unfold intsV; rw [List.length_map]; omega, fun hl => ?_⟩
  obtain ⟨g1, g2, g3⟩ := h.a.cl 0 _ (at_of (d := (0 : Int)) hl)
  refine ⟨⟨x.a.Ba, x.a.Oa, none⟩, g1, rfl, g2, fun k y hy => ?_⟩
  obtain ⟨z, hz, rfl⟩ := intsV_inv hy
  refine ⟨.int .i64 z, ?_, gv_int _ z⟩
  rw [Addr.add_lit]
  exact (h.a.cl k z hz).2.2
theorem mem1 (h : x.OK w) : FactW (yrho x) w (.mem (.sym 11) 1 13 2) := by
  refine ⟨x.a.ob, x.a.t.length, x.a.cb, rfl, rfl, pairsV_len _, fun hl => ?_⟩
  obtain ⟨g1, g2, g3⟩ := h.a.ct 0 _ (at_of (d := ((0, 0) : Int × Int)) hl)
  refine ⟨⟨x.a.Bb, x.a.Ob, none⟩, g1, rfl, g2, fun k y hy => ?_⟩
  obtain ⟨i, z, hz, e⟩ := pairsV_inv hy
  obtain ⟨k1, k2, k3, k4⟩ := h.a.ct i z hz
  rw [Addr.add_lit]
  rcases e with ⟨rfl, rfl⟩ | ⟨rfl, rfl⟩
  · exact ⟨.int .i64 z.1, k3, gv_int _ _⟩
  · exact ⟨.int .i64 z.2, k4, gv_int _ _⟩
theorem fact_upd {ρ : Rho} {j o r s : Nat} {n : Int} (hs : ρ.int s = n) (h : ρ.lst r = (ρ.lst j).set o (.int .i64 n)) : FactOK ρ (.lst (.upd o) [j] [si s] r) :=
  ⟨.int .i64 n, .int .i64 n, by simp only [sval, si, hs], gv_int ρ n, h⟩
theorem eyF_ok (h : x.OK w) : FwOK eyF (yrho x) w := by
  have a1 := h.ra.hl
  have a2 := h.ra.ht
  have a3 := h.ra.ca
  have a4 := h.ra.cb
  have b1 := h.rb.hl
  have b2 := h.rb.ht
  have b3 := h.rb.ca
  have b4 := h.rb.cb
  refine fw_c (fact_len rfl rfl) (fw_c (fact_len rfl rfl) (fw_c (fact_min ?_) (fw_c (fact_min ?_) (fw_c ?_ (fw_c ?_ (fw_c (fact_len rfl rfl) (fw_c (fact_len rfl rfl) (fw_c (fact_min ?_) (fw_c (fact_min ?_) (fw_c ?_ (fw_c ?_ (fw_c ⟨[.int .i64 x.f], .int .u8 x.fu, rfl, rfl, rfl⟩ (fw_cons (mem0 h) (fw_cons (mem1 h) (fw_c (fact_upd (n := x.n) rfl rfl) (fw_c (fact_upd (n := x.n) rfl rfl) (fw_c (fact_upd (n := x.n) rfl rfl) fw_nil)))))))))))))))))
  · show (x.a.l.length : Int) = if (260 : Int) < (x.la : Int) then 260 else (x.la : Int)
    split <;> omega
  · show (x.a.t.length : Int) = if (4 : Int) < (x.lt : Int) then 4 else (x.lt : Int)
    split <;> omega
  · exact fact_cut (a := x.a.oa) (l := x.la) (c := x.a.ca) (m := x.a.l.length) (k := .i64) rfl rfl (by omega) rfl
  · exact fact_cut (a := x.a.ob) (l := x.lt) (c := x.a.cb) (m := x.a.t.length) (k := .i64) rfl rfl (by omega) rfl
  · show (x.b.l.length : Int) = if (260 : Int) < (x.ma : Int) then 260 else (x.ma : Int)
    split <;> omega
  · show (x.b.t.length : Int) = if (4 : Int) < (x.mt : Int) then 4 else (x.mt : Int)
    split <;> omega
  · exact fact_cut (a := x.b.oa) (l := x.ma) (c := x.b.ca) (m := x.b.l.length) (k := .i64) rfl rfl (by omega) rfl
  · exact fact_cut (a := x.b.ob) (l := x.mt) (c := x.b.cb) (m := x.b.t.length) (k := .i64) rfl rfl (by omega) rfl
theorem one2_ok {iv : Ivs} {k : Nat} {b : Bool} (h1 : IvOK iv (yrho x)) (h : one2 iv k = some b) : (b = false → yint x k ≤ 0) ∧ (b = true → 1 ≤ yint x k) := by
  have hv := h1 k
  have e : (yrho x).int k = yint x k := rfl
  rw [e] at hv
  unfold one2 at h
  cases e1 : decide ((ivAt iv k).2 ≤ 0) with
  | true =>
    have d := of_decide_eq_true e1
    rw [e1] at h
    cases h
    exact ⟨fun _ => by omega, fun e => by cases e⟩
  | false => cases e2 : decide (1 ≤ (ivAt iv k).1) with
    | true =>
      have d := of_decide_eq_true e2
      rw [e1, e2] at h
      cases h
      exact ⟨fun e => by (cases e), fun _ => by omega⟩
    | false =>
      rw [e1, e2] at h
      cases h
theorem nFld_ok {iv : Ivs} (h1 : IvOK iv (yrho x)) (h0 : nFld iv ≠ 0) : nFld iv = x.nF := by
  have key : ∀ {k : Nat} {b : Bool} {l : Nat}, yint x k = (l : Int) → one2 iv k = some b → decide (1 ≤ l) = b := fun {k b l} hl h => by
    obtain ⟨k1, k2⟩ := one2_ok h1 h
    rw [hl] at k1 k2
    cases b with
    | false => exact decide_eq_false (by have := k1 rfl; omega)
    | true => exact decide_eq_true (by have := k2 rfl; omega)
  unfold nFld at h0 ⊢
  unfold ApG.nF cntF ApG.bl ApG.bt
  split at h0
  · rename_i e1 e2; rw [key (l := x.a.l.length) rfl e1, key (l := x.a.t.length) rfl e2]
  · rename_i e1 e2; rw [key (l := x.a.l.length) rfl e1, key (l := x.a.t.length) rfl e2]
  · rename_i e1 e2; rw [key (l := x.a.l.length) rfl e1, key (l := x.a.t.length) rfl e2]
  · rename_i e1 e2; rw [key (l := x.a.l.length) rfl e1, key (l := x.a.t.length) rfl e2]
  · exact absurd rfl h0
theorem eyIx_ok {iv : Ivs} (h1 : IvOK iv (yrho x)) : FsOK (eyIx iv) (yrho x) := by
  have hp := p_in x
  have hn := nF_pos x
  have h84 := h1 84
  have e84 : (yrho x).int 84 = x.p := rfl
  rw [e84] at h84
  unfold eyIx
  cases e0 : decide (nFld iv = 0) with
  | true => exact fs_nil
  | false =>
    have d0 := of_decide_eq_false e0
    cases e1 : decide (nFld iv ≤ (ivAt iv 84).1) with
    | true =>
      have d1 := of_decide_eq_true e1
      rw [nFld_ok h1 d0] at d1
      omega
    | false => cases e2 : decide ((ivAt iv 84).1 = (ivAt iv 84).2) with
      | true =>
        have d2 := of_decide_eq_true e2
        have e : (ivAt iv 84).1 = x.p := by omega
        simp only
        rw [nFld_ok h1 d0, e]
        exact fs_cons (fact_rem (k := .i64) (a := x.fu) (b := x.nF) rfl rfl (by omega) rfl) fs_nil
      | false => exact fs_nil
theorem eye_ok (h : x.OK w) {iv : Ivs} {fs : List Fact} (h1 : IvOK iv (yrho x)) (h2 : FsOK fs (yrho x)) (φ : Phi) (hφ : φ.ρ = yrho x) : EnvM (Eye iv fs) φ w :=
  ⟨by rw [hφ]; exact h1, by rw [hφ]; exact fw_app (fw_of h2) (fw_app (eyF_ok h) (fw_of (eyIx_ok h1))), fun k cs h => by cases h⟩
theorem eyQ_ok {iv : Ivs} {c s : Nat} {g : EvG} (hg : Some g) (h1 : IvOK iv (yrho x)) (hc : yint x c = chk g) (hb : 0 ≤ chk g) (hs : (yrho x).val s = .string (txtB g)) : FsOK (eyQ iv c s) (yrho x) := by
  unfold eyQ
  split
  · rename_i b e
    obtain ⟨k1, k2⟩ := one2_ok h1 e
    rw [hc] at k1 k2
    refine fs_cons (fact_eql (s := txtB g) (t := ⟨#[63]⟩) (by simp only [sval, hs]) rfl ?_) fs_nil
    cases b with
    | false => exact (decide_eq_false (hg.ne (by have := k1 rfl; omega))).symm
    | true =>
      have hz : chk g ≠ 0 := by have := k2 rfl; omega
      have et : txtB g = ⟨#[63]⟩ := by
        unfold txtB
        rw [if_neg hz]
      exact (decide_eq_true et).symm
  · exact fs_nil
theorem eyS_ok {s u : Nat} {g : EvG} (hs : (yrho x).val s = .string (txtB g)) (hu : (yrho x).val u = .bool (alikeB g g)) : FsOK (eyS s u) (yrho x) := by
  have e : alikeB g g = true := alikeB_iff.2 (Alike.refl g)
  rw [e] at hu
  exact fs_cons (fact_eql (s := txtB g) (t := txtB g) (by simp only [sval, hs]) (by simp only [sval, hs]) (decide_eq_true rfl).symm) (fs_cons (fact_isB hu) fs_nil)
theorem eyP_ok {iv : Ivs} {f s t u : Nat} {g h : EvG} (hg : Some g) (hh : Some h) (zg : chk g = 0) (zh : chk h = 0) (h1 : IvOK iv (yrho x)) (hf : yint x f = flagT g h) (hs : (yrho x).val s = .string (txtB g)) (ht : (yrho x).val t = .string (txtB h)) (hu : (yrho x).val u = .bool (alikeB g h)) (hu' : (yrho x).val (u + 1) = .bool (alikeB h g)) : FsOK (eyP iv f s t u) (yrho x) := by
  unfold eyP
  split
  · rename_i b e
    obtain ⟨k1, k2⟩ := one2_ok h1 e
    rw [hf] at k1 k2
    have hb : b = true ↔ txtB g = txtB h := by
      constructor
      · intro e
        apply Classical.byContradiction
        intro hne
        have : flagT g h = 0 := if_neg hne
        have := k2 e
        omega
      · intro e
        have : flagT g h = 1 := if_pos e
        cases b with
        | true => rfl
        | false => have := k1 rfl; omega
    have ha : alikeB g h = b := by
      have := hb.trans (hg.iff hh zg zh)
      cases b with
      | true => exact alikeB_iff.2 (this.1 rfl)
      | false =>
        cases e : alikeB g h with
        | false => rfl
        | true => exact (this.2 (alikeB_iff.1 e)).symm
    have ha' : alikeB h g = b := by
      rw [← ha]
      have : alikeB h g = true ↔ alikeB g h = true := by
        rw [alikeB_iff, alikeB_iff]
        exact ⟨Alike.symm, Alike.symm⟩
      cases e : alikeB h g <;> cases e' : alikeB g h <;> simp_all
    rw [ha] at hu
    rw [ha'] at hu'
    have hd : b = decide (txtB g = txtB h) := by
      cases b with
      | true => exact (decide_eq_true (hb.1 rfl)).symm
      | false => exact (decide_eq_false fun e => by have := hb.2 e; cases this).symm
    have hd' : b = decide (txtB h = txtB g) := by
      rw [hd]
      exact decide_eq_decide.2 ⟨Eq.symm, Eq.symm⟩
    exact fs_cons (fact_eql (s := txtB g) (t := txtB h) (by simp only [sval, hs]) (by simp only [sval, ht]) hd) (fs_cons (fact_eql (s := txtB h) (t := txtB g) (by simp only [sval, ht]) (by simp only [sval, hs]) hd') (fs_cons (fact_isB hu) (fs_cons (fact_isB hu') fs_nil)))
  · exact fs_nil
theorem eyL_ok (h : x.OK w) {iv : Ivs} (h1 : IvOK iv (yrho x)) : FsOK (eyL iv) (yrho x) := by
  have sa : Some x.a := .of h.a
  have sb : Some x.b := .of h.b
  have sc : Some x.c := by
    obtain ⟨w', Ba, Bb, hc⟩ := c_somewhere h
    exact ⟨w', _, _, _, _, _, _, _, _, hc⟩
  have ca := (checks h.a).2.1
  have cb := (checks h.b).2.1
  have cc := (c_chk h).1
  have z : ∀ {k : Nat} {g : EvG}, yint x k = chk g → 0 ≤ chk g → one2 iv k = some false → chk g = 0 := fun {k g} e hg hk => by
    have := (one2_ok h1 hk).1 rfl
    omega
  unfold eyL
  refine fs_app (eyQ_ok sa h1 rfl ca rfl) (fs_app (eyQ_ok sb h1 rfl cb rfl) (fs_app (eyQ_ok sc h1 rfl cc rfl) (fs_app ?_ (fs_app ?_ (fs_app ?_ (fs_app ?_ (fs_app ?_ ?_)))))))
  · split
    · exact eyS_ok (g := x.a) rfl rfl
    · exact fs_nil
  · split
    · exact eyS_ok (g := x.b) rfl rfl
    · exact fs_nil
  · split
    · exact eyS_ok (g := x.c) rfl rfl
    · exact fs_nil
  · split
    · rename_i e1 e2
      exact eyP_ok sa sb (z rfl ca e1) (z rfl cb e2) h1 rfl rfl rfl rfl rfl
    · exact fs_nil
  · split
    · rename_i e1 e2
      exact eyP_ok sa sc (z rfl ca e1) (z rfl cc e2) h1 rfl rfl rfl rfl rfl
    · exact fs_nil
  · split
    · rename_i e1 e2
      exact eyP_ok sb sc (z rfl cb e1) (z rfl cc e2) h1 rfl rfl rfl rfl rfl
    · exact fs_nil
theorem eyl_ok (h : x.OK w) {iv : Ivs} {fs : List Fact} (h1 : IvOK iv (yrho x)) (h2 : FsOK fs (yrho x)) (φ : Phi) (hφ : φ.ρ = yrho x) : EnvP (Eyl iv fs) φ w :=
  ⟨by rw [hφ]; exact h1, by rw [hφ]; exact fs_app h2 (eyL_ok h h1), fun k cs h => by cases h⟩
end
end
end Go.Proofs.YtjfbakhebdhbmaaDoor.event
namespace Go.Proofs.YtjfbakhebdhbmaaDoor.event
open Go.Ev Go.RowKit Go.Lib
set_option linter.unusedVariables false
noncomputable section
section
variable {x : ApG} {w : World}
theorem ev_A {φ : Phi} {v : Value} (hφ : φ.ρ = yrho x) (hv : VR φ (evV (si 24)) v) : v = x.a.val := by
  simp only [VRs, VR, evV, si, hφ] at hv
  obtain ⟨_, ⟨_, _, rfl, rfl, _, _, rfl, rfl, _, _, rfl, rfl, _, _, rfl, rfl, _, _, rfl, rfl, _, _, rfl, rfl, _, _, rfl, rfl, _, _, rfl, rfl, _, _, rfl, rfl, _, _, rfl, rfl, _, _, rfl, rfl, _, _, rfl, rfl, _, _, rfl, rfl, rfl⟩, rfl⟩ := hv
  rfl
theorem ev_B {φ : Phi} {v : Value} (hφ : φ.ρ = yrho x) (hv : VR φ evB v) : v = x.b.val := by
  simp only [VRs, VR, evB, si, hφ] at hv
  obtain ⟨_, ⟨_, _, rfl, rfl, _, _, rfl, rfl, _, _, rfl, rfl, _, _, rfl, rfl, _, _, rfl, rfl, _, _, rfl, rfl, _, _, rfl, rfl, _, _, rfl, rfl, _, _, rfl, rfl, _, _, rfl, rfl, _, _, rfl, rfl, _, _, rfl, rfl, _, _, rfl, rfl, rfl⟩, rfl⟩ := hv
  rfl
/-- The third one, as it lies. -/
theorem ev_C (h : x.OK w) {φ : Phi} {v : Value} {w' : World} (hφ : φ.ρ = yrho x) (hp : preOK φ preC w') (hv : VR φ evC v) : ∃ c : EvG, c.OK w' ∧ v = c.val ∧ Alike x.c c := by
  obtain ⟨inf1, o1, f1, q1, p1⟩ := hp _ (List.mem_cons_self)
  obtain ⟨inf2, o2, f2, q2, p2⟩ := hp _ (List.mem_cons_of_mem _ List.mem_cons_self)
  obtain ⟨_, _, c1, e1, fr1, rfl, k1⟩ := p1
  obtain ⟨_, _, c2, e2, fr2, rfl, k2⟩ := p2
  simp only [VRs, VR, evC, si, hφ] at hv
  obtain ⟨_, ⟨_, _, rfl, rfl, _, _, rfl, rfl, _, _, rfl, rfl, _, _, rfl, rfl, _, _, rfl, rfl, _, _, rfl, ⟨i1, g1, rfl⟩, _, _, rfl, rfl, _, _, rfl, rfl, _, _, rfl, rfl, _, _, rfl, rfl, _, _, rfl, rfl, _, _, rfl, rfl, _, _, rfl, ⟨i2, g2, rfl⟩, rfl⟩, rfl⟩ := hv
  have e1 : i1 = inf1 := Option.some.inj (g1.symm.trans f1)
  have e2 : i2 = inf2 := Option.some.inj (g2.symm.trans f2)
  subst e1 e2
  have b1 := (Array.getElem?_eq_some_iff.1 q1).1
  have b2 := (Array.getElem?_eq_some_iff.1 q2).1
  have cell1 : ∀ (j : Nat) (z : Int), (intsV x.cl)[j]? = some (.int .i64 z) → w'.cell? ⟨i1.blk, i1.off + j, none⟩ = some (.int .i64 z) := fun j z hz => by
    obtain ⟨y, y1, y2⟩ := k1.cell j (.int .i64 z) (by
      rw [hφ]
      show (intsV x.cl ++ [])[j]? = _
      rw [List.append_nil]
      exact hz)
    simp only [VR] at y2
    subst y2
    simpa [World.cell?, q1] using y1
  have cell2 : ∀ (j : Nat) (z : Int), (pairsV x.ct)[j]? = some (.int .i64 z) → w'.cell? ⟨i2.blk, i2.off + j, none⟩ = some (.int .i64 z) := fun j z hz => by
    obtain ⟨y, y1, y2⟩ := k2.cell j (.int .i64 z) (by
      rw [hφ]
      show (pairsV x.ct ++ [])[j]? = _
      rw [List.append_nil]
      exact hz)
    simp only [VR] at y2
    subst y2
    simpa [World.cell?, q2] using y1
  have hc := c_ok (x := x) h (w' := w') (Ba := i1.blk) (Oa := i1.off) (ca := x.cl.length + 0 + i1.slack) (Bb := i2.blk) (Ob := i2.off) (cb := x.ct.length + 0 + i2.slack) (fun i z hz => ⟨b1, cell1 i z (intsV_at hz)⟩) fun i z hz => ⟨b2, cell2 _ _ (pairsV_at hz).1, by
    have := cell2 _ _ (pairsV_at hz).2
    rwa [show i2.off + (i * 2 + 1) = i2.off + i * 2 + 1 by omega] at this⟩
  exact ⟨_, hc, rfl, alike_at2⟩
theorem y_ext (hT : TabsOK tabs w) (h : x.OK w) : ∀ e ∈ eyKT, KEok Tryd.prog (yrho x) w e := by
  have chkK : ∀ {V : VV} {pre : List (Nat × VO)} {r : Nat} {g : EvG}, yint x r = chk g → (∀ φ v w', φ.ρ = yrho x → w.heap.size ≤ w'.heap.size → (∀ k, k < w.heap.size → w'.heap[k]? = w.heap[k]?) → preOK φ pre w' → VR φ V v → ∃ c : EvG, c.OK w' ∧ v = c.val ∧ Alike g c) → KEok Tryd.prog (yrho x) w ⟨9, [V], pre, .sint .i64 r⟩ := by
    intro V pre r g hr hV φ vs w' hφ h1 h2 hv hp
    simp only [VRs] at hv
    obtain ⟨v, _, rfl, hv, rfl⟩ := hv
    obtain ⟨c, hc, rfl, ha⟩ := hV φ v w' hφ h1 h2 hp hv
    refine (checks hc).1.mono ?_
    rintro en w'' ⟨rfl, hb⟩
    refine ⟨_, rfl, ?_, hb⟩
    simp only [VR, hφ]
    rw [← chk_of_alike ha]
    show _ = Value.int .i64 (yint x r)
    rw [hr]
  have txtK : ∀ {V : VV} {pre : List (Nat × VO)} {r : Nat} {g : EvG}, Some g → yvv x r = .string (txtB g) → (∀ φ v w', φ.ρ = yrho x → w.heap.size ≤ w'.heap.size → (∀ k, k < w.heap.size → w'.heap[k]? = w.heap[k]?) → preOK φ pre w' → VR φ V v → ∃ c : EvG, c.OK w' ∧ v = c.val ∧ Alike g c) → KEok Tryd.prog (yrho x) w ⟨11, [V], pre, .sym r⟩ := by
    intro V pre r g hs hr hV φ vs w' hφ h1 h2 hv hp
    simp only [VRs] at hv
    obtain ⟨v, _, rfl, hv, rfl⟩ := hv
    obtain ⟨c, hc, rfl, ha⟩ := hV φ v w' hφ h1 h2 hp hv
    refine (texts (itoaOK (hT.of_old h2)) hc).mono ?_
    rintro en w'' ⟨rfl, hb⟩
    refine ⟨_, rfl, ?_, hb⟩
    simp only [VR, hφ]
    rw [text_of_alike hc ha.symm]
    show _ = yvv x r
    rw [hr]
  have alK : ∀ {U V : VV} {pre : List (Nat × VO)} {r : Nat} {g k : EvG}, yvv x r = .bool (alikeB g k) → (∀ φ v w', φ.ρ = yrho x → w.heap.size ≤ w'.heap.size → (∀ k, k < w.heap.size → w'.heap[k]? = w.heap[k]?) → preOK φ pre w' → VR φ U v → ∃ c : EvG, c.OK w' ∧ v = c.val ∧ Alike g c) →
      (∀ φ v w', φ.ρ = yrho x → w.heap.size ≤ w'.heap.size → (∀ k, k < w.heap.size → w'.heap[k]? = w.heap[k]?) → preOK φ pre w' → VR φ V v → ∃ c : EvG, c.OK w' ∧ v = c.val ∧ Alike k c) → KEok Tryd.prog (yrho x) w ⟨14, [U, V], pre, .sym r⟩ := by
    intro U V pre r g k hr hU hV φ vs w' hφ h1 h2 hv hp
    simp only [VRs] at hv
    obtain ⟨u, _, rfl, hu, v, _, rfl, hv, rfl⟩ := hv
    obtain ⟨c, hc, rfl, ha⟩ := hU φ u w' hφ h1 h2 hp hu
    obtain ⟨d, hd, rfl, hb⟩ := hV φ v w' hφ h1 h2 hp hv
    refine (alikeC hc hd).mono ?_
    rintro en w'' ⟨rfl, hbl⟩
    refine ⟨_, rfl, ?_, hbl⟩
    simp only [VR, hφ]
    show _ = yvv x r
    rw [hr, alikeB_congr ha hb]
  have A : ∀ (pre : List (Nat × VO)) φ v w', φ.ρ = yrho x → w.heap.size ≤ w'.heap.size → (∀ k, k < w.heap.size → w'.heap[k]? = w.heap[k]?) → preOK φ pre w' → VR φ (evV (si 24)) v → ∃ c : EvG, c.OK w' ∧ v = c.val ∧ Alike x.a c := fun pre φ v w' hφ h1 h2 _ hv => ⟨x.a, h.a.later h1 h2, ev_A hφ hv, Alike.refl _⟩
  have B : ∀ (pre : List (Nat × VO)) φ v w', φ.ρ = yrho x → w.heap.size ≤ w'.heap.size → (∀ k, k < w.heap.size → w'.heap[k]? = w.heap[k]?) → preOK φ pre w' → VR φ evB v → ∃ c : EvG, c.OK w' ∧ v = c.val ∧ Alike x.b c := fun pre φ v w' hφ h1 h2 _ hv => ⟨x.b, h.b.later h1 h2, ev_B hφ hv, Alike.refl _⟩
  have C : ∀ φ v w', φ.ρ = yrho x → w.heap.size ≤ w'.heap.size → (∀ k, k < w.heap.size → w'.heap[k]? = w.heap[k]?) → preOK φ preC w' → VR φ evC v → ∃ c : EvG, c.OK w' ∧ v = c.val ∧ Alike x.c c := fun φ v w' hφ h1 h2 hp hv => ev_C h hφ hp hv
  have sa : Some x.a := .of h.a
  have sb : Some x.b := .of h.b
  have sc : Some x.c := by
    obtain ⟨w', Ba, Bb, hc⟩ := c_somewhere h
    exact ⟨w', _, _, _, _, _, _, _, _, hc⟩
  intro e he
  simp only [eyKT, List.mem_cons, List.not_mem_nil, or_false] at he
  rcases he with rfl | rfl | rfl | rfl | rfl | rfl | rfl | rfl | rfl | rfl | rfl | rfl | rfl | rfl | rfl | rfl
  · exact chkK (g := x.a) rfl (A [])
  · exact chkK (g := x.b) rfl (B [])
  · exact chkK (g := x.c) rfl C
  · exact txtK sa rfl (A [])
  · exact txtK sb rfl (B [])
  · exact txtK sc rfl C
  · exact alK (g := x.a) (k := x.a) rfl (A []) (A [])
  · exact alK (g := x.b) (k := x.b) rfl (B []) (B [])
  · exact alK (g := x.c) (k := x.c) rfl C C
  · exact alK (g := x.a) (k := x.b) rfl (A []) (B [])
  · exact alK (g := x.b) (k := x.a) rfl (B []) (A [])
  · exact alK (g := x.a) (k := x.c) rfl (A preC) C
  · exact alK (g := x.c) (k := x.a) rfl C (A preC)
  · exact alK (g := x.b) (k := x.c) rfl (B preC) C
  · exact alK (g := x.c) (k := x.b) rfl C (B preC)
  · intro φ vs w' hφ h1 h2 hv _
    simp only [VRs] at hv
    subst hv
    refine (rows.works w' (hT.of_old h2)).mono ?_
    rintro en w'' ⟨rfl, hb⟩
    exact ⟨_, rfl, by simp only [VR], hb⟩
/-! ### what the loop begins with -/
def slotV (p q : Int) (k : Nat) : VV := match decide (p = q) with
  | true => si 82
  | false => si k
def lsV (bl : Bool) (p : Int) : VV := match bl with
  | true => .agg [.sym (match decide (p = 10) with | true => 2 | false => 0)]
  | false => .agg [.nilIface]
def tsV (bl bt : Bool) (p : Int) : VV := match bt with
  | true => .agg [.sym (match decide (p = (match bl with | true => 11 | false => 10)), decide (p = (match bl with | true => 12 | false => 11)) with | true, _ => 3 | _, true => 4 | _, _ => 1)]
  | false => .agg [.nilIface]
def lnV (b : Bool) (k : Nat) : VV := match b with
  | true => .tuple [si k, .int .i64 0]
  | false => .tuple [.int .i64 0]
def xsOf (bl bt : Bool) (p : Int) : List VV := [tsV bl bt p, lsV bl p, lnV bt 13, slotV p 9 10, slotV p 8 9, slotV p 7 8, slotV p 6 7, slotV p 5 6, si 5, lnV bl 12, slotV p 4 4, slotV p 3 3, slotV p 2 2, slotV p 1 1, slotV p 0 24]
def eqVs : List VV → List VV → Bool
  | [], [] => true
  | x :: xs, y :: ys => match vvEq x y with
    | true => eqVs xs ys
    | false => false
  | _, _ => false
theorem eqVs_ok : ∀ {xs ys : List VV}, eqVs xs ys = true → xs = ys
  | [], [], _ => rfl
  | x :: xs, y :: ys, h => by
    simp only [eqVs] at h
    split at h
    · rename_i e
      rw [vvEq_eq _ _ e, eqVs_ok h]
    · cases h
  | [], _ :: _, h => by cases h
  | _ :: _, [], h => by cases h
def okX (iv : Ivs) (_ : Rels) (o : Leaf) : Bool := match decide (nFld iv = 0) with
  | true => false
  | false => match decide (nFld iv ≤ (ivAt iv 84).1) with
    | true => true
    | false => match o, one2 iv 12, one2 iv 13, decide ((ivAt iv 84).1 = (ivAt iv 84).2) with
      | .goto 1 xs, some bl, some bt, true => eqVs xs (xsOf bl bt (ivAt iv 84).1)
      | _, _, _, _ => false
theorem all_x : allI okX eyt0 eyiv0 [] = true := by kernel_rfl
theorem entry_is (h : x.OK w) : valX eyt0 (yint x) = .goto 1 (xsOf x.bl x.bt x.p) := by
  obtain ⟨iv, rs, k1, k2⟩ := allI_ok all_x (VOK_of (y_iv h))
  have h1 : IvOK iv (yrho x) := k1.1
  have e0 : (yrho x).int = yint x := rfl
  rw [e0] at k2
  have h84 := h1 84
  have e84 : (yrho x).int 84 = x.p := rfl
  rw [e84] at h84
  have hp := p_in x
  generalize valX eyt0 (yint x) = o at k2
  unfold okX at k2
  cases d0 : decide (nFld iv = 0) with
  | true => rw [d0] at k2; cases k2
  | false =>
    have d0' := of_decide_eq_false d0
    have hn := nFld_ok h1 d0'
    rw [d0] at k2
    cases d1 : decide (nFld iv ≤ (ivAt iv 84).1) with
    | true =>
      have := of_decide_eq_true d1
      rw [hn] at this
      omega
    | false =>
      rw [d1] at k2
      simp only at k2
      split at k2
      · rename_i xs bl bt e1 e2 e3
        have e3 := of_decide_eq_true e3
        have ep : (ivAt iv 84).1 = x.p := by omega
        have key : ∀ {k : Nat} {b : Bool} {l : Nat}, yint x k = (l : Int) → one2 iv k = some b → decide (1 ≤ l) = b := fun {k b l} hl h => by
          obtain ⟨k1, k2⟩ := one2_ok h1 h
          rw [hl] at k1 k2
          cases b with
          | false => exact decide_eq_false (by have := k1 rfl; omega)
          | true => exact decide_eq_true (by have := k2 rfl; omega)
        have hbl : x.bl = bl := key (l := x.a.l.length) rfl e1
        have hbt : x.bt = bt := key (l := x.a.t.length) rfl e2
        rw [eqVs_ok k2, ep, hbl, hbt]
      · cases k2
theorem car_int {ρ : Rho} {a b : Nat} (e : ρ.int a = ρ.int b) : Car ρ ρ (si a, si b) := ⟨.int .i64 (ρ.int a), rfl, by simp only [sval, si, e]⟩
theorem car_slot {q v : Int} {k j : Nat} (hk : yint x k = v) (hj : yint x j = x.at q v) : Car (yrho x) (yrho x) (slotV x.p q k, si j) := by
  unfold slotV
  unfold ApG.at at hj
  split
  · rename_i e
    have e := of_decide_eq_true e
    rw [if_pos e] at hj
    exact car_int (show yint x 82 = yint x j by rw [hj]; rfl)
  · rename_i e
    have e := of_decide_eq_false e
    rw [if_neg e] at hj
    exact car_int (show yint x k = yint x j by rw [hj, hk])
theorem svals_all {ρ : Rho} : ∀ {l : List VV}, AllI l → ∃ vs, svals ρ l = some vs
  | [], _ => ⟨[], rfl⟩
  | y :: l, h => by
    obtain ⟨z, rfl⟩ := h y List.mem_cons_self
    obtain ⟨vs, e⟩ := svals_all (ρ := ρ) fun y hy => h y (List.mem_cons_of_mem _ hy)
    exact ⟨.int .i64 z :: vs, by simp only [svals, sval, e]⟩
theorem car_list {i j n sz : Nat} (e : ylst x i = ylst x j) (h0 : 0 ≤ yint x n) (hl : (ylst x j).length = (yint x n).toNat * sz) : Car (yrho x) (yrho x) (.agg [.sym i], .agg [.sym j, .sint .i64 n, .int .i64 sz]) := by
  obtain ⟨vs, hv⟩ := svals_all (ρ := yrho x) (ylst_all x j)
  refine ⟨vs, ?_, ?_, h0, hl⟩
  · show svals (yrho x) (ylst x i ++ []) = some vs
    rw [e, List.append_nil]
    exact hv
  · show svals (yrho x) (ylst x j ++ []) = some vs
    rw [List.append_nil]
    exact hv
theorem car_nil {j n sz : Nat} (e : ylst x j = []) (h0 : yint x n = 0) : Car (yrho x) (yrho x) (.agg [.nilIface], .agg [.sym j, .sint .i64 n, .int .i64 sz]) := by
  refine ⟨[], rfl, ?_, by show 0 ≤ yint x n; omega, ?_⟩
  · show svals (yrho x) (ylst x j ++ []) = some []
    rw [e]
    rfl
  · show (ylst x j).length = (yint x n).toNat * _
    rw [e, h0]
    simp
theorem car_len {b : Bool} {k j : Nat} (h1 : b = true → yint x k = yint x j) (h2 : b = false → yint x j = 0) : Car (yrho x) (yrho x) (lnV b k, .tuple [.sint .i64 j, .int .i64 0]) := by
  cases b with
  | true => exact ⟨(yint x j).toNat + 0, by show some ((yint x k).toNat + (0 : Int).toNat) = _; rw [h1 rfl]; rfl, rfl⟩
  | false => exact ⟨0, rfl, by show some ((yint x j).toNat + (0 : Int).toNat) = _; rw [h2 rfl]; rfl⟩
theorem intsV_set (l : List Int) (z : Int) : intsV (l.set 0 z) = (intsV l).set 0 (.int .i64 z) := by
  cases l <;> rfl
theorem pairsV_set0 (l : List (Int × Int)) (z : Int) : pairsV (l.set 0 (z, (l.getD 0 (0, 0)).2)) = (pairsV l).set 0 (.int .i64 z) := by
  cases l <;> rfl
theorem pairsV_set1 (l : List (Int × Int)) (z : Int) : pairsV (l.set 0 ((l.getD 0 (0, 0)).1, z)) = (pairsV l).set 1 (.int .i64 z) := by
  cases l <;> rfl
theorem nil_of {α : Type} {l : List α} (h : decide (1 ≤ l.length) = false) : l = [] := List.eq_nil_of_length_eq_zero (by have := of_decide_eq_false h; omega)
theorem entry_carry : carry (yrho x) (yrho x) (xsOf x.bl x.bt x.p) eyc1.ys := by
  have c1 := cl_len x
  have c2 := ct_len x
  refine ⟨?_, ?_, ?_, car_slot (v := x.a.i10) rfl rfl, car_slot (v := x.a.i9) rfl rfl, car_slot (v := x.a.i8) rfl rfl, car_slot (v := x.a.i7) rfl rfl, car_slot (v := x.a.i6) rfl rfl, car_int (a := 5) (b := 95) rfl, ?_, car_slot (v := x.a.m) rfl rfl, car_slot (v := x.a.n) rfl rfl, car_slot (v := x.a.b) rfl rfl, car_slot (v := x.a.a) rfl rfl, car_slot (v := x.a.k) rfl rfl, trivial⟩
  · have hlen : (pairsV x.ct).length = (yint x 102).toNat * 2 := by rw [pairsV_len]; rfl
    unfold tsV
    cases hb : x.bt with
    | false =>
      have e : x.a.t = [] := nil_of hb
      have e2 : x.ct = [] := List.eq_nil_of_length_eq_zero (by rw [c2, e]; rfl)
      exact car_nil (show pairsV x.ct = [] by rw [e2]; rfl) (show (x.ct.length : Int) = 0 by rw [e2]; rfl)
    | true =>
      have hq : (match x.bl with | true => (11 : Int) | false => 10) = x.q := by
        unfold ApG.q
        cases x.bl <;> rfl
      have hq1 : (match x.bl with | true => (12 : Int) | false => 11) = x.q + 1 := by
        unfold ApG.q
        cases x.bl <;> rfl
      simp only [hq, hq1]
      have h102 : 0 ≤ yint x 102 := by show (0 : Int) ≤ (x.ct.length : Int); omega
      cases d1 : decide (x.p = x.q) with
      | true =>
        have d1' := of_decide_eq_true d1
        refine car_list (i := 3) (j := 11) (n := 102) (sz := 2) ?_ h102 hlen
        show (pairsV x.a.t).set 0 _ = pairsV x.ct
        unfold ApG.ct
        rw [if_pos ⟨hb, d1'⟩, pairsV_set0]
      | false =>
        have d1' := of_decide_eq_false d1
        cases d2 : decide (x.p = x.q + 1) with
        | true =>
          have d2' := of_decide_eq_true d2
          refine car_list (i := 4) (j := 11) (n := 102) (sz := 2) ?_ h102 hlen
          show (pairsV x.a.t).set 1 _ = pairsV x.ct
          unfold ApG.ct
          rw [if_neg (fun k => d1' k.2), if_pos ⟨hb, d2'⟩, pairsV_set1]
        | false =>
          have d2' := of_decide_eq_false d2
          refine car_list (i := 1) (j := 11) (n := 102) (sz := 2) ?_ h102 hlen
          show pairsV x.a.t = pairsV x.ct
          unfold ApG.ct
          rw [if_neg (fun k => d1' k.2), if_neg (fun k => d2' k.2)]
  · have hlen : (intsV x.cl).length = (yint x 101).toNat * 1 := by
      unfold intsV
      rw [List.length_map, Nat.mul_one]
      rfl
    unfold lsV
    have h101 : 0 ≤ yint x 101 := by show (0 : Int) ≤ (x.cl.length : Int); omega
    cases hb : x.bl with
    | false =>
      have e : x.a.l = [] := nil_of hb
      have e2 : x.cl = [] := List.eq_nil_of_length_eq_zero (by rw [c1, e]; rfl)
      exact car_nil (show intsV x.cl = [] by rw [e2]; rfl) (show (x.cl.length : Int) = 0 by rw [e2]; rfl)
    | true =>
      simp only
      cases d1 : decide (x.p = 10) with
      | true =>
        have d1' := of_decide_eq_true d1
        refine car_list (i := 2) (j := 10) (n := 101) (sz := 1) ?_ h101 hlen
        show (intsV x.a.l).set 0 _ = intsV x.cl
        unfold ApG.cl
        rw [if_pos ⟨hb, d1'⟩, intsV_set]
      | false =>
        have d1' := of_decide_eq_false d1
        refine car_list (i := 0) (j := 10) (n := 101) (sz := 1) ?_ h101 hlen
        show intsV x.a.l = intsV x.cl
        unfold ApG.cl
        rw [if_neg (fun k => d1' k.2)]
  · refine car_len (fun _ => ?_) fun hb => ?_
    · show (x.a.t.length : Int) = (x.ct.length : Int)
      rw [c2]
    · show (x.ct.length : Int) = 0
      rw [c2, nil_of hb]
      rfl
  · refine car_len (fun _ => ?_) fun hb => ?_
    · show (x.a.l.length : Int) = (x.cl.length : Int)
      rw [c1]
    · show (x.cl.length : Int) = 0
      rw [c1, nil_of hb]
      rfl
/-! ### the paths -/
abbrev YRun (x : ApG) (w : World) (p : Nat) : Prop := ∃ k, @Runs (extKA Tryd.prog eyKT eyK2) eyC w (.bool true) k p (yrho x)
theorem y_cut (hT : TabsOK tabs w) (h : x.OK w) {c : CutP} (hiv : c.iv = eyiv0) (hE : c.E = Eyl) : @CutP.OK (extKA Tryd.prog eyKT eyK2) c w (yrho x) := by
  letI : Ext := extKA Tryd.prog eyKT eyK2
  exact CutP.ok_of ⟨y_ext hT h, fun e he => by cases he⟩ (by rw [hiv]; exact y_iv h) fun iv fs h1 h2 φ hφ => by rw [hE]; exact eyl_ok h h1 h2 φ hφ
def xsL : List VV := [.agg [.sym 11], .agg [.sym 10], .tuple [si 102, .int .i64 0], si 100, si 99, si 98, si 97, si 96, si 95, .tuple [si 101, .int .i64 0], si 94, si 93, si 92, si 91, si 90]
theorem loop_carry : carry (yrho x) (yrho x) xsL eyc1.ys := by
  have hl1 : (intsV x.cl).length = (yint x 101).toNat * 1 := by
    unfold intsV
    rw [List.length_map, Nat.mul_one]
    rfl
  have hl2 : (pairsV x.ct).length = (yint x 102).toNat * 2 := by rw [pairsV_len]; rfl
  exact ⟨car_list (i := 11) (j := 11) (n := 102) (sz := 2) rfl (by show (0 : Int) ≤ (x.ct.length : Int); omega) hl2, car_list (i := 10) (j := 10) (n := 101) (sz := 1) rfl (by show (0 : Int) ≤ (x.cl.length : Int); omega) hl1, ⟨_, rfl, rfl⟩, car_int rfl, car_int rfl, car_int rfl, car_int rfl, car_int rfl, car_int rfl, ⟨_, rfl, rfl⟩, car_int rfl, car_int rfl, car_int rfl, car_int rfl, car_int rfl, trivial⟩
theorem y_agree {N : Nat} : agree N (yrho x) (yrho x) := fun k hk => ⟨rfl, rfl, rfl, rfl, rfl⟩
def isGoX (q : Nat) : Leaf → Bool
  | .goto q' xs => match Nat.beq q q' with
    | true => eqVs xs xsL
    | false => false
  | _ => false
theorem isGoX_ok {q : Nat} {o : Leaf} (h : isGoX q o = true) : o = .goto q xsL := by
  unfold isGoX at h
  split at h
  · split at h
    · rename_i e
      rw [Nat.eq_of_beq_eq_true e, eqVs_ok h]
    · cases h
  · cases h
theorem go1 : allL (isGoX 2) eyt1 = true := by kernel_rfl
theorem go2 : allL (isGoX 3) eyt2 = true := by kernel_rfl
theorem go3 : allL (isGoX 4) eyt3 = true := by kernel_rfl
theorem yrun4 (hT : TabsOK tabs w) (h : x.OK w) : YRun x w 4 := by
  letI : Ext := extKA Tryd.prog eyKT eyK2
  exact run_ret (c := eyc4) (r := .bool true) rfl (y_cut hT h rfl rfl) rfl rfl
theorem yrun3 (hT : TabsOK tabs w) (h : x.OK w) : YRun x w 3 := by
  letI : Ext := extKA Tryd.prog eyKT eyK2
  exact run_step (c := eyc3) (d := eyc4) rfl (y_cut hT h rfl rfl) (q := 4) (xs := xsL) (isGoX_ok (allL_ok (v := yint x) go3)) rfl y_agree loop_carry (yrun4 hT h)
theorem yrun2 (hT : TabsOK tabs w) (h : x.OK w) : YRun x w 2 := by
  letI : Ext := extKA Tryd.prog eyKT eyK2
  exact run_step (c := eyc2) (d := eyc3) rfl (y_cut hT h rfl rfl) (q := 3) (xs := xsL) (isGoX_ok (allL_ok (v := yint x) go2)) rfl y_agree loop_carry (yrun3 hT h)
theorem yrun1 (hT : TabsOK tabs w) (h : x.OK w) : YRun x w 1 := by
  letI : Ext := extKA Tryd.prog eyKT eyK2
  exact run_step (c := eyc1) (d := eyc2) rfl (y_cut hT h rfl rfl) (q := 2) (xs := xsL) (isGoX_ok (allL_ok (v := yint x) go1)) rfl y_agree loop_carry (yrun2 hT h)
theorem yrun0 (hT : TabsOK tabs w) (h : x.OK w) : YRun x w 0 := by
  letI : Ext := extKA Tryd.prog eyKT eyK2
  exact run_step (c := eyc0) (d := eyc1) rfl (CutP.ok_ofM ⟨y_ext hT h, fun e he => by cases he⟩ (y_iv h) fun iv fs h1 h2 φ hφ => eye_ok h h1 h2 φ hφ) (q := 1) (xs := xsOf x.bl x.bt x.p) (entry_is h) rfl y_agree entry_carry (yrun1 hT h)
theorem y_args : VRs ⟨fun _ => none, yrho x⟩ [rawA, rawB, .agg [si 80, si 82]] [x.a.raw x.la x.lt, x.b.raw x.ma x.mt, .agg #[.int .i64 x.f, .int .i64 x.n]] := by
  simp only [VRs, VR, rawA, rawB, si]
  refine ⟨_, _, rfl, ⟨[.int .i64 x.a.k, .int .i64 x.a.a, .int .i64 x.a.b, .int .i64 x.a.n, .int .i64 x.a.m, .slice x.a.oa x.la x.a.ca, .int .i64 x.a.i5, .int .i64 x.a.i6, .int .i64 x.a.i7, .int .i64 x.a.i8, .int .i64 x.a.i9, .int .i64 x.a.i10, .slice x.a.ob x.lt x.a.cb], ?_, rfl⟩, _, _, rfl, ⟨[.int .i64 x.b.k, .int .i64 x.b.a, .int .i64 x.b.b, .int .i64 x.b.n, .int .i64 x.b.m, .slice x.b.oa x.ma x.b.ca, .int .i64 x.b.i5, .int .i64 x.b.i6, .int .i64 x.b.i7, .int .i64 x.b.i8, .int .i64 x.b.i9, .int .i64 x.b.i10, .slice x.b.ob x.mt x.b.cb], ?_, rfl⟩, _, [], rfl, ⟨[.int .i64 x.f, .int .i64 x.n], ⟨_, _, rfl, rfl, _, _, rfl, rfl, rfl⟩, rfl⟩, rfl⟩
  · exact ⟨_, _, rfl, rfl, _, _, rfl, rfl, _, _, rfl, rfl, _, _, rfl, rfl, _, _, rfl, rfl, _, _, rfl, rfl, _, _, rfl, rfl, _, _, rfl, rfl, _, _, rfl, rfl, _, _, rfl, rfl, _, _, rfl, rfl, _, _, rfl, rfl, _, _, rfl, rfl, rfl⟩
  · exact ⟨_, _, rfl, rfl, _, _, rfl, rfl, _, _, rfl, rfl, _, _, rfl, rfl, _, _, rfl, rfl, _, _, rfl, rfl, _, _, rfl, rfl, _, _, rfl, rfl, _, _, rfl, rfl, _, _, rfl, rfl, _, _, rfl, rfl, _, _, rfl, rfl, _, _, rfl, rfl, rfl⟩
theorem lawY (hT : TabsOK tabs w) (h : x.OK w) : Calls Tryd.prog 5 #[x.a.raw x.la x.lt, x.b.raw x.ma x.mt, .agg #[.int .i64 x.f, .int .i64 x.n]] w fun e w' => e = .returned (.bool true) ∧ Below w.heap.size w w' := by
  letI : Ext := extKA Tryd.prog eyKT eyK2
  obtain ⟨k, hk⟩ := yrun0 hT h
  exact auto_callsP eyauto Tryd.func5 (by kernel_rfl) (args := [rawA, rawB, .agg [si 80, si 82]]) (by kernel_rfl) (c := eyc0) rfl rfl rfl rfl rfl (fun r b h => by cases h) y_args hk
end
end
end Go.Proofs.YtjfbakhebdhbmaaDoor.event
