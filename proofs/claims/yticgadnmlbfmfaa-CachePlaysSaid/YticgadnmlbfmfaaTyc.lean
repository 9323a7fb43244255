/-
  Chapter 25: the law CachePlays, walked.
-/
import Derived.Deep.CutBlock
import Derived.Deep.CutRange
import Derived.Test.YticgadnmlbfmfaaTyb
namespace Go.Proofs.Yticgadnmlbfmfaa.cachePlays
open Go.Shelf Go.RowKit Go.Lib Go.Sort Go.Maps
/-- The types, sizes, functions. -/
structure LayW (P : Program) (k46 : Nat) (y46 : List Value) : Prop where
  f4 : P.funcs[4]? = some Try.f4
  e7 : ∀ args w, (callFunc 7 args).run P w = .ok (.enter 7 args) w
  e10 : ∀ args w, (callFunc 10 args).run P w = .ok (.enter 10 args) w
  e11 : ∀ args w, (callFunc 11 args).run P w = .ok (.enter 11 args) w
  e12 : ∀ args w, (callFunc 12 args).run P w = .ok (.enter 12 args) w
  e13 : ∀ args w, (callFunc 13 args).run P w = .ok (.enter 13 args) w
  e14 : ∀ args w, (callFunc 14 args).run P w = .ok (.enter 14 args) w
  e15 : ∀ args w, (callFunc 15 args).run P w = .ok (.enter 15 args) w
  e16 : ∀ args w, (callFunc 16 args).run P w = .ok (.enter 16 args) w
  e17 : ∀ args w, (callFunc 17 args).run P w = .ok (.enter 17 args) w
  e18 : ∀ args w, (callFunc 18 args).run P w = .ok (.enter 18 args) w
  e19 : ∀ args w, (callFunc 19 args).run P w = .ok (.enter 19 args) w
  e20 : ∀ args w, (callFunc 20 args).run P w = .ok (.enter 20 args) w
  e21 : ∀ args w, (callFunc 21 args).run P w = .ok (.enter 21 args) w
  t41 : P.underlying 41 = some (TypeDesc.slice 46)
  a41 : ∀ w, (isAgg 41).run P w = .ok false w
  z41 : ∀ w, (Go.sizeOf 41).run P w = .ok 1 w
  t46 : P.underlying 46 = some (TypeDesc.struct #[{ name := "What", type := 3, offset := 0, embedded := false, tag := "", pkgPath := "", byteOffset := 0 }, { name := "Slot", type := 3, offset := 1, embedded := false, tag := "", pkgPath := "", byteOffset := 8 }, { name := "O", type := 30, offset := 2, embedded := false, tag := "", pkgPath := "", byteOffset := 16 }])
  a46 : ∀ w, (isAgg 46).run P w = .ok true w
  z46 : ∀ w, (Go.sizeOf 46).run P w = .ok k46 w
  v46 : ∀ w, (zeroValue 46).run P w = .ok (.agg y46.toArray) w
  eq36 : ∀ (a b c : Int) (W : World), Sem.run P (Op.equalIn 10000 36 (.agg #[.int .i64 a, .int .i64 b, .int .i64 c]) (.agg #[.int .i64 a, .int .i64 b, .int .i64 c])) W = .ok true W
  g36 : ∀ (x y : Operand) (p q : Array Value) (W : World), Sem.run P (eqGuard .neq 36 x y (.agg p) (.agg q)) W = .ok () W
/-- What is done, as it came in. -/
structure Ac where
  what : Int
  slot : Int
  x : Hd
structure AcI (w : World) (r : List Value) (y : Ac) : Prop where
  x : ∃ ob, r = .int .i64 y.what :: .int .i64 y.slot :: ob ∧ ObI (fun b => b < w.heap.size) w ob y.x
structure AsI (w : World) (la : Option Addr) (l : List Ac) : Prop where
  x : ∃ rs : List (List Value), RowsZ (fun b => b < w.heap.size) w la 16 rs ∧ rs.length = l.length ∧ ∀ (i : Nat) (r : List Value) (y : Ac), rs[i]? = some r → l[i]? = some y → AcI w r y
/-- Both caches hold the same. -/
structure TwA (w0 : World) (cb sb tb rb : Nat) (K : Ca) (R : Rc) (W : World) : Prop where
  t : Tw w0 (fun _ => False) cb sb tb rb K R W
  g : Agr K R
theorem TwA.gr {w0 : World} {cb sb tb rb : Nat} {K : Ca} {R : Rc} {W W' : World} (h : TwA w0 cb sb tb rb K R W) (g : Below W.heap.size W W') : TwA w0 cb sb tb rb K R W' := ⟨h.t.gr g, h.g⟩
/-- In a round: the act's box, the object's. -/
structure Rnd (w0 : World) (E : Nat → Prop) (cb sb tb rb bx bo : Nat) (K : Ca) (R : Rc) (r ob : List Value) (x : Hd) (W : World) : Prop where
  t : Tw w0 E cb sb tb rb K R W
  hx : W.heap[bx]? = some (.cells r.toArray 46)
  ho : W.heap[bo]? = some (.cells ob.toArray 30)
  ex : E bx
  eo : E bo
  hr : ObR E W ob x.card x.ctrl x.stamp x.effs
  f : ∃ va vc, ob[13]? = some (.slice va x.effs.length vc) ∧ (x.effs = [] ∨ ∃ g, va = some ⟨g, 0, none⟩ ∧ E g ∧ EfB W g x.effs.length ∧ g ≠ bo)
theorem ObR.kpE {E : Nat → Prop} {W W' : World} {ob : List Value} {card ctrl stamp : Int} {effs : List Ef} (h : ObR E W ob card ctrl stamp effs) (hs : W.heap.size ≤ W'.heap.size) (k : KpE E W W') : ObR E W' ob card ctrl stamp effs := h.keep ⟨hs, fun b hb _ => k b hb⟩
theorem Rnd.step {w0 : World} {E : Nat → Prop} {cb sb tb rb bx bo : Nat} {K K' : Ca} {R R' : Rc} {r ob : List Value} {x : Hd} {W W' : World} (h : Rnd w0 E cb sb tb rb bx bo K R r ob x W) (s : TwS w0 E cb sb tb rb K' R' W W') : Rnd w0 E cb sb tb rb bx bo K' R' r ob x W' := by
  obtain ⟨va, vc, f1, f2⟩ := h.f
  refine ⟨s.t, (s.k bx h.ex).trans h.hx, (s.k bo h.eo).trans h.ho, h.ex, h.eo, h.hr.kpE s.s s.k, ⟨va, vc, f1, f2.imp id ?_⟩⟩
  rintro ⟨g, g1, g2, ⟨F, g3, g4⟩, g5⟩
  exact ⟨g, g1, g2, ⟨F, (s.k g g2).trans g3, g4⟩, g5⟩
theorem Rnd.gr {w0 : World} {E : Nat → Prop} {cb sb tb rb bx bo : Nat} {K : Ca} {R : Rc} {r ob : List Value} {x : Hd} {W W' : World} (h : Rnd w0 E cb sb tb rb bx bo K R r ob x W) (g : Below W.heap.size W W') : Rnd w0 E cb sb tb rb bx bo K R r ob x W' := h.step (h.t.grS g)
theorem twA_start {w w1 w2 w3 : World} {cards : List Cd} {cb sb tb : Nat} (hB1 : Below w.heap.size w w1) (p1 : w1.heap.size ≤ cb) (p2 : w1.heap.size ≤ sb) (p3 : w1.heap.size ≤ tb) (hca : CaAt (fun b => b < w1.heap.size ∨ (w1.heap.size ≤ b ∧ b < w2.heap.size ∧ b ≠ cb ∧ b ≠ sb ∧ b ≠ tb)) w2 cb sb tb (Ca.new cards)) (hB2 : Below w1.heap.size w1 w2) (hr : RcAt (fun b => b < w1.heap.size) w3 w2.heap.size (rc0 cards)) (hg : Gr w2 w3) : TwA w cb sb tb w2.heap.size (Ca.new cards) (rc0 cards) w3 := by
  obtain ⟨l1, l2, l3⟩ := hca.lt
  have e1 := hB1.size
  have e2 := hB2.size
  refine ⟨⟨gr_below (hB1.trans (hB2.mono e1)) (by omega) hg, ⟨_, hca.below (gr_below (.refl _ _) (Nat.le_refl _) hg), fun h => (by rcases h with h | h <;> omega), fun b hb => hb.elim⟩, ⟨_, hr, ⟨by omega, by omega, by omega⟩, fun b hb => hb.elim⟩, ⟨by omega, by omega, by omega⟩, ⟨by omega, by omega, by omega, by omega⟩, (fun k v hv => by cases hv), fun b hb => hb.elim⟩, ⟨?_, rfl, fun _ _ => rfl, (fun _ h => by cases h), (fun _ h => by cases h)⟩⟩
  funext k
  show none = if _ then _ else none
  split
  · rename_i h
    cases h.2.2
  · rfl
def hxK (K : Ca) (x : Hd) : Hd := ⟨x.card, x.ctrl, x.stamp, x.effs.take 12, cdOf K.cards x.card⟩
theorem rnd_start {w0 wr W1 w2 : World} {cb sb tb rb bx : Nat} {K : Ca} {R : Rc} (h : Tw w0 (fun _ => False) cb sb tb rb K R wr) {r ob1 y : List Value} {x : Hd} (hr : W1.heap[bx]? = some (.cells r.toArray 46)) (b1 : Below wr.heap.size wr W1) (hbx : wr.heap.size ≤ bx) (s : ShO W1 x ob1 w2) (hy : ob1.length = y.length) : ∃ E, Rnd w0 E cb sb tb rb bx w2.heap.size K R r ob1 (hxK K x) ((w2.alloc (.cells y.toArray 30)).setCells w2.heap.size 0 ob1) := by
  have l1 := blk_lt hr
  have e1 := b1.size
  have e2 := s.b.size
  have b3 : Below w2.heap.size w2 ((w2.alloc (.cells y.toArray 30)).setCells w2.heap.size 0 ob1) := below_sets (Nat.le_refl _) _ _ (gr_below (.refl _ _) (Nat.le_refl _) ((Gr.refl _).alloc _))
  have sz : ((w2.alloc (.cells y.toArray 30)).setCells w2.heap.size 0 ob1).heap.size = w2.heap.size + 1 := by simp
  have bw : Below wr.heap.size wr ((w2.alloc (.cells y.toArray 30)).setCells w2.heap.size 0 ob1) := (b1.trans (s.b.mono e1)).trans (b3.mono (by omega))
  obtain ⟨va, vc, f1, f2⟩ := s.e
  refine ⟨_, h.add bw, (b3.block bx (by omega)).trans ((s.b.block bx l1).trans hr), blk_put (blk_new w2 _) ob1 hy, .inr ⟨hbx, by omega⟩, .inr ⟨by omega, by omega⟩, (s.o.keep ⟨b3.size, fun b hb _ => b3.block b hb.2⟩).mono fun b hb _ => .inr ⟨by omega, by omega⟩, va, vc, f1, f2.imp id ?_⟩
  rintro ⟨g, g1, g2, F, g3, g4⟩
  have lg := blk_lt g3
  exact ⟨g, g1, .inr ⟨by omega, by omega⟩, ⟨F, (b3.block g lg).trans g3, g4⟩, by omega⟩
/-- While the law writes its own list. -/
structure Rw (w0 : World) (E : Nat → Prop) (cb sb tb rb bo : Nat) (K : Ca) (R : Rc) (va : Option Addr) (n vc : Nat) (W : World) : Prop where
  t : Tw w0 E cb sb tb rb K R W
  c : W.cell? ⟨bo, 13, none⟩ = some (.slice va n vc)
  f : n = 0 ∨ ∃ g, va = some ⟨g, 0, none⟩ ∧ E g ∧ EfB W g n ∧ g ≠ bo
theorem Rnd.rw {w0 : World} {E : Nat → Prop} {cb sb tb rb bx bo : Nat} {K : Ca} {R : Rc} {r ob : List Value} {x : Hd} {W : World} (h : Rnd w0 E cb sb tb rb bx bo K R r ob x W) : ∃ va vc, Rw w0 E cb sb tb rb bo K R va x.effs.length vc W := by
  obtain ⟨va, vc, f1, f2⟩ := h.f
  refine ⟨va, vc, h.t, hold_cell (blk_hold h.ho) f1, ?_⟩
  rcases f2 with f2 | f2
  · exact .inl (by rw [f2]; rfl)
  · exact .inr f2
theorem Rw.wr {w0 : World} {E : Nat → Prop} {cb sb tb rb bo : Nat} {K : Ca} {R : Rc} {va : Option Addr} {n vc : Nat} {W : World} (h : Rw w0 E cb sb tb rb bo K R va n vc W) {k : Nat} (hk : k < n) : ∃ g v, va = some ⟨g, 0, none⟩ ∧ W.cell? ⟨g, k * 4, none⟩ = some v ∧ W.frozen? ⟨g, k * 4, none⟩ = false ∧ ∀ u, Rw w0 E cb sb tb rb bo K R va n vc (W.setCell ⟨g, k * 4, none⟩ u) := by
  rcases h.f with h0 | ⟨g, g1, g2, ⟨F, g3, g4⟩, g5⟩
  · omega
  · have hh := blk_hold (l := F.toList) (by simpa using g3)
    have hj := hh (k * 4) (by simp; omega)
    rw [Nat.zero_add] at hj
    refine ⟨g, _, g1, hj.1, hj.2, fun u => ⟨h.t.own g2 (set_grown _ _ _ _), ?_, .inr ⟨g, g1, g2, ⟨_, blk_setA g3 _ _, by simpa using g4⟩, g5⟩⟩⟩
    have := h.c
    unfold World.cell? at this ⊢
    rw [set_other (fun e => g5 e.symm)]
    exact this
theorem drew_below (W : World) {w : World} (h : w.heap.size ≤ W.heap.size) : Below w.heap.size W W.drew := (gr_below (.refl _ _) h ((Gr.refl W).drew))
theorem alloc_below (W : World) (o : Obj) : Below W.heap.size W (W.alloc o) := gr_below (.refl _ _) (Nat.le_refl _) ((Gr.refl W).alloc o)
theorem TwO.box {w0 : World} {E : Nat → Prop} {cb sb tb rb : Nat} {K K' : Ca} {R : Rc} {W w4 : World} {i v0 v1 v2 : Int} {b : Bool} (o : TwO w0 E cb sb tb rb K R W i v0 v1 v2 b K' w4) : Tw w0 (fun b => E b ∨ b = w4.heap.size) cb sb tb rb K' R (w4.alloc (.cells [Value.int .i64 v0, .int .i64 v1, .int .i64 v2].toArray 36)) := (o.s.t.add (alloc_below _ _)).less fun b hb => hb.imp id fun h => ⟨by omega, by simp; omega⟩
theorem TwA.of2 {w0 : World} {cb sb tb rb : Nat} {K' : Ca} {R' : Rc} {W w5 : World} {E : Nat → Prop} (s : TwS w0 E cb sb tb rb K' R' W w5) (g : Agr K' R') (o : Obj) : TwA w0 cb sb tb rb K' R' (w5.alloc o) := ⟨(s.t.less fun _ h => h.elim).gr (alloc_below _ _), g⟩
/-- While the dirty ones are asked. -/
structure Dlp (w0 : World) (cb sb tb rb bd : Nat) (K : Ca) (R : Rc) (d0 d1 d2 d3 : Int) (W : World) : Prop where
  t : Tw w0 (fun b => b = bd) cb sb tb rb K R W
  d : W.heap[bd]? = some (.cells [Value.int .u64 d0, .int .u64 d1, .int .u64 d2, .int .u64 d3].toArray 53)
theorem Dlp.gr {w0 : World} {cb sb tb rb bd : Nat} {K : Ca} {R : Rc} {d0 d1 d2 d3 : Int} {W W' : World} (h : Dlp w0 cb sb tb rb bd K R d0 d1 d2 d3 W) (g : Gr W W') : Dlp w0 cb sb tb rb bd K R d0 d1 d2 d3 W' := ⟨h.t.gr' g, blk_gr h.d g⟩
theorem Tw.cdt {w0 : World} {E : Nat → Prop} {cb sb tb rb : Nat} {K : Ca} {R : Rc} {W : World} (h : Tw w0 E cb sb tb rb K R W) {k : Nat} (hk : k < 256) : W.cell? ⟨rb, 3841 + k, none⟩ = some (.bool (R.dt k)) := by
  obtain ⟨Z, c, _⟩ := h.r
  exact (c.cd hk).1
theorem box4R {W : World} {b : Nat} {v0 v1 v2 v3 : Value} {t : TypeId} (h : W.heap[b]? = some (.cells [v0, v1, v2, v3].toArray t)) : W.cell? ⟨b, 0, none⟩ = some v0 ∧ W.cell? ⟨b, 1, none⟩ = some v1 ∧ W.cell? ⟨b, 2, none⟩ = some v2 ∧ W.cell? ⟨b, 3, none⟩ = some v3 := by
  have hh := blk_hold h
  exact ⟨(hh 0 (by simp)).1, (hh 1 (by simp)).1, (hh 2 (by simp)).1, (hh 3 (by simp)).1⟩
/-- What the law leans on. -/
structure LawP (P : Program) : Prop where
  pl : ∀ {w : World} {ca : Option Addr} {cards : List Cd}, CsI w ca cards → ∀ cc, Calls P 13 #[.slice ca cards.length cc] w (PlOK w cards)
  nw : ∀ {Z : Nat → Prop} {w : World} {ca : Option Addr} {cards : List Cd}, Cs Z w ca cards → ∀ cc, Calls P 7 #[.slice ca cards.length cc] w (NewOK Z w cards)
  rn : ∀ {Z : Nat → Prop} {w W : World} {ca : Option Addr} {cards : List Cd}, Cs Z w ca cards → ∀ cc, Below w.heap.size w W → Calls P 14 #[.slice ca cards.length cc] W fun e w' => e = .returned (.pointer (some ⟨W.heap.size, 0, none⟩)) ∧ RcAt Z w' W.heap.size (rc0 cards) ∧ Gr W w'
  sh : ∀ {Z : Nat → Prop} {w : World} {ob : List Value} {x : Hd}, ObI Z w ob x → Calls P 15 #[.agg ob.toArray] w (ShOK w x)
  pu : ∀ {w0 : World} {E Zo : Nat → Prop} {cb sb tb rb : Nat} {K : Ca} {R : Rc} {W : World}, Tw w0 E cb sb tb rb K R W → ∀ {ob : List Value} {x : Hd}, ObR Zo W ob x.card x.ctrl x.stamp x.effs → x.cd = cdOf K.cards x.card → ∀ i : Int, Calls P 10 #[.pointer (some ⟨cb, 0, none⟩), .int .i64 i, .agg ob.toArray] W fun e w' => e = .returned (.tuple #[]) ∧ TwS w0 E cb sb tb rb (kput K i x) R W w'
  rpu : ∀ {w0 : World} {E Zo : Nat → Prop} {cb sb tb rb : Nat} {K : Ca} {R : Rc} {W : World}, Tw w0 E cb sb tb rb K R W → ∀ {ob : List Value} {x : Hd}, ObR Zo W ob x.card x.ctrl x.stamp x.effs → ∀ i : Int, Calls P 16 #[.pointer (some ⟨rb, 0, none⟩), .int .i64 i, .agg ob.toArray] W fun e w' => e = .returned (.tuple #[]) ∧ TwS w0 E cb sb tb rb K (rput R i x) W w'
  ta : ∀ {w0 : World} {E : Nat → Prop} {cb sb tb rb : Nat} {K : Ca} {R : Rc} {W : World}, Tw w0 E cb sb tb rb K R W → ∀ i : Int, Calls P 17 #[.pointer (some ⟨cb, 0, none⟩), .int .i64 i] W fun e w' => e = .returned (.tuple #[]) ∧ TwS w0 E cb sb tb rb (ktake K i) R W w'
  rta : ∀ {w0 : World} {E : Nat → Prop} {cb sb tb rb : Nat} {K : Ca} {R : Rc} {W : World}, Tw w0 E cb sb tb rb K R W → ∀ i : Int, Calls P 18 #[.pointer (some ⟨rb, 0, none⟩), .int .i64 i] W fun e w' => e = .returned (.tuple #[]) ∧ TwS w0 E cb sb tb rb K (rtake R i) W w'
  of : ∀ {w0 : World} {E : Nat → Prop} {cb sb tb rb : Nat} {K : Ca} {R : Rc} {W : World}, Tw w0 E cb sb tb rb K R W → ∀ i : Int, Calls P 11 #[.pointer (some ⟨cb, 0, none⟩), .int .i64 i] W fun e w' => ∃ v0 v1 v2 b K', e = .returned (.tuple #[.agg #[.int .i64 v0, .int .i64 v1, .int .i64 v2], .bool b]) ∧ TwO w0 E cb sb tb rb K R W i v0 v1 v2 b K' w'
  rof : ∀ {w0 : World} {E : Nat → Prop} {cb sb tb rb : Nat} {K K' : Ca} {R : Rc} {W : World}, Tw w0 E cb sb tb rb K' R W → Agr K R → ∀ {i v0 v1 v2 : Int} {b : Bool}, OfV K i (optR b (v0, v1, v2)) → (b = false → v0 = 0 ∧ v1 = 0 ∧ v2 = 0) → AftO K i K' → Calls P 19 #[.pointer (some ⟨rb, 0, none⟩), .int .i64 i] W fun e w' => e = .returned (.tuple #[.agg #[.int .i64 v0, .int .i64 v1, .int .i64 v2], .bool b]) ∧ ∃ R', TwS w0 E cb sb tb rb K' R' W w' ∧ Agr K' R'
  di : ∀ {w0 : World} {E : Nat → Prop} {cb sb tb rb : Nat} {K : Ca} {R : Rc} {W : World}, Tw w0 E cb sb tb rb K R W → Calls P 20 #[.pointer (some ⟨cb, 0, none⟩)] W (DirOK K W)
  ha : ∀ {d0 d1 d2 d3 : Int} {dt : Int → Bool}, Bt d0 d1 d2 d3 dt → ∀ {i : Nat}, i < 256 → ∀ w, Calls P 21 #[.agg (encB4 d0 d1 d2 d3), .int .i64 i] w fun e w' => e = .returned (.bool (dt i)) ∧ Gr w w'
  wo : ∀ w, Calls P 12 #[] w fun e w' => e = .returned (.bool true) ∧ Below w.heap.size w w'
theorem AsI.at {w : World} {la : Option Addr} {l : List Ac} (h : AsI w la l) {i : Nat} {y : Ac} (hy : l[i]? = some y) : ∃ (B O : Nat) (ob : List Value), la = some ⟨B, O, none⟩ ∧ ObI (fun b => b < w.heap.size) w ob y.x ∧ ∀ (P : Program) W, Below w.heap.size w W → Sem.run P (loadCellsFrom ⟨B, O + i * 16, none⟩ 0 16 #[]) W = .ok (.int .i64 y.what :: .int .i64 y.slot :: ob).toArray W := by
  obtain ⟨rs, r1, r2, r3⟩ := h.x
  have hi : i < rs.length := by rw [r2]; exact (List.getElem?_eq_some_iff.1 hy).1
  have hr : rs[i]? = some rs[i] := List.getElem?_eq_getElem hi
  obtain ⟨ob, e, ho⟩ := (r3 i _ y hr hy).x
  have hl : rs[i].length = 16 := by
    rw [e]
    show ob.length + 1 + 1 = 16
    rw [ho.len]
  obtain ⟨B, O, ea, _, _, _⟩ := r1.ld default hr hl
  refine ⟨B, O, ob, ea, ho, fun P W hW => ?_⟩
  obtain ⟨B', O', ea', _, _, hld⟩ := r1.ld P hr hl
  rw [ea] at ea'
  injection ea' with ea'
  injection ea' with e1 e2
  subst e1 e2
  rw [← e]
  exact hld W (Kz.below hW)
theorem ObI.below {Z : Nat → Prop} {w W : World} {ob : List Value} {x : Hd} (h : ObI Z w ob x) (g : Below w.heap.size w W) : ObI Z W ob x := by
  obtain ⟨ea, ec, e1, e2, e3⟩ := h.ef
  exact ⟨h.len, h.one, h.q1, h.q3, h.q9, ⟨ea, ec, e1, e2, e3.keep (Kz.below g)⟩⟩
/-- A part of a block, loaded. -/
theorem sub_ld (P : Program) {W : World} {b k : Nat} {A B : List Value} {t : TypeId} (h : W.heap[b]? = some (.cells (A ++ B).toArray t)) (hk : B.length = k) : Sem.run P (loadCellsFrom ⟨b, A.length, none⟩ 0 k #[]) W = .ok B.toArray W :=
  run_loadCellsFrom_list P _ _ _ k hk fun j v hv => by
    have hj := (List.getElem?_eq_some_iff.1 hv).1
    rw [Addr.add_lit]
    exact hold_cell (blk_hold h) (by rw [List.getElem?_append_right (by omega), Nat.add_sub_cancel_left]; exact hv)
set_option pp.maxSteps 100000 in
set_option maxHeartbeats 40000000 in
set_option maxRecDepth 100000 in
theorem law4_calls {P : Program} {k30 k82 k89 k92 k59 k46 : Nat} {y30 y82 y89 y92 y59 y46 : List Value} (L : LayQ P k30 k82 k89 k92 y30 y82 y89 y92) (V : LayV P k59 y59) (Y : LayW P k46 y46) (C : LawP P) (h30 : k30 = 14) (h46 : k46 = 16) (hy30 : y30.length = k30) (hy46 : y46.length = k46) {w : World} {ca la : Option Addr} {cards : List Cd} {l : List Ac} (hC : CsI w ca cards) (hL : AsI w la l) (cc lc : Nat) : Calls P 4 #[.slice ca cards.length cc, .slice la l.length lc] w fun e w' => e = .returned (.bool true) ∧ Below w.heap.size w w' := by
  have mixed := L.mixed; have t3 := L.t3; have qt3 := run_underlying L.t3; have a3 := L.a3; have z3 := L.z3; have v3 := L.v3; have t4 := L.t4; have qt4 := run_underlying L.t4; have a4 := L.a4; have z4 := L.z4; have v4 := L.v4; have t26 := L.t26; have qt26 := run_underlying L.t26; have a26 := L.a26; have z26 := L.z26; have v26 := L.v26; have t28 := L.t28; have qt28 := run_underlying L.t28; have a28 := L.a28; have z28 := L.z28; have v28 := L.v28; have t80 := L.t80; have qt80 := run_underlying L.t80; have a80 := L.a80; have z80 := L.z80; have v80 := L.v80; have t30 := L.t30; have qt30 := run_underlying L.t30; have a30 := L.a30; have z30 := L.z30; have v30 := L.v30; have t82 := L.t82; have qt82 := run_underlying L.t82; have a82 := L.a82; have z82 := L.z82; have v82 := L.v82; have e38 := V.e38; have e39 := V.e39; have e40 := V.e40; have e41 := V.e41; have e42 := V.e42; have e43 := V.e43; have e44 := V.e44; have t43 := V.t43; have qt43 := run_underlying V.t43; have a43 := V.a43; have z43 := V.z43; have v43 := V.v43; have t59 := V.t59; have qt59 := run_underlying V.t59; have a59 := V.a59; have z59 := V.z59; have v59 := V.v59; have t56 := V.t56; have qt56 := run_underlying V.t56; have a56 := V.a56; have z56 := V.z56; have t57 := V.t57; have qt57 := run_underlying V.t57; have a57 := V.a57; have z57 := V.z57; have z9 := V.z9; have z79 := V.z79
  have e7 := Y.e7; have e10 := Y.e10; have e11 := Y.e11; have e12 := Y.e12; have e13 := Y.e13; have e14 := Y.e14; have e15 := Y.e15; have e16 := Y.e16; have e17 := Y.e17; have e18 := Y.e18; have e19 := Y.e19; have e20 := Y.e20; have e21 := Y.e21; have t41 := Y.t41; have qt41 := run_underlying Y.t41; have a41 := Y.a41; have z41 := Y.z41; have t46 := Y.t46; have qt46 := run_underlying Y.t46; have a46 := Y.a46; have z46 := Y.z46; have v46 := Y.v46; have eq36 := Y.eq36; have g36 := Y.g36
  have t36 := L.t36; have qu36 := run_underlying L.t36; have a36 := L.a36; have z36 := L.z36; have v36 := L.v36; have qu49 := run_underlying L.t49; have a49 := L.a49; have z49 := L.z49; have v49 := L.v49; have qu53 := run_underlying L.t53; have a53 := L.a53; have z53 := L.z53; have v53 := L.v53; have t24 := L.t24; have a24 := L.a24; have z24 := L.z24
  have HP : Aside (LawP P) := C
  have HCI : Aside (CsI w ca cards) := hC
  have HLI : Aside (AsI w la l) := hL
  have H30 : Aside (k30 = 14) := h30
  have H46 : Aside (k46 = 16) := h46
  have HY30 : Aside (y30.length = k30) := hy30
  have HY46 : Aside (y46.length = k46) := hy46
  clear C hC hL h30 h46 hy30 hy46
  go_enter Y.f4, Try.ntmps4
  go_upto_region 5 with (first | (go_at_fn 13; refine (HP.out.pl HCI.out cc).mono ?_; rintro e w1 ⟨a1, c1, rfl, hcs, hB⟩; generalize (cards.take 12).map ct = cs at hcs ⊢; have HCS : Aside (Cs _ _ _ _) := hcs; have HB1 : Aside (Below _ _ _) := hB; clear hcs hB) | (go_at_fn 7; refine (HP.out.nw HCS.out c1).mono ?_; rintro e w2 ⟨cb, sb, tb, rfl, p1, p2, p3, hca, hB2⟩; have HCA : Aside _ := And.intro p1 (And.intro p2 (And.intro p3 (And.intro hca hB2))); clear p1 p2 p3 hca hB2) | (go_at_fn 14; refine (HP.out.rn HCS.out c1 HCA.out.2.2.2.2).mono ?_; rintro e w3 ⟨rfl, hr, hg⟩; have HR : Aside _ := And.intro hr hg; clear hr hg))
  have S0 : Aside (TwA w cb sb tb w2.heap.size (Ca.new cs) (rc0 cs) w3) := twA_start HB1.out HCA.out.1 HCA.out.2.1 HCA.out.2.2.1 HCA.out.2.2.2.1 HCA.out.2.2.2.2 HR.out.1 HR.out.2
  clear HB1 HCA HR HCS HCI
  generalize w2.heap.size = rb at S0 ⊢
  go_wp2
  go_loopg [7] l.length (fun kx s7 wr => ∃ (i : Nat) (K : Ca) (R : Rc), s7 = .int .i64 i ∧ i ≤ l.length ∧ i ≤ 50 ∧ l.length - i ≤ kx ∧ Aside (TwA w cb sb tb rb K R wr))
  case atStart => exact ⟨0, _, _, rfl, Nat.zero_le _, Nat.zero_le _, Nat.le_refl _, S0⟩
  case round =>
    clear S0
    obtain ⟨i, KC, R, rfl, hi, hi50, hkx, S1⟩ := hrel
    have wi : IntKind.i64.wrap ((i : Int) + 1) = (i : Int) + 1 := by rw [IntKind.wrap_i64]; omega
    by_cases hlt : i < l.length
    · have hltz : (i : Int) < (l.length : Int) := by omega
      by_cases h50 : i < 50
      · have h50z : (i : Int) < 50 := by omega
        obtain ⟨y, hy⟩ : ∃ y, l[i]? = some y := ⟨_, List.getElem?_eq_getElem hlt⟩
        obtain ⟨B, O, ob, rfl, hob, hld⟩ := HLI.out.at hy
        have lR : Sem.run P (loadCellsFrom ⟨B, O + i * k46, none⟩ 0 k46 #[]) wr = .ok (.int .i64 y.what :: .int .i64 y.slot :: ob).toArray wr := by
          rw [H46.out]
          exact hld P wr S1.out.t.b
        have rl : (.int .i64 y.what :: .int .i64 y.slot :: ob : List Value).length = k46 := by
          rw [H46.out]
          show ob.length + 1 + 1 = 16
          rw [hob.len]
        have ro : ∀ v ∈ (.int .i64 y.what :: .int .i64 y.slot :: ob : List Value), v.oneCell' = true := fun v hv => by
          rcases List.mem_cons.1 hv with rfl | hv
          · rfl
          · rcases List.mem_cons.1 hv with rfl | hv
            · rfl
            · exact hob.one v hv
        have HOB : Aside (ObI (fun b => b < w.heap.size) w ob y.x) := hob
        obtain ⟨rr, hrr⟩ : ∃ rr : List Value, rr = .int .i64 y.what :: .int .i64 y.slot :: ob := ⟨_, rfl⟩
        rw [← hrr] at lR rl ro
        have HRR : Aside (rr = .int .i64 y.what :: .int .i64 y.slot :: ob) := hrr
        have bw := blk_new wr (.cells y46.toArray 46)
        have sA := hold_st P (blk_hold bw) rr (rl.trans HY46.out.symm) ro
        have HBX : Aside (((wr.alloc (.cells y46.toArray 46)).setCells wr.heap.size 0 rr).heap[wr.heap.size]? = some (.cells rr.toArray 46)) := blk_put bw rr (rl.trans HY46.out.symm)
        have B1 : Aside (Below wr.heap.size wr ((wr.alloc (.cells y46.toArray 46)).setCells wr.heap.size 0 rr)) := below_sets (Nat.le_refl _) _ _ (gr_below (.refl _ _) (Nat.le_refl _) ((Gr.refl _).alloc _))
        have hbx := Nat.le_refl wr.heap.size
        have HBXL : Aside (wr.heap.size ≤ wr.heap.size) := hbx
        clear hld hob hrr bw ro hy hbx
        go_upto_region 9 with fail
        clear lR sA
        generalize ((wr.alloc (.cells y46.toArray 46)).setCells wr.heap.size 0 rr) = W1 at HBX B1 ⊢
        generalize hbb : wr.heap.size = bx at HBX ⊢
        have HBXE : Aside (wr.heap.size = bx) := hbb
        clear hbb HBXL
        have hbx' := HBX.out
        rw [HRR.out] at hbx'
        have lO : Sem.run P (loadCellsFrom ⟨bx, 2, none⟩ 0 k30 #[]) W1 = .ok ob.toArray W1 := sub_ld P (A := [.int .i64 y.what, .int .i64 y.slot]) hbx' (HOB.out.len.trans H30.out.symm)
        have hsh := HP.out.sh (HOB.out.below (S1.out.t.b.trans (B1.out.mono S1.out.t.b.size)))
        have n30 : ¬ k30 = 0 := by rw [H30.out]; decide
        clear hbx'
        go_upto_region 10 with (first | (go_at_fn 15; refine hsh.mono ?_; rintro e w2 ⟨ob1, rfl, hs⟩; have HS : Aside (ShO W1 y.x ob1 w2) := hs; have ol1 : ob1.length = k30 := hs.o.len.trans H30.out.symm; have sO := hold_st P (blk_hold (blk_new w2 (.cells y30.toArray 30))) ob1 (ol1.trans HY30.out.symm) hs.o.one; clear hs hsh))
        obtain ⟨E, hE⟩ := rnd_start S1.out.t HBX.out B1.out (Nat.le_of_eq HBXE.out) HS.out (ol1.trans HY30.out.symm)
        have RN : Aside (Rnd w E cb sb tb rb bx w2.heap.size KC R rr ob1 (hxK KC y.x) ((w2.alloc (.cells y30.toArray 30)).setCells w2.heap.size 0 ob1)) := hE
        have AG : Aside (Agr KC R) := S1.out.g
        have HLO : Aside (∀ W : World, W.heap[bx]? = some (.cells rr.toArray 46) → Sem.run P (loadCellsFrom ⟨bx, 2, none⟩ 0 k30 #[]) W = .ok ob.toArray W) := fun W hW => by
          rw [HRR.out] at hW
          exact sub_ld P (A := [.int .i64 y.what, .int .i64 y.slot]) hW (HOB.out.len.trans H30.out.symm)
        have HSL : Aside (∀ W : World, W.heap[bx]? = some (.cells rr.toArray 46) → W.cell? ⟨bx, 1, none⟩ = some (.int .i64 y.slot)) := fun W hW => by
          rw [HRR.out] at hW
          exact hold_cell (blk_hold hW) (j := 1) rfl
        have hx0 := RN.out.hx
        have c1 := HSL.out _ hx0
        rw [HRR.out] at hx0
        have c0 := hold_cell (blk_hold hx0) (j := 0) (v := .int .i64 y.what) rfl
        have lB := hold_ld P (blk_hold RN.out.ho) ol1
        clear hE sO hx0 lO S1 HS HBX HBXE B1 HRR
        generalize ((w2.alloc (.cells y30.toArray 30)).setCells w2.heap.size 0 ob1) = W3 at RN c0 c1 lB ⊢
        generalize w2.heap.size = bo at RN lB ⊢
        generalize y.slot = slot at HSL c1
        generalize y.x = yx at HOB RN
        obtain ⟨what, hwhat⟩ : ∃ q, q = y.what := ⟨_, rfl⟩
        rw [← hwhat] at c0
        clear hwhat
        go_upto_block 2 with fail
        go_cut [10, 11, 12, 13, 14, 15, 16, 17, 18, 19] from 49 to 134 (fun _ _ _ _ _ _ _ _ _ _ wc => ∃ KC' R', Aside (TwA w cb sb tb rb KC' R' wc))
        case first =>
          by_cases h012 : what = 0 ∨ what = 1 ∨ what = 2
          · rcases h012 with rfl | rfl | rfl
            all_goals
              have hpu := HP.out.pu RN.out.t (x := hxK KC yx) RN.out.hr rfl slot
              go_upto_region 22 with (first | (go_at_fn 10; refine hpu.mono ?_; rintro e w4 ⟨rfl, hs⟩; have RN4 : Aside (Rnd w E cb sb tb rb bx bo (kput KC slot (hxK KC yx)) R rr ob1 (hxK KC yx) w4) := RN.out.step hs; clear hs hpu))
              clear c0 c1 lB
              have OB0 : w4.drew.heap[bx]? = some (.cells rr.toArray 46) := RN4.out.hx
              refine wp_region_held_drew (S := fun W => W.heap[bx]? = some (.cells rr.toArray 46)) mixed OB0 (fun hHeld => ?_)
              refine wpAnyH_take (i := 0) (v := .pointer (some ⟨rb, 0, none⟩)) rfl (by kernel_rfl) (by kernel_rfl) (by kernel_rfl) (fun _ _ _ h => h) (Or.inl ⟨by rfl, ?_⟩) hHeld ?_
              · intro W hW
                clear hW hHeld OB0
                go_simp
              simp only [Act.put, List.getElem_toArray, List.getElem_cons_zero, List.setIfInBounds_toArray, List.set_cons_zero, List.set_cons_succ]
              refine wpAnyH_take (i := 1) (v := .pointer (some ⟨bx, 1, none⟩)) rfl (by kernel_rfl) (by kernel_rfl) (by kernel_rfl) (fun _ _ _ h => h) (Or.inl ⟨by rfl, ?_⟩) hHeld ?_
              · intro W hW
                clear hW hHeld OB0
                go_simp
              simp only [Act.put, List.getElem_toArray, List.getElem_cons_zero, List.getElem_cons_succ, List.setIfInBounds_toArray, List.set_cons_zero, List.set_cons_succ]
              refine wpAnyH_take (i := 2) (v := .int .i64 slot) rfl (by kernel_rfl) (by kernel_rfl) (by kernel_rfl) (fun _ _ _ h => h) (Or.inl ⟨by rfl, ?_⟩) hHeld ?_
              · intro W hW
                have hq := HSL.out W hW
                clear hW hHeld OB0
                go_simp
              simp only [Act.put, List.getElem_toArray, List.getElem_cons_zero, List.getElem_cons_succ, List.setIfInBounds_toArray, List.set_cons_zero, List.set_cons_succ]
              refine wpAnyH_take (i := 3) (v := .pointer (some ⟨bx, 2, none⟩)) rfl (by kernel_rfl) (by kernel_rfl) (by kernel_rfl) (fun _ _ _ h => h) (Or.inl ⟨by rfl, ?_⟩) hHeld ?_
              · intro W hW
                clear hW hHeld OB0
                go_simp
              simp only [Act.put, List.getElem_toArray, List.getElem_cons_zero, List.getElem_cons_succ, List.setIfInBounds_toArray, List.set_cons_zero, List.set_cons_succ]
              refine wpAnyH_take (i := 4) (v := .agg ob.toArray) rfl (by kernel_rfl) (by kernel_rfl) (by kernel_rfl) (fun _ _ _ h => h) (Or.inl ⟨by rfl, ?_⟩) hHeld ?_
              · intro W hW
                have hq := HLO.out W hW
                clear hW hHeld OB0
                go_simp
              simp only [Act.put, List.getElem_toArray, List.getElem_cons_zero, List.getElem_cons_succ, List.setIfInBounds_toArray, List.set_cons_zero, List.set_cons_succ]
              refine wpAnyH_ready (rs := [5]) (by kernel_rfl) (by simp) ?_
              refine AllReadyH.cons rfl (fun K hK => ?_) AllReadyH.nil
              go_simp
              refine (HP.out.sh (HOB.out.below (RN4.out.t.b.trans (drew_below w4 RN4.out.t.b.size)))).mono ?_
              rintro e w5 ⟨ob2, rfl, hs⟩
              have HS5 : Aside (ShO w4.drew yx ob2 w5) := hs
              have RN5 : Aside (Rnd w E cb sb tb rb bx bo (kput KC slot (hxK KC yx)) R rr ob1 (hxK KC yx) w5) := (RN4.out.gr (gr_below (.refl _ _) (Nat.le_refl _) ((Gr.refl w4).drew))).gr hs.b
              clear hs
              refine hK.out _ _ RN5.out.hx (fun hHeld => ?_)
              clear hK K
              refine wpAnyH_ready (rs := [6]) (by kernel_rfl) (by simp) ?_
              refine AllReadyH.cons rfl (fun K hK => ?_) AllReadyH.nil
              go_simp
              refine (HP.out.rpu RN5.out.t (x := hxK KC yx) HS5.out.o slot).mono ?_
              rintro e w6 ⟨rfl, hs⟩
              have RN6 : Aside (Rnd w E cb sb tb rb bx bo (kput KC slot (hxK KC yx)) (rput R slot (hxK KC yx)) rr ob1 (hxK KC yx) w6) := RN5.out.step hs
              clear hs
              refine hK.out _ _ RN6.out.hx (fun hHeld => ?_)
              clear hK K
              refine wpAnyH_done (by kernel_rfl) ?_ _
              clear OB0 hHeld RN RN4 RN5 HS5
              have AG2 : Aside (Agr (kput KC slot (hxK KC yx)) (rput R slot (hxK KC yx))) := AG.out.put' slot (by show cdOf KC.cards yx.card = cdOf R.cards yx.card; rw [AG.out.c])
              obtain ⟨va, vc, hw⟩ := RN6.out.rw
              have RW : Aside (Rw w E cb sb tb rb bo (kput KC slot (hxK KC yx)) (rput R slot (hxK KC yx)) va (hxK KC yx).effs.length vc w6) := hw
              clear hw RN6
              have hn12 : (hxK KC yx).effs.length ≤ 12 := by show (yx.effs.take 12).length ≤ 12; rw [List.length_take]; omega
              generalize (hxK KC yx).effs.length = n at RW hn12
              generalize kput KC slot (hxK KC yx) = K2 at RW AG2
              generalize rput R slot (hxK KC yx) = R2 at RW AG2
              go_wp2
              go_loopg [10] n (fun kx s10 wr => ∃ k : Nat, s10 = .int .i64 k ∧ k ≤ n ∧ n - k ≤ kx ∧ Aside (Rw w E cb sb tb rb bo K2 R2 va n vc wr))
              case atStart => exact ⟨0, rfl, Nat.zero_le _, Nat.le_refl _, RW⟩
              case round =>
                clear RW
                obtain ⟨k, rfl, hk, hkx2, RW⟩ := hrel
                have wk : IntKind.i64.wrap ((k : Int) + 1) = (k : Int) + 1 := by rw [IntKind.wrap_i64]; omega
                have c13 := RW.out.c
                by_cases hkn : k < n
                · have hknz : (k : Int) < (n : Int) := by omega
                  obtain ⟨g, v, rfl, d1, d2, hset⟩ := RW.out.wr hkn
                  have RW2 : Aside (Rw w E cb sb tb rb bo K2 R2 (some ⟨g, 0, none⟩) n vc (wr.setCell ⟨g, k * 4, none⟩ (.int .i64 9))) := hset _
                  clear hset RW
                  go_wp2
                  go_roundg (n - (k + 1))
                  case measure => omega
                  case rel => exact ⟨k + 1, by first | rfl | go_num, by omega, Nat.le_refl _, RW2⟩
                · have hknz : ¬ (k : Int) < (n : Int) := by omega
                  have SA : Aside (TwA w cb sb tb rb K2 R2 wr) := (show TwA w cb sb tb rb K2 R2 wr from ⟨RW.out.t.less fun _ h => h.elim, AG2.out⟩)
                  clear RW
                  go_wp2
                  go_meet
                  case rel => exact ⟨_, _, SA⟩
          · have ST : Aside (TwA w cb sb tb rb KC R W3) := (show TwA w cb sb tb rb KC R W3 from ⟨RN.out.t.less fun _ h => h.elim, AG.out⟩)
            have b0 : (what == 0) = false := by simpa using fun h => h012 (.inl h)
            have b1 : (what == 1) = false := by simpa using fun h => h012 (.inr (.inl h))
            have b2 : (what == 2) = false := by simpa using fun h => h012 (.inr (.inr h))
            have TX : Aside (Tw w (fun b => b = bx) cb sb tb rb KC R W3) := RN.out.t.less fun b hb => hb ▸ RN.out.ex
            have HXX : Aside (W3.heap[bx]? = some (.cells rr.toArray 46)) := RN.out.hx
            clear h012 lB RN HLO
            by_cases h3 : what = 3
            · subst h3
              have hta := HP.out.ta TX.out slot
              go_upto_region 29 with (first | (go_at_fn 17; refine hta.mono ?_; rintro e w4 ⟨rfl, hs⟩; have T4 : Aside (TwS w (fun b => b = bx) cb sb tb rb (ktake KC slot) R W3 w4) := hs; clear hs hta))
              clear c0 c1
              have c1 := HSL.out w4 ((T4.out.k bx rfl).trans HXX.out)
              have hrta := HP.out.rta T4.out.t slot
              have AG2 : Aside (Agr (ktake KC slot) (rtake R slot)) := AG.out.take' slot
              clear ST TX
              go_wp2_with (first | (go_at_fn 18; refine hrta.mono ?_; rintro e w5 ⟨rfl, hs⟩; have SA : Aside (TwA w cb sb tb rb (ktake KC slot) (rtake R slot) w5) := (show TwA w cb sb tb rb (ktake KC slot) (rtake R slot) w5 from ⟨hs.t.less fun _ h => h.elim, AG2.out⟩); clear hs hrta))
              go_meet
              case rel => exact ⟨_, _, SA⟩
            · have b3 : (what == 3) = false := by simpa using h3
              by_cases h4 : what = 4
              · subst h4
                have hof := HP.out.of TX.out slot
                go_upto_region 32 with (first | (go_at_fn 11; refine hof.mono ?_; rintro e w4 ⟨v0, v1, v2, bb, K4, rfl, ho⟩; have T4 : Aside (TwO w (fun b => b = bx) cb sb tb rb KC R W3 slot v0 v1 v2 bb K4 w4) := ho; clear ho hof))
                have X4 : Aside ((w4.alloc (.cells [Value.int .i64 v0, .int .i64 v1, .int .i64 v2].toArray 36)).heap[w4.heap.size]? = some (.cells [Value.int .i64 v0, .int .i64 v1, .int .i64 v2].toArray 36)) := blk_new w4 _
                have hrof := HP.out.rof T4.out.box AG.out T4.out.v T4.out.z T4.out.a
                clear c0 c1
                have c1 := HSL.out _ ((((alloc_below w4 (.cells [Value.int .i64 v0, .int .i64 v1, .int .i64 v2].toArray 36)).block bx (T4.out.s.t.e bx rfl).2.1).trans (T4.out.s.k bx rfl)).trans HXX.out)
                go_upto_region 33 with (first | (go_at_fn 19; refine hrof.mono ?_; rintro e w5 ⟨rfl, R5, hs, hg⟩; have SA : Aside (TwA w cb sb tb rb K4 R5 (w5.alloc (.cells [Value.int .i64 v0, .int .i64 v1, .int .i64 v2].toArray 36))) := TwA.of2 hs hg _; have X5 : Aside (w5.heap[w4.heap.size]? = some (.cells [Value.int .i64 v0, .int .i64 v1, .int .i64 v2].toArray 36)) := (hs.k w4.heap.size (.inr rfl)).trans X4.out; clear hs hg hrof))
                obtain ⟨x0, x1, x2, _⟩ := box3R (blk_old X5.out (.cells [Value.int .i64 v0, .int .i64 v1, .int .i64 v2].toArray 36))
                obtain ⟨y0, y1, y2, _⟩ := box3R (blk_new w5 (.cells [Value.int .i64 v0, .int .i64 v1, .int .i64 v2].toArray 36))
                have bbn : (bb != bb) = false := by simp
                clear ST TX T4 X4 X5
                go_wp2
                go_meet
                case rel => exact ⟨_, _, SA⟩
              · have b4 : (what == 4) = false := by simpa using h4
                clear TX HXX c0 c1 AG
                go_wp2
                go_loopg [15] 258 (fun kx s15 wr => ∃ (k : Nat) (K : Ca) (R : Rc), s15 = .int .i64 k ∧ k ≤ 258 ∧ 258 - k ≤ kx ∧ Aside (TwA w cb sb tb rb K R wr))
                case atStart => exact ⟨0, _, _, rfl, Nat.zero_le _, Nat.le_refl _, ST⟩
                case round =>
                  clear ST
                  obtain ⟨k, KC, R, rfl, hk, hkx2, ST⟩ := hrel
                  have AG : Aside (Agr KC R) := ST.out.g
                  by_cases hkn : k < 256
                  · have hknz : (k : Int) < 256 := by omega
                    have wk : IntKind.i64.wrap ((k : Int) + 3) = (k : Int) + 3 := by rw [IntKind.wrap_i64]; omega
                    have hof := HP.out.of ST.out.t k
                    go_upto_region 15 with (first | (go_at_fn 11; refine hof.mono ?_; rintro e w4 ⟨v0, v1, v2, bb, K4, rfl, ho⟩; have T4 : Aside (TwO w (fun _ => False) cb sb tb rb KC R wr k v0 v1 v2 bb K4 w4) := ho; clear ho hof))
                    have X4 : Aside ((w4.alloc (.cells [Value.int .i64 v0, .int .i64 v1, .int .i64 v2].toArray 36)).heap[w4.heap.size]? = some (.cells [Value.int .i64 v0, .int .i64 v1, .int .i64 v2].toArray 36)) := blk_new w4 _
                    have hrof := HP.out.rof T4.out.box AG.out T4.out.v T4.out.z T4.out.a
                    go_upto_region 16 with (first | (go_at_fn 19; refine hrof.mono ?_; rintro e w5 ⟨rfl, R5, hs, hg⟩; have SA : Aside (TwA w cb sb tb rb K4 R5 (w5.alloc (.cells [Value.int .i64 v0, .int .i64 v1, .int .i64 v2].toArray 36))) := TwA.of2 hs hg _; have X5 : Aside (w5.heap[w4.heap.size]? = some (.cells [Value.int .i64 v0, .int .i64 v1, .int .i64 v2].toArray 36)) := (hs.k w4.heap.size (.inr rfl)).trans X4.out; clear hs hg hrof))
                    obtain ⟨x0, x1, x2, _⟩ := box3R (blk_old X5.out (.cells [Value.int .i64 v0, .int .i64 v1, .int .i64 v2].toArray 36))
                    obtain ⟨y0, y1, y2, _⟩ := box3R (blk_new w5 (.cells [Value.int .i64 v0, .int .i64 v1, .int .i64 v2].toArray 36))
                    have bbn : (bb != bb) = false := by simp
                    clear ST T4 X4 X5
                    go_wp2
                    go_roundg (258 - (k + 3))
                    case measure => omega
                    case rel => exact ⟨k + 3, _, _, by first | rfl | go_num, by omega, Nat.le_refl _, SA⟩
                  · have hknz : ¬ (k : Int) < 256 := by omega
                    go_wp2
                    go_meet
                    case rel => exact ⟨_, _, ST⟩
        case rest =>
          clear c0 c1 lB RN AG HSL HLO
          obtain ⟨K2, R2, S2⟩ := hcut
          have hdi := HP.out.di S2.out.t
          go_upto_region 36 with (go_at_fn 20; refine hdi.mono ?_; rintro e w4 ⟨d0, d1, d2, d3, rfl, hb, hg⟩; have HBT : Aside (Bt d0 d1 d2 d3 K2.dt) := hb; have D1 : Aside (Dlp w cb sb tb rb w4.heap.size K2 R2 d0 d1 d2 d3 (w4.alloc (.cells [Value.int .u64 d0, .int .u64 d1, .int .u64 d2, .int .u64 d3].toArray 53))) := (show Dlp w cb sb tb rb w4.heap.size K2 R2 d0 d1 d2 d3 (w4.alloc (.cells [Value.int .u64 d0, .int .u64 d1, .int .u64 d2, .int .u64 d3].toArray 53)) from ⟨((S2.out.t.gr' hg).add (alloc_below _ _)).less fun b hb => .inr ⟨(by rw [hb]; exact Nat.le_refl _), (by rw [hb]; simp)⟩, blk_new w4 _⟩); simp only [encB4]; clear hb hg hdi)
          have AG : Aside (Agr K2 R2) := S2.out.g
          clear S2
          change Code.wp P _ _ _ (w4.alloc (.cells [Value.int .u64 d0, .int .u64 d1, .int .u64 d2, .int .u64 d3].toArray 53))
          generalize (w4.alloc (.cells [Value.int .u64 d0, .int .u64 d1, .int .u64 d2, .int .u64 d3].toArray 53)) = W5 at D1 ⊢
          generalize w4.heap.size = bd at D1 ⊢
          go_wp2
          go_loopg [21] 256 (fun kx s21 wr => ∃ k : Nat, s21 = .int .i64 k ∧ k ≤ 256 ∧ 256 - k ≤ kx ∧ Aside (Dlp w cb sb tb rb bd K2 R2 d0 d1 d2 d3 wr))
          case atStart => exact ⟨0, rfl, Nat.zero_le _, Nat.le_refl _, D1⟩
          case round =>
            clear D1
            obtain ⟨k, rfl, hk, hkx2, D1⟩ := hrel
            have wk : IntKind.i64.wrap ((k : Int) + 1) = (k : Int) + 1 := by rw [IntKind.wrap_i64]; omega
            by_cases hkn : k < 256
            · have hknz : (k : Int) < 256 := by omega
              obtain ⟨e0, e1, e2, e3⟩ : (∀ m os, (grow (wr.drewN m) os).cell? ⟨bd, 0, none⟩ = some (.int .u64 d0)) ∧ (∀ m os, (grow (wr.drewN m) os).cell? ⟨bd, 1, none⟩ = some (.int .u64 d1)) ∧ (∀ m os, (grow (wr.drewN m) os).cell? ⟨bd, 2, none⟩ = some (.int .u64 d2)) ∧ (∀ m os, (grow (wr.drewN m) os).cell? ⟨bd, 3, none⟩ = some (.int .u64 d3)) := ⟨fun m os => (box4R (D1.out.gr ⟨m, os, rfl⟩).d).1, fun m os => (box4R (D1.out.gr ⟨m, os, rfl⟩).d).2.1, fun m os => (box4R (D1.out.gr ⟨m, os, rfl⟩).d).2.2.1, fun m os => (box4R (D1.out.gr ⟨m, os, rfl⟩).d).2.2.2⟩
              have z1 : ∀ m os, (grow (wr.drewN m) os).cell? ⟨rb, 3841 + k, none⟩ = some (.bool (K2.dt k)) := fun m os => by
                rw [AG.out.d k hkn]
                exact (D1.out.gr ⟨m, os, rfl⟩).t.cdt hkn
              have h21 : ∀ m os, Calls P 21 #[.agg #[.int .u64 d0, .int .u64 d1, .int .u64 d2, .int .u64 d3], .int .i64 k] (grow (wr.drewN m) os) fun e w' => e = .returned (.bool (K2.dt k)) ∧ Gr (grow (wr.drewN m) os) w' := fun m os => HP.out.ha HBT.out hkn _
              generalize K2.dt (k : Int) = db at z1 h21
              have dbn : (db != db) = false := by simp
              go_upto_region 39 with fail
              refine wp_region_quiet_grown (by assumption) (by kernel_rfl) ?_
              repeat (go_big_quiet_step (first | (go_at_fn 21; exact Calls.grown_of (h21 _ _))))
              refine wpQuiet_nil ?_
              rintro _ ⟨⟨nq, osq⟩, rfl⟩
              have D2 : Aside (Dlp w cb sb tb rb bd K2 R2 d0 d1 d2 d3 (grow (wr.drewN nq) osq)) := D1.out.gr ⟨_, _, rfl⟩
              clear D1 e0 e1 e2 e3 z1 h21
              go_wp2
              go_roundg (256 - (k + 1))
              case measure => omega
              case rel => exact ⟨k + 1, by first | rfl | go_num, by omega, Nat.le_refl _, D2⟩
            · have hknz : ¬ (k : Int) < 256 := by omega
              have SA : Aside (TwA w cb sb tb rb K2 R2 wr) := (show TwA w cb sb tb rb K2 R2 wr from ⟨D1.out.t.less fun _ h => h.elim, AG.out⟩)
              clear D1
              go_wp2
              go_roundg (l.length - (i + 1))
              case measure => omega
              case rel => exact ⟨i + 1, K2, R2, by first | rfl | go_num, by omega, by omega, Nat.le_refl _, SA⟩
      · have h50z : ¬ (i : Int) < 50 := by omega
        have hwo := HP.out.wo wr
        have SB : Aside (Below w.heap.size w wr) := S1.out.t.b
        clear S1
        go_wp2_with (go_at_fn 12; refine hwo.mono ?_; rintro e w9 ⟨rfl, hB9⟩; have HB9 : Aside (Below wr.heap.size wr w9) := hB9; clear hB9)
        go_returns
        exact ⟨rfl, SB.out.trans (HB9.out.mono SB.out.size)⟩
    · have hltz : ¬ (i : Int) < (l.length : Int) := by omega
      have hwo := HP.out.wo wr
      have SB : Aside (Below w.heap.size w wr) := S1.out.t.b
      clear S1
      go_wp2_with (go_at_fn 12; refine hwo.mono ?_; rintro e w9 ⟨rfl, hB9⟩; have HB9 : Aside (Below wr.heap.size wr w9) := hB9; clear hB9)
      go_returns
      exact ⟨rfl, SB.out.trans (HB9.out.mono SB.out.size)⟩
end Go.Proofs.Yticgadnmlbfmfaa.cachePlays
