/-
  Chapter 25: works, walked.
-/
import Derived.Test.YticgadnmlbfmfaaTxL
namespace Go.Proofs.Yticgadnmlbfmfaa.cachePlays
open Go.Shelf Go.RowKit Go.Lib Go.Sort Go.Maps
def obL (card ctrl stamp : Int) : List Value := ((zv30.set 1 (.int .i64 card)).set 3 (.int .i64 ctrl)).set 9 (.int .i64 stamp)
theorem obR (W : World) (card ctrl stamp : Int) : ObR (fun _ => False) W (obL card ctrl stamp) card ctrl stamp [] := by
  refine ⟨rfl, fun v hv => ?_, rfl, rfl, rfl, ⟨none, 0, rfl, .inl rfl⟩, by decide⟩
  simp only [obL, zv30, List.set_cons_succ, List.set_cons_zero, List.mem_cons, List.not_mem_nil, or_false] at hv
  rcases hv with rfl | rfl | rfl | rfl | rfl | rfl | rfl | rfl | rfl | rfl | rfl | rfl | rfl | rfl <;> rfl
def wS1 : Int → Option Hd := fun k => if k = 5 then some ⟨0, 0, 1, [], cdOf fewC 0⟩ else none
def wS2 : Int → Option Hd := fun k => if k = 9 then some ⟨1, 0, 2, [], cdOf fewC 1⟩ else wS1 k
theorem wA1 : actE (K0 wS1) 5 = [] := by kernel_rfl
theorem wA2 : actE (K0 wS2) 5 = [(4, 1, 1, 2)] := by kernel_rfl
theorem wA3 : actE (K0 wS2) 9 = [] := by kernel_rfl
theorem ofS_is {sl : Int → Option Hd} {i : Int} {l : List Ef} (hs : (sl i).isSome = true) (hk : ((K0 sl).at i).cd.kind = 2) (ha : actE (K0 sl) i = l) (hl : IsS l l) : OfS sl i (some (foldE l (((K0 sl).at i).cd.pow, ((K0 sl).at i).cd.tou, ((K0 sl).at i).cd.keys))) := ⟨hs, hk, l, ha ▸ hl, rfl⟩
theorem isS_nil : IsS [] [] := ⟨.refl _, .nil, rfl⟩
theorem isS_one (x : Ef) : IsS [x] [x] := ⟨.refl _, List.pairwise_singleton _ _, rfl⟩
theorem wO1 {b : Bool} {v0 v1 v2 : Int} (h : OfS wS1 5 (optR b (v0, v1, v2))) : (b && v0 == 2 && v1 == 2) = true := by
  have := h.uniq (ofS_is (by decide) (by decide) wA1 isS_nil)
  cases b with
  | false => cases this
  | true =>
    cases this
    decide
theorem wF2 : foldE [(4, 1, 1, 2)] (((K0 wS2).at 5).cd.pow, ((K0 wS2).at 5).cd.tou, ((K0 wS2).at 5).cd.keys) = (3, 3, 0) := by kernel_rfl
theorem wO2 {b : Bool} {v0 v1 v2 : Int} (h : OfS wS2 5 (optR b (v0, v1, v2))) : (b && v0 == 3 && v1 == 3) = true := by
  have := h.uniq (ofS_is (by decide) (by decide) wA2 (isS_one _))
  rw [wF2] at this
  cases b with
  | false => cases this
  | true =>
    cases this
    decide
theorem wO3 {b : Bool} {v0 v1 v2 : Int} (h : OfS wS2 9 (optR b (v0, v1, v2))) : (b && v0 == 1 && v1 == 1) = true := by
  have := h.uniq (ofS_is (by decide) (by decide) wA3 isS_nil)
  cases b with
  | false => cases this
  | true =>
    cases this
    decide
def DirH (D : Int → Prop) (w : World) (e : Ending) (w' : World) : Prop := ∃ d0 d1 d2 d3 dt, e = .returned (.agg #[.int .u64 d0, .int .u64 d1, .int .u64 d2, .int .u64 d3]) ∧ Bt d0 d1 d2 d3 dt ∧ (∀ k, D k → dt k = true) ∧ Gr w w'
theorem has_true {d0 d1 d2 d3 : Int} {dt : Int → Bool} (h : Bt d0 d1 d2 d3 dt) {i : Int} (hi : 0 ≤ i) (hi2 : i < 256) (w : World) (ht : dt i = true) : Calls Try.prog 21 #[.agg #[.int .u64 d0, .int .u64 d1, .int .u64 d2, .int .u64 d3], .int .i64 i] w fun e w' => e = .returned (.bool true) ∧ Gr w w' := by
  refine (has_calls h hi hi2 w).mono ?_
  rintro e w' ⟨rfl, g⟩
  exact ⟨by rw [ht], g⟩
theorem has_two {d0 d1 d2 d3 : Int} {dt : Int → Bool} (h : Bt d0 d1 d2 d3 dt) (h5 : dt 5 = true) (h9 : dt 9 = true) {i : Int} (hi : i = 5 ∨ i = 9) (w : World) : Calls Try.prog 21 #[.agg #[.int .u64 d0, .int .u64 d1, .int .u64 d2, .int .u64 d3], .int .i64 i] w fun e w' => e = .returned (.bool true) ∧ Gr w w' := by
  rcases hi with rfl | rfl
  · exact has_true h (by decide) (by decide) w h5
  · exact has_true h (by decide) (by decide) w h9
theorem set_cells {w : World} {b : Nat} {d0 d1 d2 d3 : Int} (h : w.heap[b]? = some (.cells #[.int .u64 d0, .int .u64 d1, .int .u64 d2, .int .u64 d3] 53)) : w.cell? ⟨b, 0, none⟩ = some (.int .u64 d0) ∧ w.cell? ⟨b, 1, none⟩ = some (.int .u64 d1) ∧ w.cell? ⟨b, 2, none⟩ = some (.int .u64 d2) ∧ w.cell? ⟨b, 3, none⟩ = some (.int .u64 d3) :=
  have hb : w.heap[b]? = some (.cells [Value.int .u64 d0, .int .u64 d1, .int .u64 d2, .int .u64 d3].toArray 53) := h
  ⟨hold_cell (blk_hold hb) (j := 0) rfl, hold_cell (blk_hold hb) (j := 1) rfl, hold_cell (blk_hold hb) (j := 2) rfl, hold_cell (blk_hold hb) (j := 3) rfl⟩
theorem cache_new2 {W0 W : World} {ca : Option Addr} (g : Gr W0 W) (h : Cs (fun b => W0.heap.size ≤ b ∧ b < W.heap.size) W ca fewC) (cc : Nat) : Calls Try.prog 7 #[.slice ca 5 cc] W fun e w' => ∃ cb, e = .returned (.pointer (some ⟨cb, 0, none⟩)) ∧ Hold (fun b => W0.heap.size ≤ b ∧ b < w'.heap.size) (fun _ => none) (fun _ => False) cb w' ∧ Below W0.heap.size W0 w' := by
  refine (cache_new (Gr.le g) h cc).mono ?_
  rintro e w' ⟨cb, rfl, hh, hb⟩
  exact ⟨cb, rfl, hh, gr_below (.refl _ _) (Nat.le_refl _) g |>.trans (hb.mono (Gr.le g))⟩
/-- A cache of new memory alone. -/
structure Hb (B : Nat) (w0 : World) (sl : Int → Option Hd) (D : Int → Prop) (cb : Nat) (W : World) : Prop where
  x : ∃ Y, Hold Y sl D cb W ∧ ∀ k, Y k → B ≤ k
  b : Below B w0 W
  n : B ≤ w0.heap.size
theorem hb_step {B : Nat} {w0 : World} {sl' : Int → Option Hd} {D' : Int → Prop} {cb : Nat} {W W' : World} {Y : Nat → Prop} (b : Below B w0 W) (n : B ≤ w0.heap.size) (hy : ∀ k, Y k → B ≤ k) (s : Step Y sl' D' cb W W') : Hb B w0 sl' D' cb W' :=
  have hs := b.size
  ⟨⟨_, s.h, fun k hk => hk.elim (hy k) (fun h => by omega)⟩, OutK.below b s.o hy (by omega), n⟩
theorem Hb.gr {B : Nat} {w0 : World} {sl : Int → Option Hd} {D : Int → Prop} {cb : Nat} {W W' : World} (h : Hb B w0 sl D cb W) (g : Gr W W') : Hb B w0 sl D cb W' := by
  obtain ⟨Y, h1, h2⟩ := h.x
  have := h.b.size
  have := h.n
  exact ⟨⟨Y, h1.gr g, h2⟩, gr_below h.b (by omega) g, h.n⟩
theorem hb_new {W0 W : World} {ca : Option Addr} (g : Gr W0 W) (h : Cs (fun b => W0.heap.size ≤ b ∧ b < W.heap.size) W ca fewC) (cc : Nat) : Calls Try.prog 7 #[.slice ca 5 cc] W fun e w' => ∃ cb, e = .returned (.pointer (some ⟨cb, 0, none⟩)) ∧ Hb W0.heap.size W0 (fun _ => none) (fun _ => False) cb w' := by
  refine (cache_new2 g h cc).mono ?_
  rintro e w' ⟨cb, rfl, hh, hb⟩
  exact ⟨cb, rfl, ⟨_, hh, fun k hk => hk.1⟩, hb, Nat.le_refl _⟩
theorem hb_put {B : Nat} {w0 : World} {sl : Int → Option Hd} {D : Int → Prop} {cb : Nat} {W : World} (h : Hb B w0 sl D cb W) {i : Int} (hi : 0 ≤ i) (hi2 : i < 256) (c p t : Int) : Calls Try.prog 10 #[.pointer (some ⟨cb, 0, none⟩), .int .i64 i, .agg (obL c p t).toArray] W fun e w' => e = .returned (.tuple #[]) ∧ Hb B w0 (fun k => if k = i then some ⟨c, p, t, [], cdOf fewC c⟩ else sl k) (fun k => stat (cdOf fewC c) = true ∧ (k = i ∨ (sl k).isSome = true)) cb w' := by
  obtain ⟨Y, h1, h2⟩ := h.x
  refine (cache_put h1 hi hi2 (obR W c p t)).mono ?_
  rintro e w' ⟨rfl, s⟩
  exact ⟨rfl, hb_step h.b h.n h2 s⟩
def Of22B (B : Nat) (w0 : World) (sl : Int → Option Hd) (cb : Nat) (i p t : Int) (e : Ending) (w' : World) : Prop := ∃ (v0 v1 v2 : Int) (b : Bool), OfS sl i (optR b (v0, v1, v2)) ∧ e = .returned (.bool (b && v0 == p && v1 == t)) ∧ Hb B w0 sl (fun _ => False) cb w'
theorem hb_of22 {B : Nat} {w0 : World} {sl : Int → Option Hd} {D : Int → Prop} {cb : Nat} {W : World} (h : Hb B w0 sl D cb W) (i p t : Int) : Calls Try.prog 22 #[.pointer (some ⟨cb, 0, none⟩), .int .i64 i, .int .i64 p, .int .i64 t] W (Of22B B w0 sl cb i p t) := by
  obtain ⟨Y, h1, h2⟩ := h.x
  refine (of22_calls h1 i p t).mono ?_
  rintro e w' ⟨v0, v1, v2, b, hv, rfl, s⟩
  exact ⟨v0, v1, v2, b, hv, rfl, hb_step h.b h.n h2 s⟩
theorem dirty_hold {B : Nat} {w0 : World} {sl : Int → Option Hd} {D : Int → Prop} {cb : Nat} {W : World} (h : Hb B w0 sl D cb W) : Calls Try.prog 20 #[.pointer (some ⟨cb, 0, none⟩)] W (DirH D W) := by
  obtain ⟨Y, hh, _⟩ := h.x
  obtain ⟨Z, sb, tb, K, h1, h2, h3, h4, h5, h6, h7⟩ := hh.x
  refine (dirty_calls h1).mono ?_
  rintro e w' ⟨d0, d1, d2, d3, rfl, hb, hg⟩
  exact ⟨d0, d1, d2, d3, K.dt, rfl, hb, h5, hg⟩
set_option maxHeartbeats 800000 in
set_option maxRecDepth 100000 in
theorem works_calls (w : World) : Calls Try.prog 12 #[] w fun e w' => e = .returned (.bool true) ∧ Below w.heap.size w w' := by
  have mixed := mixedT
  go_enter Try.func12, Try.ntmps12
  go_upto_region 5 with (first | (go_at_call 8; refine (few_calls _).mono ?_; rintro e w1 ⟨ca, cc, rfl, hc, g⟩) | (go_at_call 7; refine (hb_new g hc cc).mono ?_; rintro e w2 ⟨cb, rfl, hh⟩) | (go_at_call 10; refine (hb_put hh (i := 5) (by decide) (by decide) 0 0 1).mono ?_; rintro e w3 ⟨rfl, hs⟩))
  have H5 : Aside (Hb _ _ wS1 _ _ _) := hs
  clear hs hh hc g
  go_upto_region 8 with (first | (go_at_call 22; refine (hb_of22 H5.out 5 2 2).mono ?_; rintro e w4 ⟨v0, v1, v2, b, hv, rfl, hs4⟩; rw [wO1 hv]) | (go_at_call 10; refine (hb_put hs4 (i := 9) (by decide) (by decide) 1 0 2).mono ?_; rintro e w5 ⟨rfl, hs5⟩))
  have H9 : Aside (Hb _ _ wS2 (fun k => stat (cdOf fewC 1) = true ∧ (k = 9 ∨ (wS1 k).isSome = true)) _ _) := hs5
  clear hs5 hs4 H5 hv
  go_upto_region 9 with (go_at_call 20; refine (dirty_hold H9.out).mono ?_; rintro e w6 ⟨d0, d1, d2, d3, dt, rfl, hb, hd, hg⟩)
  have S2 : Aside (Hb _ _ wS2 _ _ _) := H9.out.gr (hg.alloc (.cells #[.int .u64 d0, .int .u64 d1, .int .u64 d2, .int .u64 d3] 53))
  have b1 := blk_new w6 (.cells #[.int .u64 d0, .int .u64 d1, .int .u64 d2, .int .u64 d3] 53)
  have B1 : Aside _ := b1
  obtain ⟨a0, a1, a2, a3⟩ := set_cells b1
  have d5 := hd 5 ⟨by decide, .inr (by decide)⟩
  have d9 := hd 9 ⟨by decide, .inl rfl⟩
  clear hd hg b1 H9
  go_wp2_with (first | (go_at_call 21; have chk := B1.out; refine (has_two hb d5 d9 (by first | exact .inl rfl | exact .inr rfl) _).mono ?_; rintro e w7 ⟨rfl, g7⟩; obtain ⟨f0, f1, f2, f3⟩ := set_cells (blk_gr chk g7); have S7 : Aside _ := S2.out.gr g7; clear B1 chk S2 g7) | (go_at_call 21; refine (has_two hb d5 d9 (by first | exact .inl rfl | exact .inr rfl) _).mono ?_; rintro e w8 ⟨rfl, g8⟩; have S8 : Aside _ := S7.out.gr g8; clear S7 g8) | (go_at_call 22; refine (hb_of22 S8.out 5 3 3).mono ?_; rintro e w9 ⟨u0, u1, u2, c, hu, rfl, hs9⟩; rw [wO2 hu]; clear S8) | (go_at_call 22; refine (hb_of22 hs9 9 1 1).mono ?_; rintro e w10 ⟨x0, x1, x2, q, hx, rfl, hs10⟩; rw [wO3 hx]))
  go_returns
  exact ⟨rfl, hs10.b⟩
end Go.Proofs.Yticgadnmlbfmfaa.cachePlays
/-
  Chapter 25: CacheOrder's closure, walked.
-/
namespace Go.Proofs.Yticgadnmlbfmfaa.cachePlays
open Go.Shelf Go.RowKit Go.Lib Go.Sort Go.Maps
structure On where
  s : Int
  c : Int
  p : Int
  u : Int
def encO (x : On) : List Value := [.int .u8 x.s, .int .u8 x.c, .int .u8 x.p, .int .u8 x.u]
def On.ok (x : On) : Prop := (0 ≤ x.s ∧ x.s < 256) ∧ (0 ≤ x.c ∧ x.c < 256) ∧ (0 ≤ x.p ∧ x.p < 256) ∧ (0 ≤ x.u ∧ x.u < 256)
/-- The box of the law's objects. -/
structure Lb (l : List On) (n0 bl : Nat) (w : World) : Prop where
  x : ∃ (la : Option Addr) (cc : Nat), w.heap[bl]? = some (.cells [Value.slice la l.length cc].toArray 22) ∧ RowsZ (fun b => b < n0) w la 4 (l.map encO)
  ok : ∀ (i : Nat) x, l[i]? = some x → x.ok
  n : l.length ≤ 16
theorem rem5 (c : Int) (h : 0 ≤ c ∧ c < 256) : IntKind.u8.wrap (c.tmod 5) = c % 5 := by
  rw [Int.tmod_eq_emod_of_nonneg h.1, IntKind.wrap_u8]
  omega
theorem rem2 (c : Int) (h : 0 ≤ c ∧ c < 256) : IntKind.u8.wrap (c.tmod 2) = c % 2 := by
  rw [Int.tmod_eq_emod_of_nonneg h.1, IntKind.wrap_u8]
  omega
set_option maxHeartbeats 800000 in
set_option maxRecDepth 100000 in
theorem obj_calls {l : List On} {n0 bl : Nat} {w : World} (h : Lb l n0 bl w) {i : Nat} {x : On} (hx : l[i]? = some x) : Calls Try.prog 9 #[.int .i64 i, .pointer (some ⟨bl, 0, none⟩)] w fun e w' => e = .returned (.agg (obL (x.c % 5) (x.p % 2) (1 + i)).toArray) ∧ Gr w w' := by
  have mixed := mixedT
  obtain ⟨la, cc, h1, h2⟩ := h.x
  have hi : i < l.length := (List.getElem?_eq_some_iff.1 hx).1
  have hn := h.n
  obtain ⟨_, x1, x2, _⟩ := h.ok i x hx
  have hm : (l.map encO)[i]? = some (encO x) := by rw [List.getElem?_map, hx]; rfl
  obtain ⟨b, o, rfl, _, hb, h3⟩ := h2.resolve_left (by rintro e; rw [e] at hm; cases hm)
  have k1 := h3 i _ hm 1 _ rfl
  have k2 := h3 i _ hm 2 _ rfl
  have kk : ∀ (b : Nat) (off : Nat) v, w.cell? ⟨b, off, none⟩ = some v → b < w.heap.size → (w.alloc (.cells #[Value.int IntKind.i64 0, Value.int IntKind.i64 0, Value.int IntKind.i64 0, Value.int IntKind.i64 0, Value.int IntKind.i64 0, Value.bool false, Value.bool false, Value.bool false, Value.int IntKind.i64 0, Value.int IntKind.i64 0, Value.int IntKind.i64 0, Value.int IntKind.i64 0, Value.bool false, Value.slice none 0 0] 30)).drew.cell? ⟨b, off, none⟩ = some v := fun b off v hv hlt => by
    rw [← hv]
    exact (((Gr.refl w).alloc _).drew).cell hlt
  have c0 := kk _ _ _ (hold_cell (blk_hold h1) (j := 0) rfl) (blk_lt h1)
  have c1 := kk _ _ _ k1 hb
  have c2 := kk _ _ _ k2 hb
  clear kk h3 hm k1 k2
  have r5 := rem5 x.c x1
  have r2 := rem2 x.p x2
  have q5 : IntKind.i64.wrap (x.c.tmod 5) = x.c % 5 := by
    rw [Int.tmod_eq_emod_of_nonneg x1.1, IntKind.wrap_i64]
    omega
  have q2 : IntKind.i64.wrap (x.p.tmod 2) = x.p % 2 := by
    rw [Int.tmod_eq_emod_of_nonneg x2.1, IntKind.wrap_i64]
    omega
  have q1 : IntKind.i64.wrap (1 + (i : Int)) = 1 + i := by
    rw [IntKind.wrap_i64]
    omega
  clear h h2 h1
  go_enter Try.func9, Try.ntmps9
  go_upto_region 1 with fail
  generalize hW : w.alloc _ = W at c0 c1 c2 ⊢
  go_still_tail 17, mixed
  subst hW
  clear c0 c1 c2
  change wpList _ _ _ _ _ (w.drew.alloc (.cells #[Value.int IntKind.i64 0, Value.int IntKind.i64 0, Value.int IntKind.i64 0, Value.int IntKind.i64 0, Value.int IntKind.i64 0, Value.bool false, Value.bool false, Value.bool false, Value.int IntKind.i64 0, Value.int IntKind.i64 0, Value.int IntKind.i64 0, Value.int IntKind.i64 0, Value.bool false, Value.slice none 0 0] 30))
  rw [show w.heap.size = w.drew.heap.size from rfl]
  have g0 : Aside (Gr w w.drew) := (Gr.refl w).drew
  generalize w.drew = V at g0 ⊢
  go_wp2
  go_returns
  exact ⟨rfl, g0.out.alloc _⟩
end Go.Proofs.Yticgadnmlbfmfaa.cachePlays
