/-
  Chapter 14: the law's comparison of lists, walked.
-/
import Derived.Test.YtgbhmkdldfhamaaTxK
import Derived.Laws.StructEq
namespace Go.Proofs.Ytgbhmkdldfhamaa.charsOf
open Go.Shelf Go.RowKit Go.Lib Go.Sort
theorem equ58 (a b c d : Int) (W : World) : Sem.run Try.prog (Op.equalIn 10000 58 (.agg #[.int .i64 a, .int .i64 b, .int .i64 c, .int .i64 d]) (.agg #[.int .i64 a, .int .i64 b, .int .i64 c, .int .i64 d])) W = .ok true W := by
  have u3 := Try.underlying3
  have a3 := Try.isAgg3
  have z3 := Try.sizeOf3
  have hS : Try.prog.underlying 58 = some (.struct (Try.prog.fieldsOf 58)) := by kernel_rfl
  have hp : Try.prog.stoodInHeld 58 = false := by kernel_rfl
  rw [show (10000 : Nat) = 9999 + 1 from rfl, run_equalIn_agg W 9999 58 _ _ hS hp]
  simp only [Program.fieldsOf, Try.underlying58]
  go_simp
theorem neq58 (a b c d : Int) (W : World) : Sem.run Try.prog (binOp .neq 58 (.agg #[.int .i64 a, .int .i64 b, .int .i64 c, .int .i64 d]) (.agg #[.int .i64 a, .int .i64 b, .int .i64 c, .int .i64 d])) W = .ok (.bool false) W := by
  rw [run_neq_struct, equ58]
  rfl
theorem equ36 (a b c : Int) (W : World) : Sem.run Try.prog (Op.equalIn 10000 36 (.agg #[.int .i64 a, .int .i64 b, .int .i64 c]) (.agg #[.int .i64 a, .int .i64 b, .int .i64 c])) W = .ok true W := by
  have u3 := Try.underlying3
  have a3 := Try.isAgg3
  have z3 := Try.sizeOf3
  have hS : Try.prog.underlying 36 = some (.struct (Try.prog.fieldsOf 36)) := by kernel_rfl
  have hp : Try.prog.stoodInHeld 36 = false := by kernel_rfl
  rw [show (10000 : Nat) = 9999 + 1 from rfl, run_equalIn_agg W 9999 36 _ _ hS hp]
  simp only [Program.fieldsOf, Try.underlying36]
  go_simp
theorem neq36 (a b c : Int) (W : World) : Sem.run Try.prog (binOp .neq 36 (.agg #[.int .i64 a, .int .i64 b, .int .i64 c]) (.agg #[.int .i64 a, .int .i64 b, .int .i64 c])) W = .ok (.bool false) W := by
  rw [run_neq_struct, equ36]
  rfl
def HoldL (w : World) (a : Option Addr) (R : List Ef) : Prop := R = [] ∨ ∃ g o, a = some ⟨g, o, none⟩ ∧ g < w.heap.size ∧ HoldsK encE 4 w g o R.toArray
theorem HoldL.below {w w' : World} {a : Option Addr} {R : List Ef} (h : HoldL w a R) (b : Below w.heap.size w w') : HoldL w' a R := h.imp (fun h => h) fun ⟨g, o, e, hg, h⟩ => ⟨g, o, e, Nat.lt_of_lt_of_le hg b.size, holds_below h b hg⟩
theorem HoldL.rd {w : World} {a : Option Addr} {R : List Ef} (h : HoldL w a R) {i : Nat} (hi : i < R.length) : ∃ g o, a = some ⟨g, o, none⟩ ∧ g < w.heap.size ∧ w.cell? ⟨g, o + i * 4, none⟩ = some (.int .i64 R[i].1) ∧ w.cell? ⟨g, o + i * 4 + 1, none⟩ = some (.int .i64 R[i].2.1) ∧ w.cell? ⟨g, o + i * 4 + 2, none⟩ = some (.int .i64 R[i].2.2.1) ∧ w.cell? ⟨g, o + i * 4 + 3, none⟩ = some (.int .i64 R[i].2.2.2) := by
  rcases h with rfl | ⟨g, o, e, hg, h⟩
  · simp at hi
  · have := cells4 h (i := i) (by simpa using hi)
    rw [getElem!_pos R.toArray i (by simpa using hi)] at this
    refine ⟨g, o, e, hg, ?_⟩
    simpa using this
set_option maxHeartbeats 4000000 in
set_option maxRecDepth 100000 in
theorem effs_calls (R : List Ef) (a b : Option Addr) (c d : Nat) (w : World) (hl : R.length ≤ 1000000) (ha : HoldL w a R) (hb : HoldL w b R) :
    Calls Try.prog 12 #[.slice a R.length c, .slice b R.length d] w fun e w' => e = .returned (.bool true) ∧ Below w.heap.size w w' := by
  have mixed := mixedT
  have HA : Aside (HoldL w a R) := ha
  have HB : Aside (HoldL w b R) := hb
  clear ha hb
  go_enter Try.func12, Try.ntmps12
  go_wp2
  go_loopg [5] R.length (fun kx s5 wr => ∃ i : Nat, s5 = .int .i64 i ∧ i ≤ R.length ∧ R.length - i ≤ kx ∧ Aside (Below w.heap.size w wr))
  case atStart => exact ⟨0, rfl, Nat.zero_le _, Nat.le_refl _, Below.refl _ _⟩
  case round =>
    obtain ⟨i, rfl, hi, hkx, B1⟩ := hrel
    have wj : IntKind.i64.wrap ((i : Int) + 1) = (i : Int) + 1 := by rw [IntKind.wrap_i64]; omega
    by_cases hlt : i < R.length
    · have hltz : (i : Int) < (R.length : Int) := by omega
      obtain ⟨g, o, rfl, _, a0, a1, a2, a3⟩ := (HA.out.below B1.out).rd hlt
      obtain ⟨g', o', rfl, _, b0, b1, b2, b3⟩ := (HB.out.below B1.out).rd hlt
      have ne := neq58 R[i].1 R[i].2.1 R[i].2.2.1 R[i].2.2.2
      generalize R[i].1 = x0 at a0 b0 ne
      generalize R[i].2.1 = x1 at a1 b1 ne
      generalize R[i].2.2.1 = x2 at a2 b2 ne
      generalize R[i].2.2.2 = x3 at a3 b3 ne
      go_wp2
      go_big_region_o
      go_wp2
      go_roundg (R.length - (i + 1))
      case measure => omega
      case rel => exact ⟨i + 1, by first | rfl | go_num, by omega, Nat.le_refl _, B1.out.trans (gr_below (.refl _ _) B1.out.size ((Gr.refl _).drew))⟩
    · have hltz : ¬ (i : Int) < (R.length : Int) := by omega
      go_wp2
      go_returns
      exact ⟨rfl, B1.out⟩
end Go.Proofs.Ytgbhmkdldfhamaa.charsOf
/-
  Chapter 14: the law's cut, walked.
-/
namespace Go.Proofs.Ytgbhmkdldfhamaa.charsOf
open Go.Shelf Go.RowKit Go.Lib Go.Sort
/-- What cut needs of the program besides. -/
structure LayK (P : Program) (k32 k56 k54 : Nat) (y32 : List Value) : Prop where
  f9 : P.funcs[9]? = some Try.f9
  v32 : ∀ w, (zeroValue 32).run P w = .ok (.agg y32.toArray) w
  i54 : ∃ i z, P.info? 54 = some i ∧ i.zero = some z ∧ z.cells.size = k54 ∧ i.size = k54 ∧ i.bytes ≤ 1000
  i56 : ∃ i z, P.info? 56 = some i ∧ i.zero = some z ∧ z.cells.size = k56 ∧ i.size = k56 ∧ i.bytes ≤ 1000
  p54 : 0 < k54
  p56 : 0 < k56
  l54 : k54 ≤ 1000
  l56 : k56 ≤ 1000
/-- Rows, one behind the other. -/
def flatN (f : Nat → List Value) (n : Nat) : List Value := (List.range n).flatMap f
theorem flatN_succ (f : Nat → List Value) (n : Nat) : flatN f (n + 1) = flatN f n ++ f n := by
  unfold flatN
  rw [List.range_succ, List.flatMap_append]
  simp
theorem flatN_len {f : Nat → List Value} {k : Nat} : ∀ {n : Nat}, (∀ i, i < n → (f i).length = k) → (flatN f n).length = n * k
  | 0, _ => by simp [flatN]
  | n + 1, h => by
    rw [flatN_succ, List.length_append, flatN_len fun i hi => h i (by omega), h n (by omega), Nat.add_mul, Nat.one_mul]
theorem fold_at : ∀ (l : List Value) (o : Nat) (cs : Array Value), o + l.length ≤ cs.size → ((l.zipIdx o).foldl (fun cs x => cs.setIfInBounds x.snd x.fst) cs).size = cs.size ∧ ∀ j, ((l.zipIdx o).foldl (fun cs x => cs.setIfInBounds x.snd x.fst) cs)[j]? = if o ≤ j ∧ j < o + l.length then l[j - o]? else cs[j]?
  | [], o, cs, _ => ⟨rfl, fun j => by rw [if_neg (by simp only [List.length_nil]; omega)]; rfl⟩
  | x :: l, o, cs, h => by
    rw [List.zipIdx_cons, List.foldl_cons]
    simp only [List.length_cons] at h
    obtain ⟨h1, h2⟩ := fold_at l (o + 1) (cs.setIfInBounds o x) (by simp; omega)
    refine ⟨by rw [h1]; simp, fun j => ?_⟩
    rw [h2]
    simp only [List.length_cons]
    by_cases hj : j = o
    · subst hj
      rw [if_neg (by omega), if_pos (by omega)]
      simp only [Array.getElem?_setIfInBounds, Nat.sub_self, List.getElem?_cons_zero, if_true]
      rw [if_pos (by omega)]
    · by_cases hk : o + 1 ≤ j ∧ j < o + 1 + l.length
      · rw [if_pos hk, if_pos (by omega), show j - o = (j - (o + 1)) + 1 by omega, List.getElem?_cons_succ]
      · rw [if_neg hk, if_neg (by omega)]
        simp only [Array.getElem?_setIfInBounds]
        rw [if_neg (fun e => hj e.symm)]
theorem fold_cells (y X : List Value) {k : Nat} (hX : X.length = k) : X.zipIdx.foldl (fun (cs : Array Value) (x : Value × Nat) => cs.setIfInBounds x.snd x.fst) (Array.map (fun x => y[x % k]?.getD default) (Array.range k)) = X.toArray := by
  obtain ⟨h1, h2⟩ := fold_at X 0 (Array.map (fun x => y[x % k]?.getD default) (Array.range k)) (by simp; omega)
  apply Array.ext_getElem?
  intro j
  rw [h2]
  split
  · simp
  · rw [Array.getElem?_eq_none (by simp; omega)]
    simp
    omega
/-- One row onto a list of rows of one's own. -/
theorem app_row {P : Program} {t e k : Nat} (ht : P.underlying t = some (.slice e)) (hi : ∃ i z, P.info? e = some i ∧ i.zero = some z ∧ z.cells.size = k ∧ i.size = k ∧ i.bytes ≤ 1000) (hk : 0 < k) {W : World} {v : Value} {base n : Nat} (X : List Value) (r : List Value) (hr : r.length = k) (h1 : ∀ u ∈ r, u.oneCell' = true) (ho : W.ownsRow base e k v n X) (hb : base ≤ W.heap.size) (hl : n ≤ 1000) :
    ∃ v' w', (Builtin.append_ #[t, t] t #[v, .slice (some ⟨W.heap.size, 0, none⟩) 1 1]).run P (W.alloc (.cells r.toArray e)) = .ok v' w' ∧ w'.ownsRow base e k v' (n + 1) (X ++ r) ∧ (W.alloc (.cells r.toArray e)).grownBy w' v.ownBlock := by
  obtain ⟨i, z, i1, i2, i3, i4, i5⟩ := hi
  obtain ⟨v', w', a1, a2, a3⟩ := run_app_any (P := P) (ty := t) (t := t) (tx := t) ht ht i1 i2 (by rw [i4]; exact i3) (by rw [i4]; exact hk) (by rw [i4]; exact ho.alloc (.cells r.toArray e)) (some ⟨W.heap.size, 0, none⟩) 1 1 r (by rw [i4, hr, Nat.one_mul]) (fun h => by cases h)
    (fun ad had j u hu => by
      injection had with had
      subst had
      rw [Addr.add_lit, Nat.zero_add]
      exact hold_cell (hold_new W r e) hu) h1 (Nat.le_trans (show n + 1 ≤ 1001 by omega) (by decide)) (Nat.le_trans (Nat.mul_le_mul (show n + 1 ≤ 1001 by omega) i5) (by decide)) (by simp; omega)
  rw [i4] at a2
  exact ⟨v', w', a1, a2, a3⟩
theorem blk_set {W : World} {b : Nat} {l : List Value} {t : TypeId} (h : W.heap[b]? = some (.cells l.toArray t)) (j : Nat) (v : Value) : (W.setCell ⟨b, j, none⟩ v).heap[b]? = some (.cells (l.set j v).toArray t) := by
  simp only [World.setCell, Array.getElem?_modify, h]
  simp
theorem set_other {W : World} {b c : Nat} (hn : b ≠ c) (j : Nat) (v : Value) : (W.setCell ⟨c, j, none⟩ v).heap[b]? = W.heap[b]? := Below.heap_setCell _ _ _ _ hn
/-- What is held in cut's loops: the state's box, the result's box, a row of one's own. -/
structure Ki (w : World) (b3 b5 bs : Nat) (SL Y : List Value) (e k : Nat) (lv : Value) (n : Nat) (X : List Value) (W : World) : Prop where
  b : Below w.heap.size w W
  c3 : W.heap[b3]? = some (.cells SL.toArray 32)
  c5 : W.heap[b5]? = some (.cells Y.toArray 32)
  o : W.ownsRow bs e k lv n X
  h3 : b3 < bs
  h5 : b5 < bs
  hN : w.heap.size ≤ b3
  hs : bs ≤ W.heap.size
theorem Ki.gr {w : World} {b3 b5 bs : Nat} {SL Y : List Value} {e k : Nat} {lv : Value} {n : Nat} {X : List Value} {W W' : World} (h : Ki w b3 b5 bs SL Y e k lv n X W) (g : Gr W W') : Ki w b3 b5 bs SL Y e k lv n X W' :=
  ⟨gr_below h.b (by have := h.hN; have := h.hs; have := h.h3; omega) g, blk_gr h.c3 g, blk_gr h.c5 g, h.o.kept (gr_grown g) (by cases hv : lv.ownBlock <;> simp), h.h3, h.h5, h.hN, Nat.le_trans h.hs (Gr.le g)⟩
theorem Ki.app {w : World} {b3 b5 bs : Nat} {SL Y : List Value} {e k : Nat} {lv lv' : Value} {n n' : Nat} {X X' : List Value} {W W' : World} (h : Ki w b3 b5 bs SL Y e k lv n X W) (g : W.grownBy W' lv.ownBlock) (o : W'.ownsRow bs e k lv' n' X') : Ki w b3 b5 bs SL Y e k lv' n' X' W' := by
  have hl := h.o.lt
  have hN := h.hN
  have h3 := h.h3
  have k1 : ∀ k o, k < bs → W.heap[k]? = some o → W'.heap[k]? = some o := fun k o hk ho => by
    rw [g.block k (blk_lt ho) fun e => by have := (hl k e.symm).1; omega]
    exact ho
  exact ⟨h.b.grown g (by have := h.hs; omega) fun k hk => by have := (hl k hk).1; omega, k1 _ _ h.h3 h.c3, k1 _ _ h.h5 h.c5, o, h.h3, h.h5, hN, Nat.le_trans h.hs g.size⟩
theorem sets_grown (b : Nat) : ∀ (vs : List Value) (o : Nat) (W : World), W.grownBy (W.setCells b o vs) (some b)
  | [], _, W => World.grownBy.refl W _
  | v :: vs, o, W => by
    have := sets_grown b vs (o + 1) (W.setCell ⟨b, o, none⟩ v)
    exact ⟨this.os, this.tape, this.output, by have h := this.size; rw [World.size_setCell] at h; exact h, fun k hk hn => by
      rw [World.setCells, this.block k (by simpa using hk) hn]
      exact Below.heap_setCell _ _ _ _ (fun e => hn (by rw [e]))⟩
/-- The same, and another row that is done. -/
structure Kj (w : World) (b3 b5 bs : Nat) (SL Y : List Value) (e k : Nat) (lv : Value) (n : Nat) (X : List Value) (b' e' k' : Nat) (lv' : Value) (n' : Nat) (X' : List Value) (W : World) : Prop where
  i : Ki w b3 b5 bs SL Y e k lv n X W
  r : W.ownsRow b' e' k' lv' n' X'
  h : ∀ k, lv'.ownBlock = some k → k < bs
theorem Kj.gr {w : World} {b3 b5 bs : Nat} {SL Y : List Value} {e k : Nat} {lv : Value} {n : Nat} {X : List Value} {b' e' k' : Nat} {lv' : Value} {n' : Nat} {X' : List Value} {W W' : World} (h : Kj w b3 b5 bs SL Y e k lv n X b' e' k' lv' n' X' W) (g : Gr W W') : Kj w b3 b5 bs SL Y e k lv n X b' e' k' lv' n' X' W' := ⟨h.i.gr g, h.r.kept (gr_grown g) (by cases hv : lv'.ownBlock <;> simp), h.h⟩
theorem Kj.app {w : World} {b3 b5 bs : Nat} {SL Y : List Value} {e k : Nat} {lv lv2 : Value} {n n2 : Nat} {X X2 : List Value} {b' e' k' : Nat} {lv' : Value} {n' : Nat} {X' : List Value} {W W' : World} (h : Kj w b3 b5 bs SL Y e k lv n X b' e' k' lv' n' X' W) (g : W.grownBy W' lv.ownBlock) (o : W'.ownsRow bs e k lv2 n2 X2) : Kj w b3 b5 bs SL Y e k lv2 n2 X2 b' e' k' lv' n' X' W' := by
  refine ⟨h.i.app g o, h.r.kept g ?_, h.h⟩
  cases hv : lv'.ownBlock with
  | none => exact .inl rfl
  | some q =>
    refine .inr fun e => ?_
    have h1 := h.h q hv
    have h2 := (h.i.o.lt q e.symm).1
    omega
theorem ownk_mono {W : World} {b b' e k n : Nat} {v : Value} {l : List Value} (h : W.ownsRow b e k v n l) (hb : b' ≤ b) : W.ownsRow b' e k v n l := by
  refine ⟨h.1, ?_⟩
  rcases h.2 with h | ⟨g, cap, cur, hv, hg, hr⟩
  · exact .inl h
  · exact .inr ⟨g, cap, cur, hv, Nat.le_trans hb hg, hr⟩
theorem own_formk {W : World} {base e k n : Nat} {v : Value} {l : List Value} (h : W.ownsRow base e k v n l) : ∃ a c, v = .slice a n c := by
  rcases h.2 with ⟨rfl, h0⟩ | ⟨g, cap, cur, rfl, _⟩
  · exact ⟨none, 0, by rw [h0]⟩
  · exact ⟨_, _, rfl⟩
set_option maxHeartbeats 8000000 in
set_option maxRecDepth 100000 in
theorem cut_calls {P : Program} {k32 k56 k54 k74 : Nat} {y56 y54 y74 y32 : List Value} (L : LayD P k32 k56 k54 k74 y56 y54 y74) (K : LayK P k32 k56 k54 y32) (hy6 : y56.length = k56) (hy4 : y54.length = k54) (hy2 : y32.length = k32) (ca : Option Addr) (cn cc : Nat) (SL : List Value) (hS : SL.length = k32) (oS : ∀ v ∈ SL, v.oneCell' = true) (w : World)
    (X Xc : Nat → List Value) (aa : Nat → Option Addr) (an ac : Nat → Nat) (hX : ∀ i, i < cn → (X i).length = k54 ∧ (∀ v ∈ X i, v.oneCell' = true) ∧ (X i)[10]? = some (.slice (aa i) (an i) (ac i)) ∧ an i ≤ ac i ∧ Xc i = (X i).set 10 (.slice (aa i) (min (an i) 5) (ac i)))
    (lX : ∀ i, i < cn → ∃ B O, ca = some ⟨B, O, none⟩ ∧ ∀ W, Below w.heap.size w W → Sem.run P (loadCellsFrom ⟨B, O + i * k54, none⟩ 0 k54 #[]) W = .ok (X i).toArray W)
    (oa : Option Addr) (on oc : Nat) (q1 : SL[1]? = some (.slice oa on oc))
    (Z Zc : Nat → List Value) (ea : Nat → Option Addr) (en ec : Nat → Nat) (hZ : ∀ i, i < on → (Z i).length = k56 ∧ (∀ v ∈ Z i, v.oneCell' = true) ∧ (Z i)[13]? = some (.slice (ea i) (en i) (ec i)) ∧ en i ≤ ec i ∧ Zc i = (Z i).set 13 (.slice (ea i) (min (en i) 8) (ec i)))
    (lZ : ∀ i, i < on → ∃ B O, oa = some ⟨B, O, none⟩ ∧ ∀ W, Below w.heap.size w W → Sem.run P (loadCellsFrom ⟨B, O + i * k56, none⟩ 0 k56 #[]) W = .ok (Z i).toArray W)
    (fa : Option Addr) (fn fc : Nat) (q6 : SL[6]? = some (.slice fa fn fc)) (hfc : fn ≤ fc) :
    Calls P 9 #[.slice ca cn cc, .agg SL.toArray] w fun e w' => ∃ la lc oa' oc', e = .returned (.tuple #[.slice la (min cn 12) lc, .agg ((SL.set 1 (.slice oa' (min on 20) oc')).set 6 (.slice fa (min fn 20) fc)).toArray]) ∧ Below w.heap.size w w' ∧ w'.ownsRow w.heap.size 54 k54 (.slice la (min cn 12) lc) (min cn 12) (flatN Xc (min cn 12)) ∧ w'.ownsRow w.heap.size 56 k56 (.slice oa' (min on 20) oc') (min on 20) (flatN Zc (min on 20)) := by
  have mixed := L.c.mixed; have t3 := L.c.t3; have a3 := L.c.a3; have z3 := L.c.z3; have t4 := L.c.t4; have a4 := L.c.a4; have z4 := L.c.z4; have a56 := L.c.a56; have z56 := L.c.z56; have qu56 := run_underlying L.c.t56; have qu54 := run_underlying L.c.t54; have t22 := L.c.t22; have a22 := L.c.a22; have z22 := L.c.z22; have qu22 := run_underlying L.c.t22; have a54 := L.c.a54; have z54 := L.c.z54; have z74 := L.z74; have t52 := L.t52; have a52 := L.a52; have z52 := L.z52; have z58 := L.z58; have t24 := L.c.t24; have a24 := L.c.a24; have z24 := L.c.z24; have qu24 := run_underlying L.c.t24; have t26 := L.c.t26; have a26 := L.c.a26; have z26 := L.c.z26; have qu32 := run_underlying L.c.t32; have a32 := L.c.a32; have z32 := L.c.z32; have v32 := K.v32; have v56 := L.c.v56; have v54 := L.c.v54; have t40 := L.c.t40; have a40 := L.c.a40; have z40 := L.c.z40
  have HX : Aside _ := hX
  have HZ : Aside _ := hZ
  have LX : Aside _ := lX
  have LZ : Aside _ := lZ
  have OS : Aside _ := oS
  clear hX hZ lX lZ oS
  have K0 : Aside _ := (show Ki w w.heap.size (w.heap.size + 1) (w.heap.size + 2) SL y32 54 k54 (.slice none 0 0) 0 (flatN Xc 0) ((w.alloc (.cells SL.toArray 32)).alloc (.cells y32.toArray 32)) from by
    obtain ⟨g, b4, b5⟩ := two_boxes w SL y32 32 32
    exact ⟨gr_below (.refl _ _) (Nat.le_refl _) g, b4, b5, World.ownsRow_nil _ _ _ _, by omega, by omega, by omega, by simp⟩)
  go_enter K.f9, Try.ntmps9
  go_upto_block 0 with fail
  generalize (w.alloc (.cells SL.toArray 32)).alloc (.cells y32.toArray 32) = W0 at K0 ⊢
  go_cut [6] from 7 (fun s6 wc => ∃ lv : Value, lv = s6 ∧ Aside (Ki w w.heap.size (w.heap.size + 1) (w.heap.size + 2) SL y32 54 k54 lv (min cn 12) (flatN Xc (min cn 12)) wc))
  case first =>
    go_wp2_with fail
    go_loopg [6, 7] cn (fun kx s6 s7 wr => ∃ (i : Nat) (lv : Value), lv = s6 ∧ s7 = .int .i64 i ∧ i ≤ min cn 12 ∧ cn - i ≤ kx ∧ Aside (Ki w w.heap.size (w.heap.size + 1) (w.heap.size + 2) SL y32 54 k54 lv i (flatN Xc i) wr))
    case atStart => exact ⟨0, _, rfl, rfl, Nat.zero_le _, Nat.le_refl _, K0⟩
    case round =>
      clear K0
      obtain ⟨i, lv, rfl, rfl, hi, hkx, K1⟩ := hrel
      have wj : IntKind.i64.wrap ((i : Int) + 1) = (i : Int) + 1 := by rw [IntKind.wrap_i64]; omega
      by_cases hlt : i < cn
      · have hltz : (i : Int) < (cn : Int) := by omega
        by_cases h12 : i < 12
        · have h12z : (i : Int) < 12 := by omega
          obtain ⟨B, O, rfl, hl⟩ := LX.out i hlt
          obtain ⟨x1, x2, x3, x4, x5⟩ := HX.out i hlt
          have lA := hl wr K1.out.b
          have sA := hold_st P (hold_new wr y54 54) (X i) (x1.trans hy4.symm) x2
          have g1 : Gr wr ((wr.alloc (.cells y54.toArray 54)).setCells wr.heap.size 0 (X i)) := Gr.sets (W := wr) _ (Nat.le_refl _) _ _ ((Gr.refl _).alloc _)
          have K2 : Aside _ := K1.out.gr g1
          have bx := blk_put (blk_new wr (.cells y54.toArray 54)) (X i) (x1.trans hy4.symm)
          have X5 : Hid _ := x5
          clear hl x5
          go_upto_region 6 with fail
          clear lA sA
          obtain ⟨m, hm⟩ : ∃ m, min (an i) 5 = m := ⟨_, rfl⟩
          have hmz : min ((an i : Nat) : Int) 5 = (m : Int) := by omega
          have hm2 : m ≤ ac i := by omega
          have cA := hold_cell (blk_hold bx) x3
          have fA := (blk_hold bx 10 (by have := (List.getElem?_eq_some_iff.1 x3).1; simpa using this)).2
          have g2 : Gr wr (((wr.alloc (.cells y54.toArray 54)).setCells wr.heap.size 0 (X i)).setCell ⟨wr.heap.size, 10, none⟩ (.slice (aa i) m (ac i))) := g1.set _ _ _ (Nat.le_refl _)
          have bx2 := blk_set bx 10 (.slice (aa i) m (ac i))
          generalize (wr.alloc (.cells y54.toArray 54)).setCells wr.heap.size 0 (X i) = W1 at cA fA g2 bx2 ⊢
          have lB := hold_ld P (blk_hold bx2) (k := k54) (by rw [List.length_set]; exact x1)
          have hxc : Xc i = (X i).set 10 (.slice (aa i) m (ac i)) := by rw [X5.out, hm]
          rw [← hxc] at lB
          have K3 := K1.out.gr g2
          obtain ⟨v', w4, hr, ho4, hg4⟩ := app_row t22 K.i54 K.p54 (flatN Xc i) (Xc i) (by rw [hxc, List.length_set]; exact x1) (fun u hu => by
            rw [hxc] at hu
            rcases List.mem_or_eq_of_mem_set hu with h | h
            · exact x2 u h
            · rw [h]; rfl) K3.o K3.hs (by omega)
          rw [← flatN_succ] at ho4
          rw [World.size_setCell] at hr
          have K4 : Aside _ := (K3.gr ((Gr.refl _).alloc (.cells (Xc i).toArray 54))).app hg4 ho4
          have lxc : (Xc i).length = k54 := by rw [hxc, List.length_set]; exact x1
          clear K1 K3 bx bx2 g1 g2 K2 hg4 ho4 hm x1 x2 x3 hxc x4
          generalize Xc i = Xi at lB hr lxc
          have hfc := fold_cells y54 Xi lxc
          have kb1 : ¬ 16777216 < k54 := by have := K.l54; omega
          have kb2 : ¬ k54 = 0 := by have := K.p54; omega
          go_wp2_with (first | (at_builtin; refine wpList_app_run rfl _ _ #[22, 22] rfl lv (.slice (some ⟨W1.heap.size, 0, none⟩) 1 1) rfl rfl _ w4 hr ?_))
          go_roundg (cn - (i + 1))
          case measure => omega
          case rel => exact ⟨i + 1, v', rfl, by first | rfl | go_num, by omega, Nat.le_refl _, K4⟩
        · have h12z : ¬ (i : Int) < 12 := by omega
          obtain rfl : i = min cn 12 := by omega
          go_wp2
          go_meet
          case rel => exact ⟨lv, rfl, K1⟩
      · have hltz : ¬ (i : Int) < (cn : Int) := by omega
        obtain rfl : i = min cn 12 := by omega
        go_wp2
        go_meet
        case rel => exact ⟨lv, rfl, K1⟩
  case rest =>
    clear K0
    obtain ⟨lv, rfl, K1⟩ := hcut
    have J0 : Aside _ := (show Kj w w.heap.size (w.heap.size + 1) wc.heap.size SL y32 56 k56 (.slice none 0 0) 0 (flatN Zc 0) (w.heap.size + 2) 54 k54 lv (min cn 12) (flatN Xc (min cn 12)) wc from ⟨⟨K1.out.b, K1.out.c3, K1.out.c5, World.ownsRow_nil _ _ _ _, by have := K1.out.hs; omega, by have := K1.out.hs; omega, Nat.le_refl _, Nat.le_refl _⟩, K1.out.o, fun k hk => (K1.out.o.lt k hk).2⟩)
    obtain ⟨la, lc, hlv⟩ := own_formk K1.out.o
    have c1 := hold_cell (blk_hold K1.out.c3) q1
    clear K1
    subst hlv
    generalize hbs : wc.heap.size = bs at J0
    clear hbs
    go_upto_block 2 with fail
    go_cut [9] from 10 (fun s9 wc => ∃ ov : Value, ov = s9 ∧ Aside (Kj w w.heap.size (w.heap.size + 1) bs SL y32 56 k56 ov (min on 20) (flatN Zc (min on 20)) (w.heap.size + 2) 54 k54 (.slice la (min cn 12) lc) (min cn 12) (flatN Xc (min cn 12)) wc))
    case first =>
      go_wp2_with fail
      go_loopg [9, 10] on (fun kx s9 s10 wr => ∃ (i : Nat) (ov : Value), ov = s9 ∧ s10 = .int .i64 i ∧ i ≤ min on 20 ∧ on - i ≤ kx ∧ Aside (Kj w w.heap.size (w.heap.size + 1) bs SL y32 56 k56 ov i (flatN Zc i) (w.heap.size + 2) 54 k54 (.slice la (min cn 12) lc) (min cn 12) (flatN Xc (min cn 12)) wr))
      case atStart => exact ⟨0, _, rfl, rfl, Nat.zero_le _, Nat.le_refl _, J0⟩
      case round =>
        clear J0 c1
        obtain ⟨i, ov, rfl, rfl, hi, hkx, J1⟩ := hrel
        have wj : IntKind.i64.wrap ((i : Int) + 1) = (i : Int) + 1 := by rw [IntKind.wrap_i64]; omega
        have c1 := hold_cell (blk_hold J1.out.i.c3) q1
        by_cases hlt : i < on
        · have hltz : (i : Int) < (on : Int) := by omega
          by_cases h12 : i < 20
          · have h12z : (i : Int) < 20 := by omega
            obtain ⟨B, O, rfl, hl⟩ := LZ.out i hlt
            obtain ⟨x1, x2, x3, x4, x5⟩ := HZ.out i hlt
            have lA := hl wr J1.out.i.b
            have sA := hold_st P (hold_new wr y56 56) (Z i) (x1.trans hy6.symm) x2
            have g1 : Gr wr ((wr.alloc (.cells y56.toArray 56)).setCells wr.heap.size 0 (Z i)) := Gr.sets (W := wr) _ (Nat.le_refl _) _ _ ((Gr.refl _).alloc _)
            have bx := blk_put (blk_new wr (.cells y56.toArray 56)) (Z i) (x1.trans hy6.symm)
            have X5 : Hid _ := x5
            clear hl x5
            go_upto_region 13 with fail
            clear lA sA c1
            obtain ⟨m, hm⟩ : ∃ m, min (en i) 8 = m := ⟨_, rfl⟩
            have hmz : min ((en i : Nat) : Int) 8 = (m : Int) := by omega
            have hm2 : m ≤ ec i := by omega
            have cA := hold_cell (blk_hold bx) x3
            have fA := (blk_hold bx 13 (by have := (List.getElem?_eq_some_iff.1 x3).1; simpa using this)).2
            have g2 : Gr wr (((wr.alloc (.cells y56.toArray 56)).setCells wr.heap.size 0 (Z i)).setCell ⟨wr.heap.size, 13, none⟩ (.slice (ea i) m (ec i))) := g1.set _ _ _ (Nat.le_refl _)
            have bx2 := blk_set bx 13 (.slice (ea i) m (ec i))
            generalize (wr.alloc (.cells y56.toArray 56)).setCells wr.heap.size 0 (Z i) = W1 at cA fA g2 bx2 ⊢
            have lB := hold_ld P (blk_hold bx2) (k := k56) (by rw [List.length_set]; exact x1)
            have hxc : Zc i = (Z i).set 13 (.slice (ea i) m (ec i)) := by rw [X5.out, hm]
            rw [← hxc] at lB
            have J3 := J1.out.gr g2
            obtain ⟨v', w4, hr, ho4, hg4⟩ := app_row t24 K.i56 K.p56 (flatN Zc i) (Zc i) (by rw [hxc, List.length_set]; exact x1) (fun u hu => by
              rw [hxc] at hu
              rcases List.mem_or_eq_of_mem_set hu with h | h
              · exact x2 u h
              · rw [h]; rfl) J3.i.o J3.i.hs (by omega)
            rw [← flatN_succ] at ho4
            rw [World.size_setCell] at hr
            have J4 : Aside _ := (J3.gr ((Gr.refl _).alloc (.cells (Zc i).toArray 56))).app hg4 ho4
            have lxc : (Zc i).length = k56 := by rw [hxc, List.length_set]; exact x1
            clear J1 J3 bx bx2 g1 g2 hg4 ho4 hm x1 x2 x3 hxc x4
            generalize Zc i = Zi at lB hr lxc
            have hfc := fold_cells y56 Zi lxc
            have kb1 : ¬ 16777216 < k56 := by have := K.l56; omega
            have kb2 : ¬ k56 = 0 := by have := K.p56; omega
            go_wp2_with (first | (at_builtin; refine wpList_app_run rfl _ _ #[24, 24] rfl ov (.slice (some ⟨W1.heap.size, 0, none⟩) 1 1) rfl rfl _ w4 hr ?_))
            go_roundg (on - (i + 1))
            case measure => omega
            case rel => exact ⟨i + 1, v', rfl, by first | rfl | go_num, by omega, Nat.le_refl _, J4⟩
          · have h12z : ¬ (i : Int) < 20 := by omega
            obtain rfl : i = min on 20 := by omega
            go_wp2
            go_meet
            case rel => exact ⟨ov, rfl, J1⟩
        · have hltz : ¬ (i : Int) < (on : Int) := by omega
          obtain rfl : i = min on 20 := by omega
          go_wp2
          go_meet
          case rel => exact ⟨ov, rfl, J1⟩
    case rest =>
      clear J0 c1
      obtain ⟨ov, rfl, J1⟩ := hcut
      obtain ⟨oa', oc', hov⟩ := own_formk J1.out.i.o
      subst hov
      obtain ⟨m, hm⟩ : ∃ m, min fn 20 = m := ⟨_, rfl⟩
      have hmz : min ((fn : Nat) : Int) 20 = (m : Int) := by omega
      have hm2 : m ≤ fc := by omega
      have l1 := (List.getElem?_eq_some_iff.1 q1).1
      have l6 := (List.getElem?_eq_some_iff.1 q6).1
      have b0 := J1.out.i.c3
      have c1 := hold_cell (blk_hold b0) q1
      have f1 := (blk_hold b0 1 (by simpa using l1)).2
      have b1 := blk_set b0 1 (.slice oa' (min on 20) oc')
      have q6' : (SL.set 1 (.slice oa' (min on 20) oc'))[6]? = some (.slice fa fn fc) := by rw [List.getElem?_set_ne (by omega)]; exact q6
      have c6 := hold_cell (blk_hold b1) q6'
      have f6 := (blk_hold b1 6 (by simpa using l6)).2
      have b2 := blk_set b1 6 (.slice fa m fc)
      have ne : w.heap.size + 1 ≠ w.heap.size := by omega
      have b5 : ((wc.setCell ⟨w.heap.size, 1, none⟩ (.slice oa' (min on 20) oc')).setCell ⟨w.heap.size, 6, none⟩ (.slice fa m fc)).heap[w.heap.size + 1]? = some (.cells y32.toArray 32) := by
        rw [set_other ne, set_other ne]
        exact J1.out.i.c5
      have bB : Below w.heap.size w ((wc.setCell ⟨w.heap.size, 1, none⟩ (.slice oa' (min on 20) oc')).setCell ⟨w.heap.size, 6, none⟩ (.slice fa m fc)) := (J1.out.i.b.setCell (p := ⟨w.heap.size, 1, none⟩) (Nat.le_refl _) _).setCell (p := ⟨w.heap.size, 6, none⟩) (Nat.le_refl _) _
      have gS : ∀ {W : World} (j : Nat) (v : Value), W.grownBy (W.setCell ⟨w.heap.size, j, none⟩ v) (some w.heap.size) := fun j v => ⟨rfl, rfl, rfl, by simp, fun k _ hn => Below.heap_setCell _ _ _ _ (fun e => hn (by rw [e]))⟩
      have rX : ((wc.setCell ⟨w.heap.size, 1, none⟩ (.slice oa' (min on 20) oc')).setCell ⟨w.heap.size, 6, none⟩ (.slice fa m fc)).ownsRow (w.heap.size + 2) 54 k54 (.slice la (min cn 12) lc) (min cn 12) (flatN Xc (min cn 12)) := by
        have hne : (Value.slice la (min cn 12) lc).ownBlock = none ∨ (Value.slice la (min cn 12) lc).ownBlock ≠ some w.heap.size := by
          cases hv : (Value.slice la (min cn 12) lc).ownBlock with
          | none => exact .inl rfl
          | some q => exact .inr fun e => by have := (J1.out.r.lt q hv).1; injection e with e; omega
        exact (J1.out.r.kept (gS _ _) hne).kept (gS _ _) hne
      have rZ : ((wc.setCell ⟨w.heap.size, 1, none⟩ (.slice oa' (min on 20) oc')).setCell ⟨w.heap.size, 6, none⟩ (.slice fa m fc)).ownsRow bs 56 k56 (.slice oa' (min on 20) oc') (min on 20) (flatN Zc (min on 20)) := by
        have hne : (Value.slice oa' (min on 20) oc').ownBlock = none ∨ (Value.slice oa' (min on 20) oc').ownBlock ≠ some w.heap.size := by
          cases hv : (Value.slice oa' (min on 20) oc').ownBlock with
          | none => exact .inl rfl
          | some q => exact .inr fun e => by have := (J1.out.i.o.lt q hv).1; have := J1.out.i.h3; injection e with e; omega
        exact (J1.out.i.o.kept (gS _ _) hne).kept (gS _ _) hne
      have h5 := J1.out.i.h5
      have FIN : Aside _ := And.intro bB (And.intro rX rZ)
      have H5 : Aside _ := h5
      clear J1 bB rX rZ gS b0 q6' h5
      go_upto_region 17 with fail
      clear c1 c6 f1 f6
      generalize hS2 : (SL.set 1 (.slice oa' (min on 20) oc')).set 6 (.slice fa m fc) = S2 at b2
      have lS2 : S2.length = k32 := by rw [← hS2, List.length_set, List.length_set]; exact hS
      have oS2 : ∀ v ∈ S2, v.oneCell' = true := fun v hv => by
        rw [← hS2] at hv
        rcases List.mem_or_eq_of_mem_set hv with h | h
        · rcases List.mem_or_eq_of_mem_set h with h | h
          · exact OS.out v h
          · rw [h]; rfl
        · rw [h]; rfl
      have HS2 : Hid _ := hS2
      have HM : Hid _ := hm
      clear hS2 hm b1
      generalize ((wc.setCell ⟨w.heap.size, 1, none⟩ (.slice oa' (min on 20) oc')).setCell ⟨w.heap.size, 6, none⟩ (.slice fa m fc)) = W3 at b2 b5 FIN ⊢
      have B2 : W3.drew.heap[w.heap.size]? = some (.cells S2.toArray 32) := b2
      have B5 : W3.drew.heap[w.heap.size + 1]? = some (.cells y32.toArray 32) := b5
      have sA := hold_st P (blk_hold B5) S2 (lS2.trans hy2.symm) oS2
      have b6 := blk_put B5 S2 (lS2.trans hy2.symm)
      have b7 : (W3.drew.setCells (w.heap.size + 1) 0 S2).heap[w.heap.size]? = some (.cells S2.toArray 32) := by
        rw [sets_other (by omega)]
        exact B2
      have gD : Gr W3 W3.drew := (Gr.refl W3).drew
      have gB : W3.drew.grownBy (W3.drew.setCells (w.heap.size + 1) 0 S2) (some (w.heap.size + 1)) := sets_grown _ _ _ _
      obtain ⟨bB, rX, rZ⟩ := FIN.out
      have fin : Below w.heap.size w (W3.drew.setCells (w.heap.size + 1) 0 S2) ∧ (W3.drew.setCells (w.heap.size + 1) 0 S2).ownsRow (w.heap.size + 2) 54 k54 (.slice la (min cn 12) lc) (min cn 12) (flatN Xc (min cn 12)) ∧ (W3.drew.setCells (w.heap.size + 1) 0 S2).ownsRow bs 56 k56 (.slice oa' (min on 20) oc') (min on 20) (flatN Zc (min on 20)) := by
        refine ⟨below_sets (Nat.le_succ _) _ _ (gr_below bB bB.size gD), (rX.kept (gr_grown gD) (by cases hv : (Value.slice la (min cn 12) lc).ownBlock <;> simp)).kept gB ?_, (rZ.kept (gr_grown gD) (by cases hv : (Value.slice oa' (min on 20) oc').ownBlock <;> simp)).kept gB ?_⟩
        · cases hv : (Value.slice la (min cn 12) lc).ownBlock with
          | none => exact .inl rfl
          | some q => exact .inr fun e => by have := (rX.lt q hv).1; injection e with e; omega
        · cases hv : (Value.slice oa' (min on 20) oc').ownBlock with
          | none => exact .inl rfl
          | some q => exact .inr fun e => by have := (rZ.lt q hv).1; have := H5.out; injection e with e; omega
      have FIN2 : Aside _ := fin
      have lF := hold_ld P (blk_hold b6) lS2
      have B7 : Aside _ := b7
      have O1 : (fun W : World => W.heap[w.heap.size]? = some (.cells S2.toArray 32)) W3.drew := B2
      clear FIN fin bB rX rZ gB gD b6 b7 b2 b5 B5
      refine wp_region_held_drew (S := fun W : World => W.heap[w.heap.size]? = some (.cells S2.toArray 32)) mixed O1 (fun hHeld => ?_)
      refine wpAnyH_take (i := 0) (v := .slice la (min cn 12) lc) rfl (by kernel_rfl) (by kernel_rfl) (by kernel_rfl) (fun _ _ _ h => h) (Or.inl ⟨by rfl, ?_⟩) hHeld ?_
      · intro W hW
        clear hW hHeld O1 B2 sA lF
        go_simp
      simp only [Act.put, List.setIfInBounds_toArray]
      refine wpAnyH_take (i := 1) (v := .agg S2.toArray) rfl (by kernel_rfl) (by kernel_rfl) (by kernel_rfl) (fun _ _ _ h => h) (Or.inl ⟨by rfl, ?_⟩) hHeld ?_
      · intro W hW
        have l4 := hold_ld P (blk_hold hW) lS2
        clear hW hHeld O1 B2 sA lF
        go_simp
      simp only [Act.put]
      refine wpAnyH_ready (rs := [2]) (by kernel_rfl) (by simp) ?_
      refine AllReadyH.cons rfl (fun K hK => ?_) AllReadyH.nil
      go_simp
      refine hK.out _ _ hHeld (fun hHeld => ?_)
      clear hK K
      refine wpAnyH_ready (rs := [3]) (by kernel_rfl) (by simp) ?_
      refine AllReadyH.cons rfl (fun K hK => ?_) AllReadyH.nil
      go_simp
      refine hK.out _ _ B7.out (fun hHeld => ?_)
      clear hK K hHeld O1 B2 sA
      refine wpAnyH_done (by kernel_rfl) ?_ _
      generalize W3.drew.setCells (w.heap.size + 1) 0 S2 = W5 at lF FIN2 ⊢
      go_wp2
      refine bodyPost_ret (v := .tuple #[.slice la (min cn 12) lc, .agg S2.toArray]) (by simp [results, go_sem, Try.results9, a32, z32, lF]) rfl ?_
      obtain ⟨h1, h2, h3⟩ := FIN2.out
      refine ⟨la, lc, oa', oc', ?_, h1, ownk_mono h2 (by omega), ownk_mono h3 (by have := H5.out; omega)⟩
      rw [← HS2.out, HM.out]
end Go.Proofs.Ytgbhmkdldfhamaa.charsOf
/-
  Chapter 14: what cut leaves, in memory.
-/
namespace Go.Proofs.Ytgbhmkdldfhamaa.charsOf
open Go.Shelf Go.RowKit Go.Lib Go.Sort
theorem inf_of {e k b : Nat} {z : Value} (h : (Try.prog.info? e).map (fun i => (i.zero, i.size, i.bytes)) = some (some z, k, b)) (hz : z.cells.size = k) (hb : b ≤ 1000) : ∃ i z, Try.prog.info? e = some i ∧ i.zero = some z ∧ z.cells.size = k ∧ i.size = k ∧ i.bytes ≤ 1000 := by
  cases hi : Try.prog.info? e with
  | none => rw [hi] at h; cases h
  | some i =>
    rw [hi] at h
    injection h with h
    injection h with h1 h2
    injection h2 with h2 h3
    exact ⟨i, z, rfl, h1, hz, h2, by rw [h3]; exact hb⟩
def zS : Sv := ⟨[], none, 0, [], none, 0, fun k => if k ≤ 8 then .slice none 0 0 else if k = 21 then .slice none 0 0 else if k = 22 then .bool false else .int .i64 0⟩
theorem layK : LayK Try.prog 25 14 11 zS.arr.toList where
  f9 := Try.func9
  v32 := Try.zeroValue32
  i54 := inf_of (z := .agg zC.arr) (b := 112) (by kernel_rfl) rfl (by decide)
  i56 := inf_of (z := .agg zO.arr) (b := 112) (by kernel_rfl) rfl (by decide)
  p54 := by decide
  p56 := by decide
  l54 := by decide
  l56 := by decide
theorem flatN_get {f : Nat → List Value} {k : Nat} : ∀ {n : Nat}, (∀ i, i < n → (f i).length = k) → ∀ i j, i < n → j < k → (flatN f n)[i * k + j]? = (f i)[j]?
  | 0, _, i, j, hi, _ => by omega
  | n + 1, h, i, j, hi, hj => by
    have hl := flatN_len (f := f) (k := k) (n := n) fun i hi => h i (by omega)
    rw [flatN_succ]
    rcases Nat.lt_or_ge i n with h' | h'
    · have : i * k + j < n * k := Nat.lt_of_lt_of_le (Nat.add_lt_add_left hj _) (by have := Nat.mul_le_mul_right k h'; rw [Nat.succ_mul] at this; exact this)
      rw [List.getElem?_append_left (by rw [hl]; exact this)]
      exact flatN_get (fun i hi => h i (by omega)) i j h' hj
    · obtain rfl : i = n := by omega
      rw [List.getElem?_append_right (by rw [hl]; omega), hl]
      congr 1
      omega
theorem own_rows {W : World} {base e k n c : Nat} {a : Option Addr} {f : Nat → List Value} (h : W.ownsRow base e k (.slice a n c) n (flatN f n)) (hf : ∀ i, i < n → (f i).length = k) : Rows W a k ((List.range n).map fun i => (f i).toArray) := by
  rcases h.2 with ⟨_, rfl⟩ | ⟨g, cap, cur, hv, _, hg, _⟩
  · exact .inl rfl
  · injection hv with hv _ hc
    subst hv hc
    refine .inr ⟨g, 0, rfl, blk_lt hg, fun i x hx j v hv => ?_⟩
    obtain ⟨hi, rfl⟩ := List.getElem?_eq_some_iff.1 hx
    simp only [List.length_map, List.length_range] at hi
    simp only [List.getElem_map, List.getElem_range] at hv
    have hv' : (f i)[j]? = some v := by simpa using hv
    have hj : j < k := by rw [← hf i hi]; exact (List.getElem?_eq_some_iff.1 hv').1
    have hlt : i * k + j < n * k := Nat.lt_of_lt_of_le (Nat.add_lt_add_left hj _) (by have := Nat.mul_le_mul_right k hi; rw [Nat.succ_mul] at this; exact this)
    rw [Nat.zero_add, h.cellAt (i * k + j) hlt, flatN_get hf i j hi hj, hv']
theorem Rows.take {w : World} {a : Option Addr} {k : Nat} {l : List (Array Value)} (h : Rows w a k l) (n : Nat) : Rows w a k (l.take n) := by
  rcases h with rfl | ⟨B, O, e, hb, h⟩
  · exact .inl (by simp)
  · refine .inr ⟨B, O, e, hb, fun i x hx j v hv => h i x ?_ j v hv⟩
    rw [List.getElem?_take] at hx
    split at hx
    · exact hx
    · cases hx
/-- Cards and a state as they came in. -/
structure Dr (w : World) (cs : List Cv) (ca : Option Addr) (s : Sv) (A : Nat → List Av) (E : Nat → List Ef) : Prop where
  o : Rows w s.oa 14 (s.os.map Ov.arr)
  f : Rows w s.fa 1 (s.fs.map fun n => #[.int .i64 n])
  hC : Rows w ca 11 (cs.map Cv.arr)
  hA : ∀ i (h : i < cs.length), (A i).length = cs[i].an ∧ cs[i].an ≤ cs[i].ac ∧ Rows w cs[i].aa 13 ((A i).map Av.arr) ∧ ∀ a ∈ A i, ∀ v ∈ a.arr.toList, v.oneCell' = true
  hE : ∀ i (h : i < s.os.length), (E i).length = s.os[i].en ∧ s.os[i].en ≤ s.os[i].ec ∧ Rows w s.os[i].ea 4 ((E i).map fun x => (encE x).toArray)
  hf : s.fs.length ≤ s.fc
  hr : ∀ k, (s.r k).oneCell' = true
def cutC (c : Cv) : Cv := { c with an := min c.an 5 }
def cutO (o : Ov) : Ov := { o with en := min o.en 8 }
def cutS (s : Sv) (oa : Option Addr) (oc : Nat) : Sv := { s with os := (s.os.take 20).map cutO, oa := oa, oc := oc, fs := s.fs.take 20 }
theorem cut_Dw {w w' : World} {cs : List Cv} {ca la : Option Addr} {s : Sv} {A : Nat → List Av} {E : Nat → List Ef} (D : Dr w cs ca s A E) (b : Below w.heap.size w w') (lc oc : Nat) (oa : Option Addr)
    (h1 : w'.ownsRow w.heap.size 54 11 (.slice la (min cs.length 12) lc) (min cs.length 12) (flatN (fun i => (cutC cs[i]!).arr.toList) (min cs.length 12)))
    (h2 : w'.ownsRow w.heap.size 56 14 (.slice oa (min s.os.length 20) oc) (min s.os.length 20) (flatN (fun i => (cutO s.os[i]!).arr.toList) (min s.os.length 20))) : Dw w' ((cs.take 12).map cutC) la (cutS s oa oc) (fun i => (A i).take 5) (fun i => (E i).take 8) := by
  have r1 := own_rows h1 fun _ _ => rfl
  have r2 := own_rows h2 fun _ _ => rfl
  have e1 : (List.range (min cs.length 12)).map (fun i => (cutC cs[i]!).arr.toList.toArray) = (((cs.take 12).map cutC).map Cv.arr) := by
    apply List.ext_getElem
    · simp [Nat.min_comm]
    · intro i h _
      simp only [List.length_map, List.length_range] at h
      simp only [List.getElem_map, List.getElem_range, List.getElem_take, Array.toArray_toList]
      rw [getElem!_pos cs i (by omega)]
  have e2 : (List.range (min s.os.length 20)).map (fun i => (cutO s.os[i]!).arr.toList.toArray) = (((s.os.take 20).map cutO).map Ov.arr) := by
    apply List.ext_getElem
    · simp [Nat.min_comm]
    · intro i h _
      simp only [List.length_map, List.length_range] at h
      simp only [List.getElem_map, List.getElem_range, List.getElem_take, Array.toArray_toList]
      rw [getElem!_pos s.os i (by omega)]
  rw [e1] at r1
  rw [e2] at r2
  refine ⟨⟨r2, ?_, ?_, ?_⟩, r1, ?_, fun i hi => ?_, fun i hi => ?_⟩
  · have := (D.f.below b).take 20
    rw [← List.map_take] at this
    exact this
  · show ((s.os.take 20).map cutO).length < _
    rw [List.length_map, List.length_take]
    omega
  · show (s.fs.take 20).length < _
    rw [List.length_take]
    omega
  · show (s.fs.take 20).length ≤ _
    rw [List.length_take]
    omega
  · simp only [List.length_map, List.length_take] at hi
    simp only [List.getElem_map, List.getElem_take]
    obtain ⟨a1, a2, a3, a4⟩ := D.hA i (by omega)
    refine ⟨?_, ?_, ?_, fun a ha => a4 a (List.mem_of_mem_take ha)⟩
    · show ((A i).take 5).length = min cs[i].an 5
      rw [List.length_take, a1, Nat.min_comm]
    · show min cs[i].an 5 ≤ 1000
      omega
    · have := (a3.below b).take 5
      rw [← List.map_take] at this
      exact this
  · have hi' : i < ((s.os.take 20).map cutO).length := hi
    simp only [List.length_map, List.length_take] at hi'
    have e : (cutS s oa oc).os[i] = cutO s.os[i] := by
      have k : ((s.os.take 20).map cutO)[i]'(by simpa using hi') = cutO s.os[i] := by rw [List.getElem_map, List.getElem_take]
      exact k
    rw [e]
    obtain ⟨a1, a2, a3⟩ := D.hE i (by omega)
    refine ⟨?_, ?_, ?_⟩
    · show ((E i).take 8).length = min s.os[i].en 8
      rw [List.length_take, a1, Nat.min_comm]
    · show min s.os[i].en 8 ≤ 1000
      omega
    · have := (a3.below b).take 8
      rw [← List.map_take] at this
      exact this
end Go.Proofs.Ytgbhmkdldfhamaa.charsOf
/-
  Chapter 14: both sides tell alike, of a state in memory.
-/
namespace Go.Proofs.Ytgbhmkdldfhamaa.charsOf
open Go.Shelf Go.RowKit Go.Lib Go.Sort
theorem ex_Qe (all : List Ef) : ∃ R, Qe all R := by
  obtain ⟨h2, h3⟩ := ins_stb (lt := ltOf cmpE) cmpE_swo (a := 0) (b := (all.filter hasL).toArray.size) (d := (all.filter hasL).toArray) (Nat.zero_le _) (Nat.le_refl _)
  generalize insertionSort (ltOf cmpE) (all.filter hasL).toArray 0 (all.filter hasL).toArray.size = d' at h2 h3
  have hz : d'.size = (all.filter hasL).toArray.size := h2.sz
  have h5 := h2.st
  rw [seg_all] at h5
  rw [← hz] at h5
  rw [seg_all] at h5
  refine ⟨d'.toList, h5, ?_⟩
  refine List.pairwise_iff_getElem.2 fun i j hi hj hij => ?_
  have := h3 i j (Nat.zero_le _) hij (by rw [← hz]; simpa using hj)
  rw [getElem!_pos d' i (by simpa using hi), getElem!_pos d' j (by simpa using hj)] at this
  simpa using this
/-- What both sides tell of an object. -/
structure Both (P : Program) (w : World) (cv sv : Value) (id : Int) : Prop where
  of : ∃ (x y z : Int) (b : Bool), (∀ W, Below w.heap.size w W → Calls P 10 #[cv, sv, .int .i64 id] W fun e w' => e = .returned (.tuple #[.agg [.int .i64 x, .int .i64 y, .int .i64 z].toArray, .bool b]) ∧ Below W.heap.size W w') ∧ (∀ W, Below w.heap.size w W → Calls P 11 #[cv, sv, .int .i64 id] W fun e w' => e = .returned (.tuple #[.agg [.int .i64 x, .int .i64 y, .int .i64 z].toArray, .bool b]) ∧ Below W.heap.size W w')
  ef : ∃ R : List Ef, R.length ≤ 1000000 ∧ (∀ W, Below w.heap.size w W → Calls P 13 #[cv, sv, .int .i64 id] W fun e w' => ∃ a c, e = .returned (.slice a R.length c) ∧ Below W.heap.size W w' ∧ HoldL w' a R) ∧ (∀ W, Below w.heap.size w W → Calls P 14 #[cv, sv, .int .i64 id] W fun e w' => ∃ a c, e = .returned (.slice a R.length c) ∧ Below W.heap.size W w' ∧ HoldL w' a R)
theorem both {w : World} {cs : List Cv} {ca : Option Addr} {s : Sv} {A : Nat → List Av} {E : Nat → List Ef} (D : Dw w cs ca s A E) (cc : Nat) (id : Int) : Both Try.prog w (.slice ca cs.length cc) (.agg s.arr) id := by
  cases h : (bst cs s id).2.2 with
  | false =>
    refine ⟨⟨0, 0, 0, false, fun W k => of_nil (D.below k) cc id h, fun W k => rof_nil (D.below k) cc id h⟩, ⟨[], by simp, fun W k => (ef_nil (D.below k) cc id h).mono ?_, fun W k => (ref_nil (D.below k) cc id h).mono ?_⟩⟩
    · rintro e w' ⟨h1, h2⟩
      exact ⟨none, 0, h1, h2, .inl rfl⟩
    · rintro e w' ⟨h1, h2⟩
      exact ⟨none, 0, h1, h2, .inl rfl⟩
  | true =>
    obtain ⟨R, hR⟩ := ex_Qe (allE cs s A E id)
    obtain ⟨⟨x, y, z⟩, hV⟩ : ∃ V, V = foldE R ((bst cs s id).2.1.pow, (bst cs s id).2.1.tou, (bst cs s id).2.1.keys) := ⟨_, rfl⟩
    refine ⟨⟨x, y, z, true, fun W k => (of_all (D.below k) cc id h).mono ?_, fun W k => (rof_all (D.below k) cc id h).mono ?_⟩, ⟨R, Nat.le_trans hR.le (all_le D id h), fun W k => (ef_all (D.below k) cc id h).mono ?_, fun W k => (ref_all (D.below k) cc id h).mono ?_⟩⟩
    · rintro e w' ⟨S, h1, h2, h3⟩
      obtain rfl := h1.uniq hR
      rw [← hV] at h2
      exact ⟨h2, h3⟩
    · rintro e w' ⟨S, h1, h2, h3⟩
      obtain rfl := h1.uniq hR
      rw [← hV] at h2
      exact ⟨h2, h3⟩
    · rintro e w' ⟨a, c, S, h1, h2, h3, h4⟩
      obtain rfl := h2.uniq hR
      exact ⟨a, c, h1, h3, h4⟩
    · rintro e w' ⟨a, c, S, h1, h2, h3, h4⟩
      obtain rfl := h2.uniq hR
      exact ⟨a, c, h1, h3, h4⟩
end Go.Proofs.Ytgbhmkdldfhamaa.charsOf
/-
  Chapter 14: CharsOf, walked.
-/
namespace Go.Proofs.Ytgbhmkdldfhamaa.charsOf
open Go.Shelf Go.RowKit Go.Lib Go.Sort
/-- What CharsOf needs of the program besides. -/
structure LayF (P : Program) : Prop where
  f3 : P.funcs[3]? = some Try.f3
  e9 : ∀ args w, (callFunc 9 args).run P w = .ok (.enter 9 args) w
  e10 : ∀ args w, (callFunc 10 args).run P w = .ok (.enter 10 args) w
  e11 : ∀ args w, (callFunc 11 args).run P w = .ok (.enter 11 args) w
  e12 : ∀ args w, (callFunc 12 args).run P w = .ok (.enter 12 args) w
  e15 : ∀ args w, (callFunc 15 args).run P w = .ok (.enter 15 args) w
  t33 : P.underlying 33 = some (.tuple #[22, 32])
  t37 : P.underlying 37 = some (.tuple #[36, 4])
  i3 : ∃ i, P.info? 3 = some i ∧ i.zero = some (.int .i64 0) ∧ i.size = 1 ∧ i.bytes = 8
  g36 : ∀ s t (xs ys : Array Value) W, Sem.run P (eqGuard .neq 36 s t (.agg xs) (.agg ys)) W = .ok () W
  n36 : ∀ a b c W, Sem.run P (binOp .neq 36 (.agg #[.int .i64 a, .int .i64 b, .int .i64 c]) (.agg #[.int .i64 a, .int .i64 b, .int .i64 c])) W = .ok (.bool false) W
def intsV (l : List Int) : List Value := l.map fun n => .int .i64 n
/-- What is held while CharsOf goes through the ids. -/
structure Fi (w : World) (b8 bs : Nat) (S2 : List Value) (iv : Value) (ids : List Int) (W : World) : Prop where
  b : Below w.heap.size w W
  c8 : W.heap[b8]? = some (.cells S2.toArray 32)
  o : W.ownsRow bs 3 1 iv ids.length (intsV ids)
theorem Fi.below {w : World} {b8 bs : Nat} {S2 : List Value} {iv : Value} {ids : List Int} {W W' : World} (h : Fi w b8 bs S2 iv ids W) (k : Below W.heap.size W W') : Fi w b8 bs S2 iv ids W' :=
  ⟨h.b.trans (k.mono h.b.size), by rw [k.block b8 (blk_lt h.c8)]; exact h.c8, by
    refine ⟨h.o.1, ?_⟩
    rcases h.o.2 with e | ⟨g, cap, cur, hv, hg, hc, hr⟩
    · exact .inl e
    · exact .inr ⟨g, cap, cur, hv, hg, by rw [k.block g (blk_lt hc)]; exact hc, hr⟩⟩
theorem Fi.rd {w : World} {b8 bs g n c : Nat} {S2 : List Value} {ids : List Int} {W : World} (h : Fi w b8 bs S2 (.slice (some ⟨g, 0, none⟩) n c) ids W) {i : Nat} (hi : i < ids.length) (hn : n = ids.length) : W.cell? ⟨g, i, none⟩ = some (.int .i64 ids[i]) := by
  subst hn
  rw [h.o.cellAt i (by omega)]
  simp [intsV, hi]
/-- The same, and boxes of numbers. -/
structure Fl (w : World) (b8 bs : Nat) (S2 : List Value) (iv : Value) (ids : List Int) (V : List Value) (bx : List Nat) (W : World) : Prop where
  i : Fi w b8 bs S2 iv ids W
  p : ∀ B ∈ bx, W.heap[B]? = some (.cells V.toArray 36)
theorem Fl.below {w : World} {b8 bs : Nat} {S2 : List Value} {iv : Value} {ids : List Int} {V : List Value} {bx : List Nat} {W W' : World} (h : Fl w b8 bs S2 iv ids V bx W) (k : Below W.heap.size W W') : Fl w b8 bs S2 iv ids V bx W' :=
  ⟨h.i.below k, fun B hB => by rw [k.block B (blk_lt (h.p B hB))]; exact h.p B hB⟩
theorem Fl.more {w : World} {b8 bs : Nat} {S2 : List Value} {iv : Value} {ids : List Int} {V : List Value} {bx : List Nat} {W : World} (h : Fl w b8 bs S2 iv ids V bx W) {B : Nat} (hB : W.heap[B]? = some (.cells V.toArray 36)) : Fl w b8 bs S2 iv ids V (B :: bx) W :=
  ⟨h.i, fun C hC => by
    rcases List.mem_cons.1 hC with rfl | hC
    · exact hB
    · exact h.p C hC⟩
set_option maxHeartbeats 8000000 in
set_option maxRecDepth 100000 in
theorem law_calls {P : Program} {k32 k56 k54 k74 : Nat} {y56 y54 y74 y32 : List Value} (L : LayD P k32 k56 k54 k74 y56 y54 y74) (E : LayE P) (R' : LayR P) (K : LayK P k32 k56 k54 y32) (F : LayF P) (hy2 : y32.length = k32) (ca : Option Addr) (cn cc : Nat) (SL : List Value) (hS : SL.length = k32) (id : Int) (w : World)
    (h9 : ∀ W, Gr w W → Calls P 9 #[.slice ca cn cc, .agg SL.toArray] W fun e w' => ∃ n1 la lc S2 fa fs fc, e = .returned (.tuple #[.slice la n1 lc, .agg (List.toArray S2)]) ∧ S2.length = k32 ∧ (∀ v ∈ S2, v.oneCell' = true) ∧ S2[6]? = some (.slice fa (List.length fs) fc) ∧ fs.length ≤ 20 ∧ Rows w' fa 1 (fs.map fun n => #[.int .i64 n]) ∧ Below W.heap.size W w' ∧ ∀ id, Both P w' (.slice la n1 lc) (.agg S2.toArray) id)
    (h12 : ∀ (R : List Ef) (a b : Option Addr) (c d : Nat) (W : World), R.length ≤ 1000000 → HoldL W a R → HoldL W b R → Calls P 12 #[.slice a R.length c, .slice b R.length d] W fun e w' => e = .returned (.bool true) ∧ Below W.heap.size W w')
    (h15 : ∀ W, Calls P 15 #[] W fun e w' => e = .returned (.bool true) ∧ Below W.heap.size W w') :
    Calls P 3 #[.slice ca cn cc, .agg SL.toArray, .int .i64 id] w fun e w' => e = .returned (.bool true) ∧ Below w.heap.size w w' := by
  have mixed := L.c.mixed; have t3 := L.c.t3; have a3 := L.c.a3; have z3 := L.c.z3; have t4 := L.c.t4; have a4 := L.c.a4; have z4 := L.c.z4; have t22 := L.c.t22; have a22 := L.c.a22; have z22 := L.c.z22; have t26 := L.c.t26; have a26 := L.c.a26; have z26 := L.c.z26; have qu26 := run_underlying L.c.t26; have qu3 := run_underlying L.c.t3; have v3 := L.c.v3; have qu32 := run_underlying L.c.t32; have a32 := L.c.a32; have z32 := L.c.z32; have v32 := K.v32; have t40 := L.c.t40; have a40 := L.c.a40; have z40 := L.c.z40; have qu36 := run_underlying E.t36; have a36 := E.a36; have z36 := E.z36; have v36 := E.v36; have t33 := F.t33; have t37 := F.t37
  have e9 := F.e9; have e10 := F.e10; have e11 := F.e11; have e12 := F.e12; have e13 := E.e13; have e14 := R'.e14; have e15 := F.e15
  have g0 : Gr w (w.alloc (.cells SL.toArray 32)) := (Gr.refl _).alloc _
  have l4 := hold_ld P (hold_new w SL 32) hS
  have H9 : Aside _ := h9
  have G0 : Aside _ := g0
  have H12 : Aside _ := h12
  have H15 : Aside _ := h15
  have B0 : Aside _ := (show Below w.heap.size w (w.alloc (.cells SL.toArray 32)) from gr_below (.refl _ _) (Nat.le_refl _) g0)
  clear h9 h12 h15 g0
  go_enter F.f3, Try.ntmps3
  go_upto_region 2 with (first | (go_at_fn 9; refine (H9.out _ G0.out).mono ?_; rintro e w1 ⟨n1, la, lc, S2, fa, fs, fc, rfl, s1, s2, s6, s3, s4, s5, s7⟩; have sA := hold_st P (hold_new w1 y32 32) S2 (s1.trans hy2.symm) s2; have S7 : Aside _ := s7; have S45 : Aside _ := (And.intro s4 s5); clear s4 s5 s7))
  have g8 : Gr w1 ((w1.alloc (.cells y32.toArray 32)).setCells w1.heap.size 0 S2) := Gr.sets (W := w1) _ (Nat.le_refl _) _ _ ((Gr.refl _).alloc _)
  have b8 := blk_put (blk_new w1 (.cells y32.toArray 32)) S2 (s1.trans hy2.symm)
  have bw : Below w1.heap.size w1 ((w1.alloc (.cells y32.toArray 32)).setCells w1.heap.size 0 S2) := gr_below (.refl _ _) (Nat.le_refl _) g8
  clear sA g8 l4
  generalize (w1.alloc (.cells y32.toArray 32)).setCells w1.heap.size 0 S2 = W1 at b8 bw ⊢
  generalize hb8 : w1.heap.size = n8 at b8 ⊢
  obtain ⟨i3, j1, j2, j3, j4⟩ := F.i3
  have o0 := World.ownsRow_lit (e := 3) (size := 1) (base := W1.heap.size) W1 #[.int .i64 id] 1 (Nat.le_refl _) (by decide) rfl
  have b8' := blk_old b8 (.cells #[.int .i64 id] 3)
  have c6' := hold_cell (blk_hold b8') s6
  have bw' := bw.alloc bw.size (.cells #[.int .i64 id] 3)
  have rf := S45.out.1.below bw'
  obtain ⟨iv, w2, hr, ho, hg⟩ := run_app_any (P := P) (ty := 26) (t := 26) (tx := 26) t26 t26 j1 j2 (by rw [j3]; rfl) (by rw [j3]; decide) (by rw [j3]; exact o0) fa fs.length fc (intsV fs) (by rw [j3]; simp [intsV]) (fun h => by
      rcases rf with h' | ⟨B, O, e, _⟩
      · rw [List.map_eq_nil_iff.1 h']; rfl
      · rw [h] at e; cases e) (fun ad had j u hu => by
      rcases rf with h' | ⟨B, O, e, _, h'⟩
      · rw [List.map_eq_nil_iff.1 h'] at hu
        simp [intsV] at hu
      · rw [had] at e
        injection e with e
        subst e
        simp only [intsV, List.getElem?_map, Option.map_eq_some_iff] at hu
        obtain ⟨n, hn, rfl⟩ := hu
        have := h' j #[.int .i64 n] (by simp [hn]) 0 _ rfl
        rw [Addr.add_lit]
        simpa using this) (fun u hu => by
      simp only [intsV, List.mem_map] at hu
      obtain ⟨n, _, rfl⟩ := hu
      rfl) (Nat.le_trans (show 1 + fs.length ≤ 21 by omega) (by decide)) (by rw [j4]; exact Nat.le_trans (Nat.mul_le_mul_right 8 (show 1 + fs.length ≤ 21 by omega)) (by decide)) (by simp)
  rw [j3] at ho
  have I0 : Aside _ := (show Fi w1 n8 W1.heap.size S2 iv (id :: fs) w2 from by
    refine ⟨bw'.grown hg (by have := bw'.size; omega) (fun k hk => ?_), ?_, ?_⟩
    · simp only [Value.ownBlock, Option.some.injEq] at hk
      have := bw.size
      omega
    · rw [hg.block n8 (blk_lt b8') (by simp [Value.ownBlock]; have := blk_lt b8; omega)]
      exact b8'
    · have e : (id :: fs).length = 1 + fs.length := by simp; omega
      rw [e]
      exact ho)
  have BW : Aside _ := (show Below w.heap.size w w1 from B0.out.trans (S45.out.2.mono B0.out.size))
  have hids : (id :: fs).length ≤ 21 := by simp; omega
  generalize hq : W1.heap.size = bs at I0
  clear hq b8 bw o0 b8' bw' rf ho hg j1 j2 j3 j4 H9 S45
  generalize hid : id :: fs = ids at I0 hids
  clear hid s6 s3
  go_upto_block 0 with (first | (at_builtin; refine wpList_app_run rfl _ _ #[26, 26] rfl (.slice (some ⟨W1.heap.size, 0, none⟩) 1 1) (.slice fa fs.length fc) rfl rfl _ w2 hr ?_))
  clear c6' hr
  generalize W1.heap.size = dead at *
  go_wp2
  go_loopg [10] ids.length (fun kx s10 wr => ∃ i : Nat, s10 = .int .i64 i ∧ i ≤ ids.length ∧ ids.length - i ≤ kx ∧ Aside (Fi w1 n8 bs S2 iv ids wr))
  case atStart => exact ⟨0, rfl, Nat.zero_le _, Nat.le_refl _, I0⟩
  case round =>
    clear I0
    obtain ⟨i, rfl, hi, hkx, I1⟩ := hrel
    have wj : IntKind.i64.wrap ((i : Int) + 1) = (i : Int) + 1 := by rw [IntKind.wrap_i64]; omega
    obtain ⟨ig, ic, hiv⟩ := own_formk I1.out.o
    subst hiv
    by_cases hlt : i < ids.length
    · have hltz : (i : Int) < (ids.length : Int) := by omega
      obtain ⟨g, hg⟩ : ∃ g, ig = some ⟨g, 0, none⟩ := by
        rcases I1.out.o.2 with ⟨h, h0⟩ | ⟨g, cap, cur, h, _⟩
        · omega
        · injection h with h _ _
          exact ⟨g, h⟩
      subst hg
      have rd := fun W (h : Fi w1 n8 bs S2 (.slice (some ⟨g, 0, none⟩) ids.length ic) ids W) => h.rd hlt rfl
      generalize ids[i] = n at rd
      obtain ⟨⟨x, y, z, b, a10, a11⟩, ⟨R, hR, a13, a14⟩⟩ := S7.out n
      have nV := F.n36 x y z
      have gV := F.g36
      change ∀ W, Sem.run P (binOp .neq 36 (.agg [.int .i64 x, .int .i64 y, .int .i64 z].toArray) (.agg [.int .i64 x, .int .i64 y, .int .i64 z].toArray)) W = _ at nV
      have hV3 : [Value.int .i64 x, .int .i64 y, .int .i64 z].length = 3 := rfl
      have hV1 : ∀ v ∈ [Value.int .i64 x, .int .i64 y, .int .i64 z], v.oneCell' = true := by
        intro v hv
        simp only [List.mem_cons, List.not_mem_nil, or_false] at hv
        rcases hv with rfl | rfl | rfl <;> rfl
      generalize [Value.int .i64 x, .int .i64 y, .int .i64 z] = V at a10 a11 nV hV3 hV1
      have A10 : Aside _ := a10
      have A11 : Aside _ := a11
      have A13 : Aside _ := a13
      have A14 : Aside _ := a14
      have HR : Aside _ := hR
      clear a10 a11 a13 a14 hR
      go_upto_region 6 with fail
      have I2 : Aside _ := (show Fl w1 n8 bs S2 (.slice (some ⟨g, 0, none⟩) ids.length ic) ids V [] wr from ⟨I1.out, fun B hB => by cases hB⟩)
      clear I1
      go_cut [11, 12] from 26 to 77 (fun s11 s12 wc => ∃ B : Nat, s11 = .pointer (some ⟨B, 0, none⟩) ∧ s12 = .bool b ∧ Aside (Fl w1 n8 bs S2 (.slice (some ⟨g, 0, none⟩) ids.length ic) ids V [B] wc))
      case first =>
        have O1 := I2.out.below (gr_below (.refl _ _) (Nat.le_refl _) ((Gr.refl wr).drew))
        refine wp_region_held_drew (S := Fl w1 n8 bs S2 (.slice (some ⟨g, 0, none⟩) ids.length ic) ids V []) mixed O1 (fun hHeld => ?_)
        refine wpAnyH_take (i := 0) (v := .slice la n1 lc) rfl (by kernel_rfl) (by kernel_rfl) (by kernel_rfl) (fun _ _ _ h => h) (Or.inl ⟨by rfl, ?_⟩) hHeld ?_
        · intro W hW
          clear hW hHeld O1
          go_simp
        simp only [Act.put, List.getElem_toArray, List.getElem_cons_zero, List.setIfInBounds_toArray, List.set_cons_zero, List.set_cons_succ]
        refine wpAnyH_take (i := 1) (v := .agg S2.toArray) rfl (by kernel_rfl) (by kernel_rfl) (by kernel_rfl) (fun _ _ _ h => h) (Or.inl ⟨by rfl, ?_⟩) hHeld ?_
        · intro W hW
          have l4 := hold_ld P (blk_hold hW.i.c8) s1
          clear hW hHeld O1
          go_simp
        simp only [Act.put, List.getElem_toArray, List.getElem_cons_zero, List.getElem_cons_succ, List.setIfInBounds_toArray, List.set_cons_zero, List.set_cons_succ]
        refine wpAnyH_take (i := 2) (v := .slice (some ⟨g, 0, none⟩) ids.length ic) rfl (by kernel_rfl) (by kernel_rfl) (by kernel_rfl) (fun _ _ _ h => h) (Or.inl ⟨by rfl, ?_⟩) hHeld ?_
        · intro W hW
          clear hW hHeld O1
          go_simp
        simp only [Act.put, List.getElem_toArray, List.getElem_cons_zero, List.getElem_cons_succ, List.setIfInBounds_toArray, List.set_cons_zero, List.set_cons_succ]
        refine wpAnyH_take (i := 3) (v := .int .i64 i) rfl (by kernel_rfl) (by kernel_rfl) (by kernel_rfl) (fun _ _ _ h => h) (Or.inl ⟨by rfl, ?_⟩) hHeld ?_
        · intro W hW
          clear hW hHeld O1
          go_simp
        simp only [Act.put, List.getElem_toArray, List.getElem_cons_zero, List.getElem_cons_succ, List.setIfInBounds_toArray, List.set_cons_zero, List.set_cons_succ]
        refine wpAnyH_take (i := 4) (v := .pointer (some ⟨g, i, none⟩)) rfl (by kernel_rfl) (by kernel_rfl) (by kernel_rfl) (fun _ _ _ h => h) (Or.inl ⟨by rfl, ?_⟩) hHeld ?_
        · intro W hW
          clear hW hHeld O1
          go_simp
        simp only [Act.put, List.getElem_toArray, List.getElem_cons_zero, List.getElem_cons_succ, List.setIfInBounds_toArray, List.set_cons_zero, List.set_cons_succ]
        refine wpAnyH_take (i := 5) (v := .int .i64 n) rfl (by kernel_rfl) (by kernel_rfl) (by kernel_rfl) (fun _ _ _ h => h) (Or.inl ⟨by rfl, ?_⟩) hHeld ?_
        · intro W hW
          have c := rd W hW.i
          clear hW hHeld O1
          go_simp
        simp only [Act.put, List.getElem_toArray, List.getElem_cons_zero, List.getElem_cons_succ, List.setIfInBounds_toArray, List.set_cons_zero, List.set_cons_succ]
        refine wpAnyH_ready (rs := [6, 10]) (by kernel_rfl) (by simp) ?_
        refine AllReadyH.cons rfl (fun K hK => ?_) (AllReadyH.cons rfl (fun K hK => ?_) AllReadyH.nil)
        · go_simp
          refine (A10.out _ hHeld.i.b).mono ?_
          rintro e w3 ⟨rfl, hB⟩
          have O2 := hHeld.below hB
          refine hK.out _ _ O2 (fun hHeld => ?_)
          clear hK K
          refine wpAnyH_take (i := 7) (v := .tuple #[.agg V.toArray, .bool b]) rfl (by kernel_rfl) (by kernel_rfl) (by kernel_rfl) (fun _ _ _ h => h) (Or.inl ⟨by rfl, ?_⟩) hHeld ?_
          · intro W hW
            clear hW hHeld
            go_simp
          simp only [Act.put, List.getElem_toArray, List.getElem_cons_zero, List.getElem_cons_succ, List.setIfInBounds_toArray, List.set_cons_zero, List.set_cons_succ]
          refine wpAnyH_take (i := 8) (v := .agg V.toArray) rfl (by kernel_rfl) (by kernel_rfl) (by kernel_rfl) (fun _ _ _ h => h) (Or.inl ⟨by rfl, ?_⟩) hHeld ?_
          · intro W hW
            clear hW hHeld
            go_simp
          simp only [Act.put, List.getElem_toArray, List.getElem_cons_zero, List.getElem_cons_succ, List.setIfInBounds_toArray, List.set_cons_zero, List.set_cons_succ]
          refine wpAnyH_take (i := 9) (v := .bool b) rfl (by kernel_rfl) (by kernel_rfl) (by kernel_rfl) (fun _ _ _ h => h) (Or.inl ⟨by rfl, ?_⟩) hHeld ?_
          · intro W hW
            clear hW hHeld
            go_simp
          simp only [Act.put, List.getElem_toArray, List.getElem_cons_zero, List.getElem_cons_succ, List.setIfInBounds_toArray, List.set_cons_zero, List.set_cons_succ]
          refine wpAnyH_ready (rs := [10]) (by kernel_rfl) (by simp) ?_
          refine AllReadyH.cons rfl (fun K hK => ?_) AllReadyH.nil
          go_simp
          have O3 := O2.below (gr_below (.refl _ _) (Nat.le_refl _) ((Gr.refl w3).alloc (.cells #[.int .i64 0, .int .i64 0, .int .i64 0] 36)))
          refine hK.out _ _ O3 (fun hHeld => ?_)
          clear hK K
          have bn := blk_new w3 (.cells [Value.int .i64 0, .int .i64 0, .int .i64 0].toArray 36)
          have O4 := O2.below (gr_below (.refl _ _) (Nat.le_refl _) (Gr.sets (W := w3) w3.heap.size (Nat.le_refl _) V 0 ((Gr.refl w3).alloc (.cells #[.int .i64 0, .int .i64 0, .int .i64 0] 36))))
          have sA := hold_st P (blk_hold bn) V hV3 hV1
          have bV := blk_put bn V hV3
          have BV : Aside _ := bV
          clear bn bV
          refine wpAnyH_ready (rs := [11]) (by kernel_rfl) (by simp) ?_
          refine AllReadyH.cons rfl (fun K hK => ?_) AllReadyH.nil
          go_simp
          refine hK.out _ _ O4 (fun hHeld => ?_)
          clear hK K sA
          refine wpAnyH_ready (rs := [12]) (by kernel_rfl) (by simp) ?_
          refine AllReadyH.cons rfl (fun K hK => ?_) AllReadyH.nil
          go_simp
          refine hK.out _ _ O4 (fun hHeld => ?_)
          clear hK K
          refine wpAnyH_done (by kernel_rfl) ?_ _
          go_wp2_with fail
          go_meet
          case rel => exact ⟨w3.heap.size, rfl, rfl, O4.more BV.out⟩
        · go_simp
          have O3 := O1.below (gr_below (.refl _ _) (Nat.le_refl _) ((Gr.refl wr.drew).alloc (.cells #[.int .i64 0, .int .i64 0, .int .i64 0] 36)))
          refine hK.out _ _ O3 (fun hHeld => ?_)
          clear hK K
          have bn := blk_new wr.drew (.cells [Value.int .i64 0, .int .i64 0, .int .i64 0].toArray 36)
          refine wpAnyH_ready (rs := [6]) (by kernel_rfl) (by simp) ?_
          refine AllReadyH.cons rfl (fun K hK => ?_) AllReadyH.nil
          go_simp
          refine (A10.out _ hHeld.i.b).mono ?_
          rintro e w3 ⟨rfl, hB⟩
          have O2 := hHeld.below hB
          refine hK.out _ _ O2 (fun hHeld => ?_)
          clear hK K
          refine wpAnyH_take (i := 7) (v := .tuple #[.agg V.toArray, .bool b]) rfl (by kernel_rfl) (by kernel_rfl) (by kernel_rfl) (fun _ _ _ h => h) (Or.inl ⟨by rfl, ?_⟩) hHeld ?_
          · intro W hW
            clear hW hHeld
            go_simp
          simp only [Act.put, List.getElem_toArray, List.getElem_cons_zero, List.getElem_cons_succ, List.setIfInBounds_toArray, List.set_cons_zero, List.set_cons_succ]
          refine wpAnyH_take (i := 8) (v := .agg V.toArray) rfl (by kernel_rfl) (by kernel_rfl) (by kernel_rfl) (fun _ _ _ h => h) (Or.inl ⟨by rfl, ?_⟩) hHeld ?_
          · intro W hW
            clear hW hHeld
            go_simp
          simp only [Act.put, List.getElem_toArray, List.getElem_cons_zero, List.getElem_cons_succ, List.setIfInBounds_toArray, List.set_cons_zero, List.set_cons_succ]
          refine wpAnyH_take (i := 9) (v := .bool b) rfl (by kernel_rfl) (by kernel_rfl) (by kernel_rfl) (fun _ _ _ h => h) (Or.inl ⟨by rfl, ?_⟩) hHeld ?_
          · intro W hW
            clear hW hHeld
            go_simp
          simp only [Act.put, List.getElem_toArray, List.getElem_cons_zero, List.getElem_cons_succ, List.setIfInBounds_toArray, List.set_cons_zero, List.set_cons_succ]
          have bn : w3.heap[wr.heap.size]? = some (.cells [Value.int .i64 0, .int .i64 0, .int .i64 0].toArray 36) := by
            rw [← bn]
            exact hB.block _ (blk_lt bn)
          have O4 := O1.below (below_sets (Nat.le_refl _) V 0 ((gr_below (.refl _ _) (Nat.le_refl _) ((Gr.refl wr.drew).alloc (.cells #[.int .i64 0, .int .i64 0, .int .i64 0] 36))).trans (hB.mono (by simp))))
          have sA := hold_st P (blk_hold bn) V hV3 hV1
          have bV := blk_put bn V hV3
          have BV : Aside _ := bV
          clear bn bV
          refine wpAnyH_ready (rs := [11]) (by kernel_rfl) (by simp) ?_
          refine AllReadyH.cons rfl (fun K hK => ?_) AllReadyH.nil
          go_simp
          refine hK.out _ _ O4 (fun hHeld => ?_)
          clear hK K sA
          refine wpAnyH_ready (rs := [12]) (by kernel_rfl) (by simp) ?_
          refine AllReadyH.cons rfl (fun K hK => ?_) AllReadyH.nil
          go_simp
          refine hK.out _ _ O4 (fun hHeld => ?_)
          clear hK K
          refine wpAnyH_done (by kernel_rfl) ?_ _
          go_wp2_with fail
          go_meet
          case rel => exact ⟨wr.heap.size, rfl, rfl, O4.more BV.out⟩
      case rest =>
        clear I2
        obtain ⟨B1, rfl, rfl, J1⟩ := hcut
        generalize wc = wr1 at J1 ⊢
        go_upto_region 7 with fail
        go_cut [13, 14] from 26 to 77 (fun s13 s14 wc => ∃ B : Nat, s13 = .pointer (some ⟨B, 0, none⟩) ∧ s14 = .bool b ∧ Aside (Fl w1 n8 bs S2 (.slice (some ⟨g, 0, none⟩) ids.length ic) ids V [B, B1] wc))
        case first =>
          have O1 := J1.out.below (gr_below (.refl _ _) (Nat.le_refl _) ((Gr.refl wr1).drew))
          refine wp_region_held_drew (S := Fl w1 n8 bs S2 (.slice (some ⟨g, 0, none⟩) ids.length ic) ids V [B1]) mixed O1 (fun hHeld => ?_)
          refine wpAnyH_take (i := 0) (v := .slice la n1 lc) rfl (by kernel_rfl) (by kernel_rfl) (by kernel_rfl) (fun _ _ _ h => h) (Or.inl ⟨by rfl, ?_⟩) hHeld ?_
          · intro W hW
            clear hW hHeld O1
            go_simp
          simp only [Act.put, List.getElem_toArray, List.getElem_cons_zero, List.setIfInBounds_toArray, List.set_cons_zero, List.set_cons_succ]
          refine wpAnyH_take (i := 1) (v := .agg S2.toArray) rfl (by kernel_rfl) (by kernel_rfl) (by kernel_rfl) (fun _ _ _ h => h) (Or.inl ⟨by rfl, ?_⟩) hHeld ?_
          · intro W hW
            have l4 := hold_ld P (blk_hold hW.i.c8) s1
            clear hW hHeld O1
            go_simp
          simp only [Act.put, List.getElem_toArray, List.getElem_cons_zero, List.getElem_cons_succ, List.setIfInBounds_toArray, List.set_cons_zero, List.set_cons_succ]
          refine wpAnyH_take (i := 2) (v := .slice (some ⟨g, 0, none⟩) ids.length ic) rfl (by kernel_rfl) (by kernel_rfl) (by kernel_rfl) (fun _ _ _ h => h) (Or.inl ⟨by rfl, ?_⟩) hHeld ?_
          · intro W hW
            clear hW hHeld O1
            go_simp
          simp only [Act.put, List.getElem_toArray, List.getElem_cons_zero, List.getElem_cons_succ, List.setIfInBounds_toArray, List.set_cons_zero, List.set_cons_succ]
          refine wpAnyH_take (i := 3) (v := .int .i64 i) rfl (by kernel_rfl) (by kernel_rfl) (by kernel_rfl) (fun _ _ _ h => h) (Or.inl ⟨by rfl, ?_⟩) hHeld ?_
          · intro W hW
            clear hW hHeld O1
            go_simp
          simp only [Act.put, List.getElem_toArray, List.getElem_cons_zero, List.getElem_cons_succ, List.setIfInBounds_toArray, List.set_cons_zero, List.set_cons_succ]
          refine wpAnyH_take (i := 4) (v := .pointer (some ⟨g, i, none⟩)) rfl (by kernel_rfl) (by kernel_rfl) (by kernel_rfl) (fun _ _ _ h => h) (Or.inl ⟨by rfl, ?_⟩) hHeld ?_
          · intro W hW
            clear hW hHeld O1
            go_simp
          simp only [Act.put, List.getElem_toArray, List.getElem_cons_zero, List.getElem_cons_succ, List.setIfInBounds_toArray, List.set_cons_zero, List.set_cons_succ]
          refine wpAnyH_take (i := 5) (v := .int .i64 n) rfl (by kernel_rfl) (by kernel_rfl) (by kernel_rfl) (fun _ _ _ h => h) (Or.inl ⟨by rfl, ?_⟩) hHeld ?_
          · intro W hW
            have c := rd W hW.i
            clear hW hHeld O1
            go_simp
          simp only [Act.put, List.getElem_toArray, List.getElem_cons_zero, List.getElem_cons_succ, List.setIfInBounds_toArray, List.set_cons_zero, List.set_cons_succ]
          refine wpAnyH_ready (rs := [6, 10]) (by kernel_rfl) (by simp) ?_
          refine AllReadyH.cons rfl (fun K hK => ?_) (AllReadyH.cons rfl (fun K hK => ?_) AllReadyH.nil)
          · go_simp
            refine (A11.out _ hHeld.i.b).mono ?_
            rintro e w3 ⟨rfl, hB⟩
            have O2 := hHeld.below hB
            refine hK.out _ _ O2 (fun hHeld => ?_)
            clear hK K
            refine wpAnyH_take (i := 7) (v := .tuple #[.agg V.toArray, .bool b]) rfl (by kernel_rfl) (by kernel_rfl) (by kernel_rfl) (fun _ _ _ h => h) (Or.inl ⟨by rfl, ?_⟩) hHeld ?_
            · intro W hW
              clear hW hHeld
              go_simp
            simp only [Act.put, List.getElem_toArray, List.getElem_cons_zero, List.getElem_cons_succ, List.setIfInBounds_toArray, List.set_cons_zero, List.set_cons_succ]
            refine wpAnyH_take (i := 8) (v := .agg V.toArray) rfl (by kernel_rfl) (by kernel_rfl) (by kernel_rfl) (fun _ _ _ h => h) (Or.inl ⟨by rfl, ?_⟩) hHeld ?_
            · intro W hW
              clear hW hHeld
              go_simp
            simp only [Act.put, List.getElem_toArray, List.getElem_cons_zero, List.getElem_cons_succ, List.setIfInBounds_toArray, List.set_cons_zero, List.set_cons_succ]
            refine wpAnyH_take (i := 9) (v := .bool b) rfl (by kernel_rfl) (by kernel_rfl) (by kernel_rfl) (fun _ _ _ h => h) (Or.inl ⟨by rfl, ?_⟩) hHeld ?_
            · intro W hW
              clear hW hHeld
              go_simp
            simp only [Act.put, List.getElem_toArray, List.getElem_cons_zero, List.getElem_cons_succ, List.setIfInBounds_toArray, List.set_cons_zero, List.set_cons_succ]
            refine wpAnyH_ready (rs := [10]) (by kernel_rfl) (by simp) ?_
            refine AllReadyH.cons rfl (fun K hK => ?_) AllReadyH.nil
            go_simp
            have O3 := O2.below (gr_below (.refl _ _) (Nat.le_refl _) ((Gr.refl w3).alloc (.cells #[.int .i64 0, .int .i64 0, .int .i64 0] 36)))
            refine hK.out _ _ O3 (fun hHeld => ?_)
            clear hK K
            have bn := blk_new w3 (.cells [Value.int .i64 0, .int .i64 0, .int .i64 0].toArray 36)
            have O4 := O2.below (gr_below (.refl _ _) (Nat.le_refl _) (Gr.sets (W := w3) w3.heap.size (Nat.le_refl _) V 0 ((Gr.refl w3).alloc (.cells #[.int .i64 0, .int .i64 0, .int .i64 0] 36))))
            have sA := hold_st P (blk_hold bn) V hV3 hV1
            have bV := blk_put bn V hV3
            have BV : Aside _ := bV
            clear bn bV
            refine wpAnyH_ready (rs := [11]) (by kernel_rfl) (by simp) ?_
            refine AllReadyH.cons rfl (fun K hK => ?_) AllReadyH.nil
            go_simp
            refine hK.out _ _ O4 (fun hHeld => ?_)
            clear hK K sA
            refine wpAnyH_ready (rs := [12]) (by kernel_rfl) (by simp) ?_
            refine AllReadyH.cons rfl (fun K hK => ?_) AllReadyH.nil
            go_simp
            refine hK.out _ _ O4 (fun hHeld => ?_)
            clear hK K
            refine wpAnyH_done (by kernel_rfl) ?_ _
            go_wp2_with fail
            go_meet
            case rel => exact ⟨w3.heap.size, rfl, rfl, O4.more BV.out⟩
          · go_simp
            have O3 := O1.below (gr_below (.refl _ _) (Nat.le_refl _) ((Gr.refl wr1.drew).alloc (.cells #[.int .i64 0, .int .i64 0, .int .i64 0] 36)))
            refine hK.out _ _ O3 (fun hHeld => ?_)
            clear hK K
            have bn := blk_new wr1.drew (.cells [Value.int .i64 0, .int .i64 0, .int .i64 0].toArray 36)
            refine wpAnyH_ready (rs := [6]) (by kernel_rfl) (by simp) ?_
            refine AllReadyH.cons rfl (fun K hK => ?_) AllReadyH.nil
            go_simp
            refine (A11.out _ hHeld.i.b).mono ?_
            rintro e w3 ⟨rfl, hB⟩
            have O2 := hHeld.below hB
            refine hK.out _ _ O2 (fun hHeld => ?_)
            clear hK K
            refine wpAnyH_take (i := 7) (v := .tuple #[.agg V.toArray, .bool b]) rfl (by kernel_rfl) (by kernel_rfl) (by kernel_rfl) (fun _ _ _ h => h) (Or.inl ⟨by rfl, ?_⟩) hHeld ?_
            · intro W hW
              clear hW hHeld
              go_simp
            simp only [Act.put, List.getElem_toArray, List.getElem_cons_zero, List.getElem_cons_succ, List.setIfInBounds_toArray, List.set_cons_zero, List.set_cons_succ]
            refine wpAnyH_take (i := 8) (v := .agg V.toArray) rfl (by kernel_rfl) (by kernel_rfl) (by kernel_rfl) (fun _ _ _ h => h) (Or.inl ⟨by rfl, ?_⟩) hHeld ?_
            · intro W hW
              clear hW hHeld
              go_simp
            simp only [Act.put, List.getElem_toArray, List.getElem_cons_zero, List.getElem_cons_succ, List.setIfInBounds_toArray, List.set_cons_zero, List.set_cons_succ]
            refine wpAnyH_take (i := 9) (v := .bool b) rfl (by kernel_rfl) (by kernel_rfl) (by kernel_rfl) (fun _ _ _ h => h) (Or.inl ⟨by rfl, ?_⟩) hHeld ?_
            · intro W hW
              clear hW hHeld
              go_simp
            simp only [Act.put, List.getElem_toArray, List.getElem_cons_zero, List.getElem_cons_succ, List.setIfInBounds_toArray, List.set_cons_zero, List.set_cons_succ]
            have bn : w3.heap[wr1.heap.size]? = some (.cells [Value.int .i64 0, .int .i64 0, .int .i64 0].toArray 36) := by
              rw [← bn]
              exact hB.block _ (blk_lt bn)
            have O4 := O1.below (below_sets (Nat.le_refl _) V 0 ((gr_below (.refl _ _) (Nat.le_refl _) ((Gr.refl wr1.drew).alloc (.cells #[.int .i64 0, .int .i64 0, .int .i64 0] 36))).trans (hB.mono (by simp))))
            have sA := hold_st P (blk_hold bn) V hV3 hV1
            have bV := blk_put bn V hV3
            have BV : Aside _ := bV
            clear bn bV
            refine wpAnyH_ready (rs := [11]) (by kernel_rfl) (by simp) ?_
            refine AllReadyH.cons rfl (fun K hK => ?_) AllReadyH.nil
            go_simp
            refine hK.out _ _ O4 (fun hHeld => ?_)
            clear hK K sA
            refine wpAnyH_ready (rs := [12]) (by kernel_rfl) (by simp) ?_
            refine AllReadyH.cons rfl (fun K hK => ?_) AllReadyH.nil
            go_simp
            refine hK.out _ _ O4 (fun hHeld => ?_)
            clear hK K
            refine wpAnyH_done (by kernel_rfl) ?_ _
            go_wp2_with fail
            go_meet
            case rel => exact ⟨wr1.heap.size, rfl, rfl, O4.more BV.out⟩
        case rest =>
          clear J1
          obtain ⟨B2, rfl, rfl, M1⟩ := hcut
          generalize wc = wr2 at M1 ⊢
          go_upto_region 8 with fail
          have O1 := M1.out.below (gr_below (.refl _ _) (Nat.le_refl _) ((Gr.refl wr2).drew))
          clear M1
          obtain ⟨v0, v1, v2, rfl⟩ : ∃ v0 v1 v2, V = [v0, v1, v2] := by
            match V, hV3 with
            | [v0, v1, v2], _ => exact ⟨v0, v1, v2, rfl⟩
          refine wp_region_held_drew (S := Fl w1 n8 bs S2 (.slice (some ⟨g, 0, none⟩) ids.length ic) ids [v0, v1, v2] [B2, B1]) mixed O1 (fun hHeld => ?_)
          refine wpAnyH_take (i := 0) (v := .agg #[v0, v1, v2]) rfl (by kernel_rfl) (by kernel_rfl) (by kernel_rfl) (fun _ _ _ h => h) (Or.inl ⟨by rfl, ?_⟩) hHeld ?_
          · intro W hW
            have k0 := hold_cell (blk_hold (hW.p B1 (by simp))) (j := 0) rfl
            have k1 := hold_cell (blk_hold (hW.p B1 (by simp))) (j := 1) rfl
            have k2 := hold_cell (blk_hold (hW.p B1 (by simp))) (j := 2) rfl
            clear hW hHeld O1 A13 A14 HR H12 H15 S7 BW
            go_simp
          simp only [Act.put, List.getElem_toArray, List.getElem_cons_zero, List.setIfInBounds_toArray, List.set_cons_zero, List.set_cons_succ]
          refine wpAnyH_take (i := 1) (v := .agg #[v0, v1, v2]) rfl (by kernel_rfl) (by kernel_rfl) (by kernel_rfl) (fun _ _ _ h => h) (Or.inl ⟨by rfl, ?_⟩) hHeld ?_
          · intro W hW
            have k0 := hold_cell (blk_hold (hW.p B2 (by simp))) (j := 0) rfl
            have k1 := hold_cell (blk_hold (hW.p B2 (by simp))) (j := 1) rfl
            have k2 := hold_cell (blk_hold (hW.p B2 (by simp))) (j := 2) rfl
            clear hW hHeld O1 A13 A14 HR H12 H15 S7 BW
            go_simp
          simp only [Act.put, List.getElem_toArray, List.getElem_cons_zero, List.getElem_cons_succ, List.setIfInBounds_toArray, List.set_cons_zero, List.set_cons_succ]
          refine wpAnyH_take (i := 2) (v := .bool false) rfl (by kernel_rfl) (by kernel_rfl) (by kernel_rfl) (fun _ _ _ h => h) (Or.inl ⟨by rfl, ?_⟩) hHeld ?_
          · intro W hW
            clear hW hHeld O1 A13 A14 HR H12 H15 S7 BW
            go_simp
          simp only [Act.put, List.getElem_toArray, List.getElem_cons_zero, List.getElem_cons_succ, List.setIfInBounds_toArray, List.set_cons_zero, List.set_cons_succ]
          refine wpAnyH_take (i := 3) (v := .bool false) rfl (by kernel_rfl) (by kernel_rfl) (by kernel_rfl) (fun _ _ _ h => h) (Or.inl ⟨by rfl, ?_⟩) hHeld ?_
          · intro W hW
            clear hW hHeld O1 A13 A14 HR H12 H15 S7 BW
            go_simp
          simp only [Act.put, List.getElem_toArray, List.getElem_cons_zero, List.getElem_cons_succ, List.setIfInBounds_toArray, List.set_cons_zero, List.set_cons_succ]
          refine wpAnyH_take (i := 4) (v := .bool b) rfl (by kernel_rfl) (by kernel_rfl) (by kernel_rfl) (fun _ _ _ h => h) (Or.inl ⟨by rfl, ?_⟩) hHeld ?_
          · intro W hW
            clear hW hHeld O1 A13 A14 HR H12 H15 S7 BW
            go_simp
          simp only [Act.put, List.getElem_toArray, List.getElem_cons_zero, List.getElem_cons_succ, List.setIfInBounds_toArray, List.set_cons_zero, List.set_cons_succ]
          refine wpAnyH_take (i := 5) (v := .bool b) rfl (by kernel_rfl) (by kernel_rfl) (by kernel_rfl) (fun _ _ _ h => h) (Or.inl ⟨by rfl, ?_⟩) hHeld ?_
          · intro W hW
            clear hW hHeld O1 A13 A14 HR H12 H15 S7 BW
            go_simp
          simp only [Act.put, List.getElem_toArray, List.getElem_cons_zero, List.getElem_cons_succ, List.setIfInBounds_toArray, List.set_cons_zero, List.set_cons_succ]
          refine wpAnyH_take (i := 6) (v := .bool false) rfl (by kernel_rfl) (by kernel_rfl) (by kernel_rfl) (fun _ _ _ h => h) (Or.inl ⟨by rfl, ?_⟩) hHeld ?_
          · intro W hW
            clear hW hHeld O1 A13 A14 HR H12 H15 S7 BW
            go_simp
          simp only [Act.put, List.getElem_toArray, List.getElem_cons_zero, List.getElem_cons_succ, List.setIfInBounds_toArray, List.set_cons_zero, List.set_cons_succ]
          refine wpAnyH_take (i := 7) (v := .bool false) rfl (by kernel_rfl) (by kernel_rfl) (by kernel_rfl) (fun _ _ _ h => h) (Or.inl ⟨by rfl, ?_⟩) hHeld ?_
          · intro W hW
            clear hW hHeld O1 A13 A14 HR H12 H15 S7 BW
            go_simp
          simp only [Act.put, List.getElem_toArray, List.getElem_cons_zero, List.getElem_cons_succ, List.setIfInBounds_toArray, List.set_cons_zero, List.set_cons_succ]
          refine wpAnyH_take (i := 8) (v := .bool false) rfl (by kernel_rfl) (by kernel_rfl) (by kernel_rfl) (fun _ _ _ h => h) (Or.inl ⟨by rfl, ?_⟩) hHeld ?_
          · intro W hW
            clear hW hHeld O1 A13 A14 HR H12 H15 S7 BW
            go_simp
          simp only [Act.put, List.getElem_toArray, List.getElem_cons_zero, List.getElem_cons_succ, List.setIfInBounds_toArray, List.set_cons_zero, List.set_cons_succ]
          refine wpAnyH_take (i := 9) (v := .slice la n1 lc) rfl (by kernel_rfl) (by kernel_rfl) (by kernel_rfl) (fun _ _ _ h => h) (Or.inl ⟨by rfl, ?_⟩) hHeld ?_
          · intro W hW
            clear hW hHeld O1 A13 A14 HR H12 H15 S7 BW
            go_simp
          simp only [Act.put, List.getElem_toArray, List.getElem_cons_zero, List.getElem_cons_succ, List.setIfInBounds_toArray, List.set_cons_zero, List.set_cons_succ]
          refine wpAnyH_take (i := 10) (v := .agg S2.toArray) rfl (by kernel_rfl) (by kernel_rfl) (by kernel_rfl) (fun _ _ _ h => h) (Or.inl ⟨by rfl, ?_⟩) hHeld ?_
          · intro W hW
            have l4 := hold_ld P (blk_hold hW.i.c8) s1
            clear hW hHeld O1 A13 A14 HR H12 H15 S7 BW
            go_simp
          simp only [Act.put, List.getElem_toArray, List.getElem_cons_zero, List.getElem_cons_succ, List.setIfInBounds_toArray, List.set_cons_zero, List.set_cons_succ]
          refine wpAnyH_take (i := 11) (v := .slice (some ⟨g, 0, none⟩) ids.length ic) rfl (by kernel_rfl) (by kernel_rfl) (by kernel_rfl) (fun _ _ _ h => h) (Or.inl ⟨by rfl, ?_⟩) hHeld ?_
          · intro W hW
            clear hW hHeld O1 A13 A14 HR H12 H15 S7 BW
            go_simp
          simp only [Act.put, List.getElem_toArray, List.getElem_cons_zero, List.getElem_cons_succ, List.setIfInBounds_toArray, List.set_cons_zero, List.set_cons_succ]
          refine wpAnyH_take (i := 12) (v := .int .i64 i) rfl (by kernel_rfl) (by kernel_rfl) (by kernel_rfl) (fun _ _ _ h => h) (Or.inl ⟨by rfl, ?_⟩) hHeld ?_
          · intro W hW
            clear hW hHeld O1 A13 A14 HR H12 H15 S7 BW
            go_simp
          simp only [Act.put, List.getElem_toArray, List.getElem_cons_zero, List.getElem_cons_succ, List.setIfInBounds_toArray, List.set_cons_zero, List.set_cons_succ]
          refine wpAnyH_take (i := 13) (v := .pointer (some ⟨g, i, none⟩)) rfl (by kernel_rfl) (by kernel_rfl) (by kernel_rfl) (fun _ _ _ h => h) (Or.inl ⟨by rfl, ?_⟩) hHeld ?_
          · intro W hW
            clear hW hHeld O1 A13 A14 HR H12 H15 S7 BW
            go_simp
          simp only [Act.put, List.getElem_toArray, List.getElem_cons_zero, List.getElem_cons_succ, List.setIfInBounds_toArray, List.set_cons_zero, List.set_cons_succ]
          refine wpAnyH_take (i := 14) (v := .int .i64 n) rfl (by kernel_rfl) (by kernel_rfl) (by kernel_rfl) (fun _ _ _ h => h) (Or.inl ⟨by rfl, ?_⟩) hHeld ?_
          · intro W hW
            have c := rd W hW.i
            clear hW hHeld O1 A13 A14 HR H12 H15 S7 BW
            go_simp
          simp only [Act.put, List.getElem_toArray, List.getElem_cons_zero, List.getElem_cons_succ, List.setIfInBounds_toArray, List.set_cons_zero, List.set_cons_succ]
          refine wpAnyH_take (i := 16) (v := .slice la n1 lc) rfl (by kernel_rfl) (by kernel_rfl) (by kernel_rfl) (fun _ _ _ h => h) (Or.inl ⟨by rfl, ?_⟩) hHeld ?_
          · intro W hW
            clear hW hHeld O1 A13 A14 HR H12 H15 S7 BW
            go_simp
          simp only [Act.put, List.getElem_toArray, List.getElem_cons_zero, List.getElem_cons_succ, List.setIfInBounds_toArray, List.set_cons_zero, List.set_cons_succ]
          refine wpAnyH_take (i := 17) (v := .agg S2.toArray) rfl (by kernel_rfl) (by kernel_rfl) (by kernel_rfl) (fun _ _ _ h => h) (Or.inl ⟨by rfl, ?_⟩) hHeld ?_
          · intro W hW
            have l4 := hold_ld P (blk_hold hW.i.c8) s1
            clear hW hHeld O1 A13 A14 HR H12 H15 S7 BW
            go_simp
          simp only [Act.put, List.getElem_toArray, List.getElem_cons_zero, List.getElem_cons_succ, List.setIfInBounds_toArray, List.set_cons_zero, List.set_cons_succ]
          refine wpAnyH_take (i := 18) (v := .slice (some ⟨g, 0, none⟩) ids.length ic) rfl (by kernel_rfl) (by kernel_rfl) (by kernel_rfl) (fun _ _ _ h => h) (Or.inl ⟨by rfl, ?_⟩) hHeld ?_
          · intro W hW
            clear hW hHeld O1 A13 A14 HR H12 H15 S7 BW
            go_simp
          simp only [Act.put, List.getElem_toArray, List.getElem_cons_zero, List.getElem_cons_succ, List.setIfInBounds_toArray, List.set_cons_zero, List.set_cons_succ]
          refine wpAnyH_take (i := 19) (v := .int .i64 i) rfl (by kernel_rfl) (by kernel_rfl) (by kernel_rfl) (fun _ _ _ h => h) (Or.inl ⟨by rfl, ?_⟩) hHeld ?_
          · intro W hW
            clear hW hHeld O1 A13 A14 HR H12 H15 S7 BW
            go_simp
          simp only [Act.put, List.getElem_toArray, List.getElem_cons_zero, List.getElem_cons_succ, List.setIfInBounds_toArray, List.set_cons_zero, List.set_cons_succ]
          refine wpAnyH_take (i := 20) (v := .pointer (some ⟨g, i, none⟩)) rfl (by kernel_rfl) (by kernel_rfl) (by kernel_rfl) (fun _ _ _ h => h) (Or.inl ⟨by rfl, ?_⟩) hHeld ?_
          · intro W hW
            clear hW hHeld O1 A13 A14 HR H12 H15 S7 BW
            go_simp
          simp only [Act.put, List.getElem_toArray, List.getElem_cons_zero, List.getElem_cons_succ, List.setIfInBounds_toArray, List.set_cons_zero, List.set_cons_succ]
          refine wpAnyH_take (i := 21) (v := .int .i64 n) rfl (by kernel_rfl) (by kernel_rfl) (by kernel_rfl) (fun _ _ _ h => h) (Or.inl ⟨by rfl, ?_⟩) hHeld ?_
          · intro W hW
            have c := rd W hW.i
            clear hW hHeld O1 A13 A14 HR H12 H15 S7 BW
            go_simp
          simp only [Act.put, List.getElem_toArray, List.getElem_cons_zero, List.getElem_cons_succ, List.setIfInBounds_toArray, List.set_cons_zero, List.set_cons_succ]
          refine wpAnyH_ready (rs := [15]) (by kernel_rfl) (by simp) ?_
          refine AllReadyH.cons rfl (fun K hK => ?_) AllReadyH.nil
          go_simp
          refine (A13.out _ hHeld.i.b).mono ?_
          rintro e w3 ⟨a1, d1, rfl, hB1, hL1⟩
          have O2 := hHeld.below hB1
          refine hK.out _ _ O2 (fun hHeld => ?_)
          clear hK K O1
          refine wpAnyH_ready (rs := [22]) (by kernel_rfl) (by simp) ?_
          refine AllReadyH.cons rfl (fun K hK => ?_) AllReadyH.nil
          go_simp
          refine (A14.out _ hHeld.i.b).mono ?_
          rintro e w4 ⟨a2, d2, rfl, hB2, hL2⟩
          have O3 := hHeld.below hB2
          have hL3 := hL1.below hB2
          refine hK.out _ _ O3 (fun hHeld => ?_)
          clear hK K O2 hL1 hB1 hB2
          refine wpAnyH_ready (rs := [23]) (by kernel_rfl) (by simp) ?_
          refine AllReadyH.cons rfl (fun K hK => ?_) AllReadyH.nil
          go_simp
          refine (H12.out R a1 a2 d1 d2 w4 HR.out hL3 hL2).mono ?_
          rintro e w5 ⟨rfl, hB3⟩
          have O4 := hHeld.below hB3
          refine hK.out _ _ O4 (fun hHeld => ?_)
          clear hK K O3 hL2 hL3 hB3
          refine wpAnyH_take (i := 24) (v := .bool false) rfl (by kernel_rfl) (by kernel_rfl) (by kernel_rfl) (fun _ _ _ h => h) (Or.inl ⟨by rfl, ?_⟩) hHeld ?_
          · intro W hW
            clear hW hHeld
            go_simp
          simp only [Act.put, List.getElem_toArray, List.getElem_cons_zero, List.getElem_cons_succ, List.setIfInBounds_toArray, List.set_cons_zero, List.set_cons_succ]
          refine wpAnyH_take (i := 25) (v := .bool false) rfl (by kernel_rfl) (by kernel_rfl) (by kernel_rfl) (fun _ _ _ h => h) (Or.inl ⟨by rfl, ?_⟩) hHeld ?_
          · intro W hW
            clear hW hHeld
            go_simp
          simp only [Act.put, List.getElem_toArray, List.getElem_cons_zero, List.getElem_cons_succ, List.setIfInBounds_toArray, List.set_cons_zero, List.set_cons_succ]
          refine wpAnyH_done (by kernel_rfl) ?_ _
          go_wp2
          go_roundg (ids.length - (i + 1))
          case measure => omega
          case rel => exact ⟨i + 1, by first | rfl | go_num, by omega, Nat.le_refl _, O4.i⟩
    · have hltz : ¬ (i : Int) < (ids.length : Int) := by omega
      go_wp2_with (first | (go_at_fn 15; refine (H15.out _).mono ?_; rintro e w5 ⟨rfl, hB⟩; have FB : Aside _ := (show Below w.heap.size w w5 from (BW.out.trans (I1.out.b.mono BW.out.size)).trans (hB.mono (Nat.le_trans BW.out.size I1.out.b.size))); clear hB))
      go_returns
      exact ⟨rfl, FB.out⟩
end Go.Proofs.Ytgbhmkdldfhamaa.charsOf
