/-
  Chapter 14: the layers' closures, walked.
-/
import Derived.Test.YtgbhmkdldfhamaaTxG
import Derived.StillTailTactics
namespace Go.Proofs.Ytgbhmkdldfhamaa.charsOf
open Go.Shelf Go.RowKit Go.Lib Go.Sort
def encV (v : Int × Int × Int) : List Value := [.int .i64 v.1, .int .i64 v.2.1, .int .i64 v.2.2]
def DoC (P : Program) (f : Nat) (s : Ef → Int × Int × Int → Int × Int × Int) : Prop := ∀ (b : Nat) (v : Int × Int × Int) (x : Ef) (w : World), w.heap[b]? = some (.cells (encV v).toArray 36) → Calls P f #[.pointer (some ⟨b, 0, none⟩), .agg (encE x).toArray] w fun e w' => e = .returned (.tuple #[]) ∧ w.grownBy w' (some b) ∧ w'.heap[b]? = some (.cells (encV (s x v)).toArray 36)
theorem do_end1 {w : World} {b : Nat} {p t k : Int} (hb : w.heap[b]? = some (.cells (encV (p, t, k)).toArray 36)) (o : Obj) (y : Int) : w.grownBy ((w.setCell ⟨b, 2, none⟩ (.int .i64 y)).alloc o).drew (some b) ∧ ((w.setCell ⟨b, 2, none⟩ (.int .i64 y)).alloc o).drew.heap[b]? = some (.cells (encV (p, t, y)).toArray 36) := by
  have hl := blk_lt hb
  have G1 : w.grownBy (w.setCell ⟨b, 2, none⟩ (.int .i64 y)) (some b) := ⟨rfl, rfl, rfl, by simp, fun k hk hn => Below.heap_setCell _ _ _ _ (fun e => hn (by rw [e]))⟩
  have h1 : (w.setCell ⟨b, 2, none⟩ (.int .i64 y)).heap[b]? = some (.cells (encV (p, t, y)).toArray 36) := by
    simp only [World.setCell, Array.getElem?_modify, hb, encV]
    simp
  refine ⟨⟨rfl, rfl, rfl, ?_, fun j hj hn => ?_⟩, blk_old h1 o⟩
  · have := G1.size
    simp only [World.drew, World.alloc, Array.size_push] at this ⊢
    omega
  · rw [← G1.block j hj hn]
    exact Below.heap_alloc _ _ _ (by have := G1.size; omega)
theorem do_end2 {w : World} {b : Nat} {p t k : Int} (hb : w.heap[b]? = some (.cells (encV (p, t, k)).toArray 36)) (o : Obj) (y z : Int) : w.grownBy (((w.setCell ⟨b, 0, none⟩ (.int .i64 y)).setCell ⟨b, 1, none⟩ (.int .i64 z)).alloc o) (some b) ∧ (((w.setCell ⟨b, 0, none⟩ (.int .i64 y)).setCell ⟨b, 1, none⟩ (.int .i64 z)).alloc o).heap[b]? = some (.cells (encV (y, z, k)).toArray 36) := by
  have hl := blk_lt hb
  have h1 : ((w.setCell ⟨b, 0, none⟩ (.int .i64 y)).setCell ⟨b, 1, none⟩ (.int .i64 z)).heap[b]? = some (.cells (encV (y, z, k)).toArray 36) := by
    simp only [World.setCell, Array.getElem?_modify, hb, encV]
    simp
  refine ⟨⟨rfl, rfl, rfl, ?_, fun j hj hn => ?_⟩, blk_old h1 o⟩
  · simp only [World.size_alloc, World.size_setCell]
    omega
  · rw [Below.heap_alloc _ _ _ (by simpa using hj), Below.heap_setCell _ _ _ _ (fun e => hn (by rw [e])), Below.heap_setCell _ _ _ _ (fun e => hn (by rw [e]))]
theorem do_drew {w W : World} {b : Nat} {o : Option Obj} (h : w.grownBy W (some b) ∧ W.heap[b]? = o) : w.grownBy W.drew (some b) ∧ W.drew.heap[b]? = o :=
  ⟨⟨h.1.os, h.1.tape, h.1.output, h.1.size, h.1.block⟩, h.2⟩
theorem still_tail_drew {P : Program} {id : Nat} {Q : Exit → Act → World → Prop} {a : Act} {w : World} {l : List Oper} (n : Nat) (hm : P.follows .mixedOrders = true) (hB : Region.lexTailB .any l.toArray n = true)
    (h : wpStill P l.toArray w.drew (fun a' => wpList P l.toArray Q (l.drop n) a' w.drew) (l.take n) a) : (Code.region id l.toArray true).wp P Q a w := wp_region_still_tail n hm hB h
theorem body_void {P : Program} {fn : Func} {R : Ending → World → Prop} {a : Act} {w : World} (hr : fn.results = #[]) (hd : a.defers = []) (hR : R (.returned (.tuple #[])) w) : bodyPost P fn R .normal a w :=
  bodyPost_end (v := .tuple #[]) (by simp [results, hr]) hd hR

set_option maxHeartbeats 4000000 in
set_option maxRecDepth 100000 in
theorem do1_calls : DoC Try.prog 46 fun x v => (v.1, v.2.1, bits .or .i64 v.2.2 x.2.1) := by
  rintro b ⟨p, t, k⟩ ⟨x0, x1, x2, x3⟩ w hb
  have mixed := mixedT
  show Calls Try.prog 46 #[.pointer (some ⟨b, 0, none⟩), .agg #[.int .i64 x0, .int .i64 x1, .int .i64 x2, .int .i64 x3]] w _
  have hbl := blk_lt hb
  obtain ⟨c2, f2⟩ := blk_hold (blk_old hb (.cells #[.int .i64 x0, .int .i64 x1, .int .i64 x2, .int .i64 x3] 58)) 2 (by simp [encV])
  have HB := do_end1 hb (.cells #[.int .i64 x0, .int .i64 x1, .int .i64 x2, .int .i64 x3] 58) (bits .or .i64 k x1)
  have HB : Aside _ := HB
  change World.cell? _ ⟨b, 2, none⟩ = some (.int .i64 k) at c2
  change World.frozen? _ ⟨b, 2, none⟩ = false at f2
  clear hb
  go_enter Try.func46, Try.ntmps46
  go_wp2_with fail
  go_region
  exact body_void rfl rfl ⟨rfl, HB.out⟩

set_option maxHeartbeats 4000000 in
set_option maxRecDepth 100000 in
theorem do2_calls : DoC Try.prog 47 fun x v => (v.1, v.2.1, bits .andNot .i64 v.2.2 x.2.1) := by
  rintro b ⟨p, t, k⟩ ⟨x0, x1, x2, x3⟩ w hb
  have mixed := mixedT
  show Calls Try.prog 47 #[.pointer (some ⟨b, 0, none⟩), .agg #[.int .i64 x0, .int .i64 x1, .int .i64 x2, .int .i64 x3]] w _
  have hbl := blk_lt hb
  obtain ⟨c2, f2⟩ := blk_hold (blk_old hb (.cells #[.int .i64 x0, .int .i64 x1, .int .i64 x2, .int .i64 x3] 58)) 2 (by simp [encV])
  have HB := do_end1 hb (.cells #[.int .i64 x0, .int .i64 x1, .int .i64 x2, .int .i64 x3] 58) (bits .andNot .i64 k x1)
  have HB : Aside _ := HB
  change World.cell? _ ⟨b, 2, none⟩ = some (.int .i64 k) at c2
  change World.frozen? _ ⟨b, 2, none⟩ = false at f2
  clear hb
  go_enter Try.func47, Try.ntmps47
  go_wp2_with fail
  go_region
  exact body_void rfl rfl ⟨rfl, HB.out⟩

set_option maxHeartbeats 4000000 in
set_option maxRecDepth 100000 in
theorem do3_calls : DoC Try.prog 48 fun x v => (sml x.2.1, sml x.2.2.1, v.2.2) := by
  rintro b ⟨p, t, k⟩ ⟨x0, x1, x2, x3⟩ w hb
  have mixed := mixedT
  show Calls Try.prog 48 #[.pointer (some ⟨b, 0, none⟩), .agg #[.int .i64 x0, .int .i64 x1, .int .i64 x2, .int .i64 x3]] w _
  have hbl := blk_lt hb
  obtain ⟨c0, f0⟩ := blk_hold hb 0 (by simp [encV])
  obtain ⟨c1, f1⟩ := blk_hold hb 1 (by simp [encV])
  have HB : Aside _ := fun y z => do_end2 hb (.cells #[.int .i64 x0, .int .i64 x1, .int .i64 x2, .int .i64 x3] 58) y z
  change World.cell? _ ⟨b, 0, none⟩ = some (.int .i64 p) at c0
  change World.frozen? _ ⟨b, 0, none⟩ = false at f0
  change World.cell? _ ⟨b, 1, none⟩ = some (.int .i64 t) at c1
  change World.frozen? _ ⟨b, 1, none⟩ = false at f1
  clear hb
  go_enter Try.func48, Try.ntmps48
  go_wp2_with fail
  go_region_with (first | (go_at_call_of 37 (Value.int IntKind.i64 x1); refine (small_calls _ _).mono ?_; rintro e w' ⟨rfl, rfl⟩) | (go_at_call_of 37 (Value.int IntKind.i64 x2); refine (small_calls _ _).mono ?_; rintro e w' ⟨rfl, rfl⟩))
  all_goals
    refine body_void rfl rfl ⟨rfl, ?_⟩
    exact do_drew (HB.out _ _)

set_option maxHeartbeats 4000000 in
set_option maxRecDepth 100000 in
theorem do4_calls : DoC Try.prog 49 fun x v => (wrap64 (v.1 + sml x.2.1), wrap64 (v.2.1 + sml x.2.2.1), v.2.2) := by
  rintro b ⟨p, t, k⟩ ⟨x0, x1, x2, x3⟩ w hb
  have mixed := mixedT
  show Calls Try.prog 49 #[.pointer (some ⟨b, 0, none⟩), .agg #[.int .i64 x0, .int .i64 x1, .int .i64 x2, .int .i64 x3]] w _
  have hbl := blk_lt hb
  obtain ⟨c0, f0⟩ := blk_hold hb 0 (by simp [encV])
  obtain ⟨c1, f1⟩ := blk_hold hb 1 (by simp [encV])
  have HB : Aside _ := fun y z => do_end2 hb (.cells #[.int .i64 x0, .int .i64 x1, .int .i64 x2, .int .i64 x3] 58) y z
  change World.cell? _ ⟨b, 0, none⟩ = some (.int .i64 p) at c0
  change World.frozen? _ ⟨b, 0, none⟩ = false at f0
  change World.cell? _ ⟨b, 1, none⟩ = some (.int .i64 t) at c1
  change World.frozen? _ ⟨b, 1, none⟩ = false at f1
  clear hb
  go_enter Try.func49, Try.ntmps49
  go_wp2_with fail
  refine still_tail_drew 8 mixed (by kernel_rfl) ?_
  simp only [List.take_succ_cons, List.take_zero, List.drop_succ_cons, List.drop_zero]
  repeat still_step
  still_call (small_calls x1 _)
  repeat still_step
  refine wpStill_nil ?_
  go_wp2_with fail
  refine still_tail_drew 8 mixed (by kernel_rfl) ?_
  simp only [List.take_succ_cons, List.take_zero, List.drop_succ_cons, List.drop_zero]
  repeat still_step
  still_call (small_calls x2 _)
  repeat still_step
  refine wpStill_nil ?_
  go_wp2_with fail
  all_goals
    refine body_void rfl rfl ⟨rfl, ?_⟩
    exact do_drew (do_drew (HB.out _ _))

end Go.Proofs.Ytgbhmkdldfhamaa.charsOf
/-
  Chapter 14: Fold, walked.
-/
namespace Go.Proofs.Ytgbhmkdldfhamaa.charsOf
open Go.Shelf Go.RowKit Go.Lib Go.Sort
def stepE (x : Ef) (v : Int × Int × Int) : Int × Int × Int :=
  if x.1 = 1 then (v.1, v.2.1, bits .or .i64 v.2.2 x.2.1) else if x.1 = 2 then (v.1, v.2.1, bits .andNot .i64 v.2.2 x.2.1) else if x.1 = 3 then (sml x.2.1, sml x.2.2.1, v.2.2) else if x.1 = 4 then (wrap64 (v.1 + sml x.2.1), wrap64 (v.2.1 + sml x.2.2.1), v.2.2) else v
def finE (v : Int × Int × Int) : Int × Int × Int := (sml v.1, sml v.2.1, v.2.2)
def runE (l : List Ef) (v : Int × Int × Int) : Int × Int × Int := l.foldl (fun v e => stepE e v) v
def foldE (l : List Ef) (v : Int × Int × Int) : Int × Int × Int := finE (runE l (finE v))
/-- While effects are folded. -/
structure Fo (w : World) (v : Int × Int × Int) (W : World) : Prop where
  b : Below w.heap.size w W
  v : W.heap[w.heap.size]? = some (.cells (encV v).toArray 36)
  r : W.heap[w.heap.size + 1]? = some (.cells (encV (0, 0, 0)).toArray 36)
theorem Fo.start (w : World) (v : Int × Int × Int) : Fo w v ((w.alloc (.cells (encV v).toArray 36)).alloc (.cells (encV (0, 0, 0)).toArray 36)) := by
  refine ⟨gr_below (.refl _ _) (Nat.le_refl _) ((Gr.refl w).alloc _ |>.alloc _), blk_old (blk_new _ _) _, ?_⟩
  have := blk_new (w.alloc (.cells (encV v).toArray 36)) (.cells (encV (0, 0, 0)).toArray 36)
  simpa using this
theorem Fo.gr {w W W' : World} {v : Int × Int × Int} (h : Fo w v W) (g : Gr W W') : Fo w v W' :=
  ⟨gr_below h.b (by have := blk_lt h.v; omega) g, blk_gr h.v g, blk_gr h.r g⟩
theorem Fo.own {w W W' : World} {v v' : Int × Int × Int} (h : Fo w v W) (g : W.grownBy W' (some w.heap.size)) (hv : W'.heap[w.heap.size]? = some (.cells (encV v').toArray 36)) : Fo w v' W' := by
  refine ⟨⟨g.os.trans h.b.os, g.tape.trans h.b.tape, g.output.trans h.b.output, Nat.le_trans h.b.size g.size, fun k hk => ?_⟩, hv, ?_⟩
  · rw [g.block k (Nat.lt_of_lt_of_le hk h.b.size) (by simp; omega)]
    exact h.b.block k hk
  · rw [g.block _ (blk_lt h.r) (by simp)]
    exact h.r
theorem do_end3 {w : World} {b : Nat} {p t k : Int} (hb : w.heap[b]? = some (.cells (encV (p, t, k)).toArray 36)) (y z : Int) : w.grownBy ((w.setCell ⟨b, 0, none⟩ (.int .i64 y)).setCell ⟨b, 1, none⟩ (.int .i64 z)) (some b) ∧ ((w.setCell ⟨b, 0, none⟩ (.int .i64 y)).setCell ⟨b, 1, none⟩ (.int .i64 z)).heap[b]? = some (.cells (encV (y, z, k)).toArray 36) := by
  have h1 : ((w.setCell ⟨b, 0, none⟩ (.int .i64 y)).setCell ⟨b, 1, none⟩ (.int .i64 z)).heap[b]? = some (.cells (encV (y, z, k)).toArray 36) := by
    simp only [World.setCell, Array.getElem?_modify, hb, encV]
    simp
  refine ⟨⟨rfl, rfl, rfl, ?_, fun j hj hn => ?_⟩, h1⟩
  · simp only [World.size_setCell]
    omega
  · rw [Below.heap_setCell _ _ _ _ (fun e => hn (by rw [e])), Below.heap_setCell _ _ _ _ (fun e => hn (by rw [e]))]
theorem holds_below {w W : World} {g o : Nat} {d : Array Ef} (h : HoldsK encE 4 w g o d) (hB : Below w.heap.size w W) (hg : g < w.heap.size) : HoldsK encE 4 W g o d := fun j hj => by
  obtain ⟨h1, h2⟩ := h j hj
  exact ⟨(hB.cell (p := ⟨g, o + j, none⟩) hg).trans h1, (hB.frozen (p := ⟨g, o + j, none⟩) hg).trans h2⟩
theorem runE_snoc (l : List Ef) (x : Ef) (v : Int × Int × Int) : runE (l ++ [x]) v = stepE x (runE l v) := by simp [runE]
theorem layers (op : Int) (s : Ef → Int × Int × Int → Int × Int × Int) (x : Ef) (hx : x.1 = op) (hs : s = stepE) :
    (op = 1 ∧ doV op = .func (.func 46) #[] #[] ∧ ∀ v, s x v = (v.1, v.2.1, bits .or .i64 v.2.2 x.2.1)) ∨ (op = 2 ∧ doV op = .func (.func 47) #[] #[] ∧ ∀ v, s x v = (v.1, v.2.1, bits .andNot .i64 v.2.2 x.2.1)) ∨
    (op = 3 ∧ doV op = .func (.func 48) #[] #[] ∧ ∀ v, s x v = (sml x.2.1, sml x.2.2.1, v.2.2)) ∨ (op = 4 ∧ doV op = .func (.func 49) #[] #[] ∧ ∀ v, s x v = (wrap64 (v.1 + sml x.2.1), wrap64 (v.2.1 + sml x.2.2.1), v.2.2)) ∨ (doV op = .nilFunc ∧ ∀ v, s x v = v) := by
  subst hs hx
  unfold stepE doV
  by_cases h1 : x.1 = 1
  · exact .inl ⟨h1, by rw [if_pos h1], fun v => by rw [if_pos h1]⟩
  · by_cases h2 : x.1 = 2
    · exact .inr (.inl ⟨h2, by rw [if_neg h1, if_pos h2], fun v => by rw [if_neg h1, if_pos h2]⟩)
    · by_cases h3 : x.1 = 3
      · exact .inr (.inr (.inl ⟨h3, by rw [if_neg h1, if_neg h2, if_pos h3], fun v => by rw [if_neg h1, if_neg h2, if_pos h3]⟩))
      · by_cases h4 : x.1 = 4
        · exact .inr (.inr (.inr (.inl ⟨h4, by rw [if_neg h1, if_neg h2, if_neg h3, if_pos h4], fun v => by rw [if_neg h1, if_neg h2, if_neg h3, if_pos h4]⟩)))
        · exact .inr (.inr (.inr (.inr ⟨by rw [if_neg h1, if_neg h2, if_neg h3, if_neg h4], fun v => by rw [if_neg h1, if_neg h2, if_neg h3, if_neg h4]⟩)))
theorem boxE {wr w2 : World} {x0 x1 x2 x3 : Int} (hG : Gr (wr.alloc (.cells #[.int .i64 x0, .int .i64 x1, .int .i64 x2, .int .i64 x3] 58)) w2) : w2.cell? ⟨wr.heap.size, 0, none⟩ = some (.int .i64 x0) ∧ w2.cell? ⟨wr.heap.size, 1, none⟩ = some (.int .i64 x1) ∧ w2.cell? ⟨wr.heap.size, 2, none⟩ = some (.int .i64 x2) ∧ w2.cell? ⟨wr.heap.size, 3, none⟩ = some (.int .i64 x3) ∧ wr.heap.size < w2.heap.size := by
  refine ⟨?_, ?_, ?_, ?_, by have := hG.le; simp at this; omega⟩
  all_goals
    rw [hG.cell (by simp)]
    simp
theorem nq0 (W : World) : Sem.run Try.prog (binOp .neq 79 .nilFunc .nilFunc) W = .ok (.bool false) W := by kernel_rfl
theorem nq1 (W : World) : Sem.run Try.prog (binOp .neq 79 (.func (.func 46) #[] #[]) .nilFunc) W = .ok (.bool true) W := by kernel_rfl
theorem nq2 (W : World) : Sem.run Try.prog (binOp .neq 79 (.func (.func 47) #[] #[]) .nilFunc) W = .ok (.bool true) W := by kernel_rfl
theorem nq3 (W : World) : Sem.run Try.prog (binOp .neq 79 (.func (.func 48) #[] #[]) .nilFunc) W = .ok (.bool true) W := by kernel_rfl
theorem nq4 (W : World) : Sem.run Try.prog (binOp .neq 79 (.func (.func 49) #[] #[]) .nilFunc) W = .ok (.bool true) W := by kernel_rfl
theorem wp_one {P : Program} {c : Code} {K : Act → World → Prop} {Q : Exit → Act → World → Prop} {a a1 : Act} {w : World} (w1 : World) (key : ∀ K' : Act → World → Prop, K' a1 w1 → Code.wp P c (Exit.then K' Q) a w) (rest : K a1 w1) : Code.wp P c (Exit.then K Q) a w := key K rest
set_option maxHeartbeats 4000000 in
set_option maxRecDepth 100000 in
theorem fold_calls (v : Int × Int × Int) (R : List Ef) (a : Option Addr) (c : Nat) (w : World) (hl : R.length ≤ 1000000) (hR : R = [] ∨ ∃ g o, a = some ⟨g, o, none⟩ ∧ g < w.heap.size ∧ HoldsK encE 4 w g o R.toArray) :
    Calls Try.prog 18 #[.agg (encV v).toArray, .slice a R.length c] w fun e w' => e = .returned (.agg (encV (foldE R v)).toArray) ∧ Below w.heap.size w w' := by
  have mixed := mixedT
  obtain ⟨p, t, k⟩ := v
  have S0 := Fo.start w (p, t, k)
  simp only [encV] at S0 ⊢
  have SS : Aside _ := S0
  have HR : Aside _ := hR
  clear S0 hR
  go_enter Try.func18, Try.ntmps18
  go_upto_region 1 with fail
  generalize ((w.alloc (.cells #[.int .i64 p, .int .i64 t, .int .i64 k] 36)).alloc (.cells #[.int .i64 0, .int .i64 0, .int .i64 0] 36)) = W at SS ⊢
  obtain ⟨c0, f0⟩ := blk_hold SS.out.v 0 (by simp [encV])
  obtain ⟨c1, f1⟩ := blk_hold SS.out.v 1 (by simp [encV])
  change World.cell? _ ⟨w.heap.size, 0, none⟩ = some (.int .i64 p) at c0
  change World.frozen? _ ⟨w.heap.size, 0, none⟩ = false at f0
  change World.cell? _ ⟨w.heap.size, 1, none⟩ = some (.int .i64 t) at c1
  change World.frozen? _ ⟨w.heap.size, 1, none⟩ = false at f1
  apply wp_one ((W.setCell ⟨w.heap.size, 0, none⟩ (.int .i64 (sml p))).setCell ⟨w.heap.size, 1, none⟩ (.int .i64 (sml t))).drew
  case key =>
    intro K' hQ
    have HQ : Aside _ := hQ
    clear hQ
    go_region_with (first | (go_at_call_of 37 (Value.int IntKind.i64 p); refine (small_calls _ _).mono ?_; rintro e w' ⟨rfl, rfl⟩) | (go_at_call_of 37 (Value.int IntKind.i64 t); refine (small_calls _ _).mono ?_; rintro e w' ⟨rfl, rfl⟩))
    all_goals exact HQ.out
  go_wp2
  have F1 : Fo w (finE (p, t, k)) ((W.setCell ⟨w.heap.size, 0, none⟩ (.int .i64 (sml p))).setCell ⟨w.heap.size, 1, none⟩ (.int .i64 (sml t))).drew := by
    have := do_drew (do_end3 SS.out.v (sml p) (sml t))
    exact SS.out.own this.1 this.2
  clear c0 c1 f0 f1 SS
  generalize ((W.setCell ⟨w.heap.size, 0, none⟩ (.int .i64 (sml p))).setCell ⟨w.heap.size, 1, none⟩ (.int .i64 (sml t))).drew = W1 at F1 ⊢
  have FA : Aside _ := F1
  clear F1
  go_loopg [18] R.length (fun kx s18 wr => ∃ (i : Nat), s18 = .int .i64 i ∧ i ≤ R.length ∧ R.length - i ≤ kx ∧ Aside (Fo w (runE (R.take i) (finE (p, t, k))) wr))
  case atStart => exact ⟨0, rfl, Nat.zero_le _, Nat.le_refl _, FA⟩
  case round =>
    clear FA
    obtain ⟨i, rfl, hid, hkx, A1⟩ := hrel
    have wj : IntKind.i64.wrap ((i : Int) + 1) = (i : Int) + 1 := by rw [IntKind.wrap_i64]; omega
    by_cases hlt : i < R.length
    · have hltz : (i : Int) < (R.length : Int) := by omega
      have hne : R ≠ [] := by rintro rfl; simp at hlt
      obtain ⟨g, o, rfl, hg, hH⟩ := HR.out.resolve_left hne
      have h2 := holds_below hH A1.out.b hg
      have oo := fun c (hc : c < 4) => HoldsK.cell h2 (i := i) (by simpa using hlt) (c := c) hc
      have hT : R.take (i + 1) = R.take i ++ [R[i]] := List.take_succ_eq_append_getElem hlt
      obtain ⟨x, hx⟩ : ∃ x, x = R[i] := ⟨_, rfl⟩
      rw [← hx] at hT
      have hx2 : R.toArray[i]! = x := by rw [getElem!_pos R.toArray i (by simpa using hlt), hx]; simp
      rw [hx2] at oo
      obtain ⟨x0, x1, x2, x3⟩ := x
      have HT : Hid _ := (show runE (R.take (i + 1)) (finE (p, t, k)) = stepE (x0, x1, x2, x3) (runE (R.take i) (finE (p, t, k))) by rw [hT, runE_snoc])
      clear hT hx hx2 h2 hH hne hg
      have o0 : wr.cell? ⟨g, o + i * 4, none⟩ = some (.int .i64 x0) ∧ _ := oo 0 (by omega)
      have o1 : wr.cell? ⟨g, o + i * 4 + 1, none⟩ = some (.int .i64 x1) ∧ _ := oo 1 (by omega)
      have o2 : wr.cell? ⟨g, o + i * 4 + 2, none⟩ = some (.int .i64 x2) ∧ _ := oo 2 (by omega)
      have o3 : wr.cell? ⟨g, o + i * 4 + 3, none⟩ = some (.int .i64 x3) ∧ _ := oo 3 (by omega)
      clear oo
      generalize hv : runE (R.take i) (finE (p, t, k)) = v at A1 HT
      clear hv
      have hof := fun W => of_calls x0 x1 x2 x3 W
      generalize lyr x0 = lv at hof
      rcases layers x0 stepE (x0, x1, x2, x3) rfl rfl with hl | hl | hl | hl | hl

      · obtain ⟨hl, hd, hs⟩ := hl
        rw [hd] at hof
        have hs1 : Hid _ := hs v

        clear hl hd hs
        have nq := nq1
        go_wp2_with (first
          | (go_at_call 29; refine (hof _).mono ?_; rintro e w2 ⟨rfl, hG⟩; obtain ⟨b0, b1, b2, b3, b4⟩ := boxE hG; have FF : Aside _ := A1.out.gr (Gr.trans (Gr.alloc (Gr.refl _) _) hG); clear hG o0 o1 o2 o3)
          | (go_at_call 46; refine (do1_calls _ _ (x0, x1, x2, x3) _ (FF.out.gr (Gr.alloc (Gr.refl _) _)).v).mono ?_; rintro e w3 ⟨rfl, hg, hv⟩; have F3 : Aside _ := (FF.out.gr (Gr.alloc (Gr.refl _) _)).own hg hv; clear hg hv b0 b1 b2 b3 b4))
        go_roundg (R.length - (i + 1))
        case measure => omega
        case rel => exact ⟨i + 1, by first | rfl | go_num, by omega, Nat.le_refl _, by rw [HT.out, hs1.out]; exact F3⟩
      · obtain ⟨hl, hd, hs⟩ := hl
        rw [hd] at hof
        have hs1 : Hid _ := hs v

        clear hl hd hs
        have nq := nq2
        go_wp2_with (first
          | (go_at_call 29; refine (hof _).mono ?_; rintro e w2 ⟨rfl, hG⟩; obtain ⟨b0, b1, b2, b3, b4⟩ := boxE hG; have FF : Aside _ := A1.out.gr (Gr.trans (Gr.alloc (Gr.refl _) _) hG); clear hG o0 o1 o2 o3)
          | (go_at_call 47; refine (do2_calls _ _ (x0, x1, x2, x3) _ (FF.out.gr (Gr.alloc (Gr.refl _) _)).v).mono ?_; rintro e w3 ⟨rfl, hg, hv⟩; have F3 : Aside _ := (FF.out.gr (Gr.alloc (Gr.refl _) _)).own hg hv; clear hg hv b0 b1 b2 b3 b4))
        go_roundg (R.length - (i + 1))
        case measure => omega
        case rel => exact ⟨i + 1, by first | rfl | go_num, by omega, Nat.le_refl _, by rw [HT.out, hs1.out]; exact F3⟩
      · obtain ⟨hl, hd, hs⟩ := hl
        rw [hd] at hof
        have hs1 : Hid _ := hs v

        clear hl hd hs
        have nq := nq3
        go_wp2_with (first
          | (go_at_call 29; refine (hof _).mono ?_; rintro e w2 ⟨rfl, hG⟩; obtain ⟨b0, b1, b2, b3, b4⟩ := boxE hG; have FF : Aside _ := A1.out.gr (Gr.trans (Gr.alloc (Gr.refl _) _) hG); clear hG o0 o1 o2 o3)
          | (go_at_call 48; refine (do3_calls _ _ (x0, x1, x2, x3) _ (FF.out.gr (Gr.alloc (Gr.refl _) _)).v).mono ?_; rintro e w3 ⟨rfl, hg, hv⟩; have F3 : Aside _ := (FF.out.gr (Gr.alloc (Gr.refl _) _)).own hg hv; clear hg hv b0 b1 b2 b3 b4))
        go_roundg (R.length - (i + 1))
        case measure => omega
        case rel => exact ⟨i + 1, by first | rfl | go_num, by omega, Nat.le_refl _, by rw [HT.out, hs1.out]; exact F3⟩
      · obtain ⟨hl, hd, hs⟩ := hl
        rw [hd] at hof
        have hs1 : Hid _ := hs v

        clear hl hd hs
        have nq := nq4
        go_wp2_with (first
          | (go_at_call 29; refine (hof _).mono ?_; rintro e w2 ⟨rfl, hG⟩; obtain ⟨b0, b1, b2, b3, b4⟩ := boxE hG; have FF : Aside _ := A1.out.gr (Gr.trans (Gr.alloc (Gr.refl _) _) hG); clear hG o0 o1 o2 o3)
          | (go_at_call 49; refine (do4_calls _ _ (x0, x1, x2, x3) _ (FF.out.gr (Gr.alloc (Gr.refl _) _)).v).mono ?_; rintro e w3 ⟨rfl, hg, hv⟩; have F3 : Aside _ := (FF.out.gr (Gr.alloc (Gr.refl _) _)).own hg hv; clear hg hv b0 b1 b2 b3 b4))
        go_roundg (R.length - (i + 1))
        case measure => omega
        case rel => exact ⟨i + 1, by first | rfl | go_num, by omega, Nat.le_refl _, by rw [HT.out, hs1.out]; exact F3⟩
      · obtain ⟨hd, hs⟩ := hl
        rw [hd] at hof
        have hs1 : Hid _ := hs v

        clear hd hs
        have nq := nq0
        go_wp2_with (first
          | (go_at_call 29; refine (hof _).mono ?_; rintro e w2 ⟨rfl, hG⟩; obtain ⟨b0, b1, b2, b3, b4⟩ := boxE hG; have FF : Aside _ := A1.out.gr (Gr.trans (Gr.alloc (Gr.refl _) _) hG); clear hG o0 o1 o2 o3))
        go_roundg (R.length - (i + 1))
        case measure => omega
        case rel => exact ⟨i + 1, by first | rfl | go_num, by omega, Nat.le_refl _, by rw [HT.out, hs1.out]; exact FF.out.gr (Gr.alloc (Gr.refl _) _)⟩
    · have hltz : ¬ (i : Int) < (R.length : Int) := by omega
      obtain rfl : i = R.length := by omega
      have A2 := A1.out
      rw [List.take_length] at A2
      clear A1
      obtain ⟨⟨p2, t2, k2⟩, hv2⟩ : ∃ v2, runE R (finE (p, t, k)) = v2 := ⟨_, rfl⟩
      rw [hv2] at A2
      have HV : Hid (foldE R (p, t, k) = finE (p2, t2, k2)) := (show finE (runE R (finE (p, t, k))) = _ by rw [hv2])
      clear hv2
      obtain ⟨c0, f0⟩ := blk_hold A2.v 0 (by simp [encV])
      obtain ⟨c1, f1⟩ := blk_hold A2.v 1 (by simp [encV])
      change World.cell? _ ⟨w.heap.size, 0, none⟩ = some (.int .i64 p2) at c0
      change World.frozen? _ ⟨w.heap.size, 0, none⟩ = false at f0
      change World.cell? _ ⟨w.heap.size, 1, none⟩ = some (.int .i64 t2) at c1
      change World.frozen? _ ⟨w.heap.size, 1, none⟩ = false at f1
      have SS : Aside _ := A2
      clear A2 hid hkx wj
      go_upto_region 9 with fail
      rename_i K3 J3 K2 A3 A2 K1 A1 K0 A0
      clear A1 A2 A3 HR hlt hltz
      replace A0 : Aside _ := A0
      apply wp_one ((wr.setCell ⟨w.heap.size, 0, none⟩ (.int .i64 (sml p2))).setCell ⟨w.heap.size, 1, none⟩ (.int .i64 (sml t2))).drew
      case key =>
        intro K' hQ
        have HQ : Aside _ := hQ
        clear hQ
        go_region_with (first | (go_at_call_of 37 (Value.int IntKind.i64 p2); refine (small_calls _ _).mono ?_; rintro e w' ⟨rfl, rfl⟩) | (go_at_call_of 37 (Value.int IntKind.i64 t2); refine (small_calls _ _).mono ?_; rintro e w' ⟨rfl, rfl⟩))
        all_goals exact HQ.out
      have F1 : Fo w (finE (p2, t2, k2)) ((wr.setCell ⟨w.heap.size, 0, none⟩ (.int .i64 (sml p2))).setCell ⟨w.heap.size, 1, none⟩ (.int .i64 (sml t2))).drew := by
        have := do_drew (do_end3 SS.out.v (sml p2) (sml t2))
        exact SS.out.own this.1 this.2
      replace A0 := A0.out
      clear c0 c1 f0 f1
      generalize ((wr.setCell ⟨w.heap.size, 0, none⟩ (.int .i64 (sml p2))).setCell ⟨w.heap.size, 1, none⟩ (.int .i64 (sml t2))).drew = W2 at F1 ⊢
      have d0 : W2.cell? ⟨w.heap.size, 0, none⟩ = some (.int .i64 (sml p2)) := (blk_hold F1.v 0 (by simp [encV])).1
      have d1 : W2.cell? ⟨w.heap.size, 1, none⟩ = some (.int .i64 (sml t2)) := (blk_hold F1.v 1 (by simp [encV])).1
      have d2 : W2.cell? ⟨w.heap.size, 2, none⟩ = some (.int .i64 k2) := (blk_hold F1.v 2 (by simp [encV])).1
      obtain ⟨r0, s0⟩ := blk_hold F1.r 0 (by simp [encV])
      obtain ⟨r1, s1⟩ := blk_hold F1.r 1 (by simp [encV])
      obtain ⟨r2, s2⟩ := blk_hold F1.r 2 (by simp [encV])
      change W2.cell? ⟨w.heap.size + 1, 0, none⟩ = some (.int .i64 0) at r0
      change W2.cell? ⟨w.heap.size + 1, 1, none⟩ = some (.int .i64 0) at r1
      change W2.cell? ⟨w.heap.size + 1, 2, none⟩ = some (.int .i64 0) at r2
      change W2.frozen? ⟨w.heap.size + 1, 0, none⟩ = false at s0
      change W2.frozen? ⟨w.heap.size + 1, 1, none⟩ = false at s1
      change W2.frozen? ⟨w.heap.size + 1, 2, none⟩ = false at s2
      have FF : Aside _ := F1.b
      clear F1
      go_wp2
      refine bodyPost_ret (v := .agg #[.int .i64 (sml p2), .int .i64 (sml t2), .int .i64 k2]) (by simp [results, Try.results18, go_sem, r0, r1, r2]) rfl ?_
      refine ⟨by rw [HV.out]; rfl, ?_⟩
      exact ((FF.out.setCell (p := ⟨w.heap.size + 1, 0, none⟩) (Nat.le_succ _) _).setCell (p := ⟨w.heap.size + 1, 1, none⟩) (Nat.le_succ _) _).setCell (p := ⟨w.heap.size + 1, 2, none⟩) (Nat.le_succ _) _
end Go.Proofs.Ytgbhmkdldfhamaa.charsOf
