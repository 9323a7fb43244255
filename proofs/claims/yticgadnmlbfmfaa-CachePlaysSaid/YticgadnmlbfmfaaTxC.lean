/-
  Chapter 25: chapter 14's small functions, the operations, Fold, walked.
-/
import Derived.Test.YticgadnmlbfmfaaTxA
namespace Go.Proofs.Yticgadnmlbfmfaa.cachePlays
open Go.Shelf Go.RowKit Go.Lib Go.Sort
def sml (n : Int) : Int := min (max n (-999)) 999
theorem small_calls (n : Int) (w : World) : Calls Try.prog 59 #[.int .i64 n] w fun e w' => e = .returned (.int .i64 (sml n)) ∧ w' = w := by
  go_enter Try.func59, Try.ntmps59
  go_wp2
  go_ret
  exact ⟨rfl, rfl⟩
def lyr (op : Int) : Int := if op = 1 ∨ op = 2 then 1 else if op = 3 then 2 else if op = 4 then 3 else 0
def doV (op : Int) : Value := if op = 1 then .func (.func 86) #[] #[] else if op = 2 then .func (.func 87) #[] #[] else if op = 3 then .func (.func 88) #[] #[] else if op = 4 then .func (.func 89) #[] #[] else .nilFunc
theorem rows_calls (w : World) : Calls Try.prog 77 #[] w fun e w' => e = .returned (.agg #[.int .i64 0, .nilFunc, .int .i64 1, .func (.func 86) #[] #[], .int .i64 1, .func (.func 87) #[] #[], .int .i64 2, .func (.func 88) #[] #[], .int .i64 3, .func (.func 89) #[] #[]]) ∧ w' = w.alloc (.cells #[.int .i64 0, .nilFunc, .int .i64 1, .func (.func 86) #[] #[], .int .i64 1, .func (.func 87) #[] #[], .int .i64 2, .func (.func 88) #[] #[], .int .i64 3, .func (.func 89) #[] #[]] 137) := by
  go_enter Try.func77, Try.ntmps77
  go_wp2
  go_returns
  exact ⟨rfl, rfl⟩
theorem mixedT : Try.prog.follows .mixedOrders = true := by kernel_rfl
theorem ix0 (W : World) : Sem.run Try.prog (Instr.index 137 (.agg #[.int .i64 0, .nilFunc, .int .i64 1, .func (.func 86) #[] #[], .int .i64 1, .func (.func 87) #[] #[], .int .i64 2, .func (.func 88) #[] #[], .int .i64 3, .func (.func 89) #[] #[]]) (.int .i64 0)) W = .ok (.agg #[.int .i64 0, .nilFunc]) W := by kernel_rfl
theorem ix1 (W : World) : Sem.run Try.prog (Instr.index 137 (.agg #[.int .i64 0, .nilFunc, .int .i64 1, .func (.func 86) #[] #[], .int .i64 1, .func (.func 87) #[] #[], .int .i64 2, .func (.func 88) #[] #[], .int .i64 3, .func (.func 89) #[] #[]]) (.int .i64 1)) W = .ok (.agg #[.int .i64 1, .func (.func 86) #[] #[]]) W := by kernel_rfl
theorem ix2 (W : World) : Sem.run Try.prog (Instr.index 137 (.agg #[.int .i64 0, .nilFunc, .int .i64 1, .func (.func 86) #[] #[], .int .i64 1, .func (.func 87) #[] #[], .int .i64 2, .func (.func 88) #[] #[], .int .i64 3, .func (.func 89) #[] #[]]) (.int .i64 2)) W = .ok (.agg #[.int .i64 1, .func (.func 87) #[] #[]]) W := by kernel_rfl
theorem ix3 (W : World) : Sem.run Try.prog (Instr.index 137 (.agg #[.int .i64 0, .nilFunc, .int .i64 1, .func (.func 86) #[] #[], .int .i64 1, .func (.func 87) #[] #[], .int .i64 2, .func (.func 88) #[] #[], .int .i64 3, .func (.func 89) #[] #[]]) (.int .i64 3)) W = .ok (.agg #[.int .i64 2, .func (.func 88) #[] #[]]) W := by kernel_rfl
theorem ix4 (W : World) : Sem.run Try.prog (Instr.index 137 (.agg #[.int .i64 0, .nilFunc, .int .i64 1, .func (.func 86) #[] #[], .int .i64 1, .func (.func 87) #[] #[], .int .i64 2, .func (.func 88) #[] #[], .int .i64 3, .func (.func 89) #[] #[]]) (.int .i64 4)) W = .ok (.agg #[.int .i64 3, .func (.func 89) #[] #[]]) W := by kernel_rfl
theorem lyr_out {op : Int} (h : op < 0 ∨ 4 < op) : lyr op = 0 ∧ doV op = .nilFunc := by
  unfold lyr doV
  rw [if_neg (by omega), if_neg (by omega), if_neg (by omega), if_neg (by omega), if_neg (by omega), if_neg (by omega), if_neg (by omega)]
  exact ⟨rfl, rfl⟩
set_option maxHeartbeats 4000000 in
set_option maxRecDepth 100000 in
theorem of_calls (op a b s : Int) (w : World) : Calls Try.prog 60 #[.agg #[.int .i64 op, .int .i64 a, .int .i64 b, .int .i64 s]] w fun e w' => e = .returned (.agg #[.int .i64 (lyr op), doV op]) ∧ Gr w w' := by
  have mixed := mixedT
  by_cases h0 : op < 0
  · obtain ⟨e1, e2⟩ := lyr_out (.inl h0)
    rw [e1, e2]
    go_enter Try.func60, Try.ntmps60
    go_wp2
    go_returns
    exact ⟨rfl, (Gr.refl _).alloc _ |>.alloc _⟩
  · by_cases h4 : 4 < op
    · obtain ⟨e1, e2⟩ := lyr_out (.inr h4)
      rw [e1, e2]
      go_enter Try.func60, Try.ntmps60
      go_wp2
      go_returns
      exact ⟨rfl, (Gr.refl _).alloc _ |>.alloc _⟩
    · have ix0 := ix0
      have ix1 := ix1
      have ix2 := ix2
      have ix3 := ix3
      have ix4 := ix4
      obtain rfl | rfl | rfl | rfl | rfl : op = 0 ∨ op = 1 ∨ op = 2 ∨ op = 3 ∨ op = 4 := by omega
      all_goals
        clear h0 h4
        go_enter Try.func60, Try.ntmps60
        go_wp2
        go_region_with (go_at_call 77; refine (rows_calls _).mono ?_; rintro e w' ⟨rfl, rfl⟩)
      all_goals
        go_wp2
        go_returns
        exact ⟨rfl, by repeat' (first | exact Gr.refl _ | refine Gr.alloc ?_ _ | refine Gr.drew ?_)⟩
theorem lyr_in (op : Int) : 0 ≤ lyr op ∧ lyr op ≤ 3 := by
  unfold lyr
  repeat' split
  all_goals omega
/-- An effect: operation, two numbers, stamp. -/
abbrev Ef := Int × Int × Int × Int
def encE (x : Ef) : List Value := [.int .i64 x.1, .int .i64 x.2.1, .int .i64 x.2.2.1, .int .i64 x.2.2.2]
theorem encE_len (x : Ef) : (encE x).length = 4 := rfl
theorem encE_one (x : Ef) : ∀ v ∈ encE x, v.oneCell' = true := by
  intro v hv
  simp only [encE, List.mem_cons, List.not_mem_nil, or_false] at hv
  rcases hv with rfl | rfl | rfl | rfl <;> rfl
/-- The cells of a list of effects. -/
def flatE (l : List Ef) : List Value := l.flatMap encE
theorem flatE_len (l : List Ef) : (flatE l).length = l.length * 4 := by
  induction l with
  | nil => rfl
  | cons x l ih =>
    unfold flatE at ih ⊢
    rw [List.flatMap_cons, List.length_append, ih, encE_len, List.length_cons]
    omega
theorem flatE_app (l m : List Ef) : flatE (l ++ m) = flatE l ++ flatE m := by
  unfold flatE
  rw [List.flatMap_append]
theorem flat_flatK (l : List Ef) : (flatK encE 4 l.toArray).toList = flatE l := by
  apply List.ext_getElem
  · simp [flatE_len]
  · intro i h1 h2
    simp only [flatK, Array.toList_map, List.getElem_map, Array.toList_range, List.getElem_range]
    have hl : i < l.length * 4 := by simpa [flatE_len] using h2
    clear h1
    induction l generalizing i with
    | nil => simp at hl
    | cons x l ih =>
      have e : flatE (x :: l) = encE x ++ flatE l := by simp [flatE]
      simp only [List.length_cons] at hl
      rcases Nat.lt_or_ge i 4 with h | h
      · simp only [e]
        rw [List.getElem_append_left (by rw [encE_len]; exact h), show i / 4 = 0 by omega, show i % 4 = i by omega]
        rw [getElem!_pos (encE _) i (by rw [encE_len]; exact h)]
        simp
      · simp only [e]
        rw [List.getElem_append_right (by rw [encE_len]; exact h)]
        have := ih (i - 4) (by rw [flatE_len]; omega) (by omega)
        simp only [encE_len]
        rw [← this, show i / 4 = (i - 4) / 4 + 1 by omega, show (i - 4) % 4 = i % 4 by omega]
        congr 1
        have h3 : (i - 4) / 4 < l.length := by omega
        rw [getElem!_pos (x :: l).toArray _ (by simp; omega), getElem!_pos l.toArray _ (by simpa using h3)]
        simp
theorem own_holds {W : World} {base n c : Nat} {g : Nat} {l : List Ef} (h : W.ownsRow base 49 4 (.slice (some ⟨g, 0, none⟩) n c) l.length (flatE l)) : n = l.length ∧ l.length ≤ c ∧ HoldsK encE 4 W g 0 l.toArray ∧ g < W.heap.size ∧ base ≤ g := by
  rcases h.2 with ⟨e, _⟩ | ⟨g', cap, cur, e, hb, hg, hc, _⟩
  · cases e
  · injection e with e1 e2 e3
    injection e1 with e1
    injection e1 with e1
    subst e1 e2 e3
    refine ⟨rfl, hc, fun j hj => ?_, blk_lt hg, hb⟩
    rw [Nat.zero_add]
    have hj' : j < (flatE l).length := by rw [← flat_flatK]; simpa using hj
    refine ⟨?_, h.frozenAt j⟩
    rw [h.cellAt j (by rw [← flatE_len]; exact hj'), List.getElem?_eq_getElem hj']
    simp only [← flat_flatK, id]
    rw [getElem!_pos _ j hj]
    simp
def encV (v : Int × Int × Int) : List Value := [.int .i64 v.1, .int .i64 v.2.1, .int .i64 v.2.2]
def DoC (P : Program) (f : Nat) (s : Ef → Int × Int × Int → Int × Int × Int) : Prop := ∀ (b : Nat) (v : Int × Int × Int) (x : Ef) (w : World), w.heap[b]? = some (.cells (encV v).toArray 36) → Calls P f #[.pointer (some ⟨b, 0, none⟩), .agg (encE x).toArray] w fun e w' => e = .returned (.tuple #[]) ∧ w.grownBy w' (some b) ∧ w'.heap[b]? = some (.cells (encV (s x v)).toArray 36)
theorem do_end1 {w : World} {b : Nat} {p t k : Int} (hb : w.heap[b]? = some (.cells (encV (p, t, k)).toArray 36)) (o : Obj) (y : Int) : w.grownBy ((w.setCell ⟨b, 2, none⟩ (.int .i64 y)).alloc o).drew (some b) ∧ ((w.setCell ⟨b, 2, none⟩ (.int .i64 y)).alloc o).drew.heap[b]? = some (.cells (encV (p, t, y)).toArray 36) := by
  have hl := blk_lt hb
  have G1 : w.grownBy (w.setCell ⟨b, 2, none⟩ (.int .i64 y)) (some b) := ⟨rfl, rfl, rfl, by simp, fun k hk hn => Below.heap_setCell _ _ _ _ (fun e => hn (by rw [e]))⟩
  have h1 : (w.setCell ⟨b, 2, none⟩ (.int .i64 y)).heap[b]? = some (.cells (encV (p, t, y)).toArray 36) := by
    simp only [World.setCell, Array.getElem?_modify, hb, encV]
    simp
  refine ⟨⟨rfl, rfl, rfl, ?_, fun j hj hn => ?_⟩, blk_old h1 o⟩
  · have := G1.size
    simp only [World.drew, World.alloc, Array.size_push] at this ⊢
    omega
  · rw [← G1.block j hj hn]
    exact Below.heap_alloc _ _ _ (by have := G1.size; omega)
theorem do_end2 {w : World} {b : Nat} {p t k : Int} (hb : w.heap[b]? = some (.cells (encV (p, t, k)).toArray 36)) (o : Obj) (y z : Int) : w.grownBy (((w.setCell ⟨b, 0, none⟩ (.int .i64 y)).setCell ⟨b, 1, none⟩ (.int .i64 z)).alloc o) (some b) ∧ (((w.setCell ⟨b, 0, none⟩ (.int .i64 y)).setCell ⟨b, 1, none⟩ (.int .i64 z)).alloc o).heap[b]? = some (.cells (encV (y, z, k)).toArray 36) := by
  have hl := blk_lt hb
  have h1 : ((w.setCell ⟨b, 0, none⟩ (.int .i64 y)).setCell ⟨b, 1, none⟩ (.int .i64 z)).heap[b]? = some (.cells (encV (y, z, k)).toArray 36) := by
    simp only [World.setCell, Array.getElem?_modify, hb, encV]
    simp
  refine ⟨⟨rfl, rfl, rfl, ?_, fun j hj hn => ?_⟩, blk_old h1 o⟩
  · simp only [World.size_alloc, World.size_setCell]
    omega
  · rw [Below.heap_alloc _ _ _ (by simpa using hj), Below.heap_setCell _ _ _ _ (fun e => hn (by rw [e])), Below.heap_setCell _ _ _ _ (fun e => hn (by rw [e]))]
theorem do_drew {w W : World} {b : Nat} {o : Option Obj} (h : w.grownBy W (some b) ∧ W.heap[b]? = o) : w.grownBy W.drew (some b) ∧ W.drew.heap[b]? = o :=
  ⟨⟨h.1.os, h.1.tape, h.1.output, h.1.size, h.1.block⟩, h.2⟩
theorem still_tail_drew {P : Program} {id : Nat} {Q : Exit → Act → World → Prop} {a : Act} {w : World} {l : List Oper} (n : Nat) (hm : P.follows .mixedOrders = true) (hB : Region.lexTailB .any l.toArray n = true)
    (h : wpStill P l.toArray w.drew (fun a' => wpList P l.toArray Q (l.drop n) a' w.drew) (l.take n) a) : (Code.region id l.toArray true).wp P Q a w := wp_region_still_tail n hm hB h
theorem body_void {P : Program} {fn : Func} {R : Ending → World → Prop} {a : Act} {w : World} (hr : fn.results = #[]) (hd : a.defers = []) (hR : R (.returned (.tuple #[])) w) : bodyPost P fn R .normal a w :=
  bodyPost_end (v := .tuple #[]) (by simp [results, hr]) hd hR
set_option maxHeartbeats 4000000 in
set_option maxRecDepth 100000 in
theorem do1_calls : DoC Try.prog 86 fun x v => (v.1, v.2.1, bits .or .i64 v.2.2 x.2.1) := by
  rintro b ⟨p, t, k⟩ ⟨x0, x1, x2, x3⟩ w hb
  have mixed := mixedT
  show Calls Try.prog 86 #[.pointer (some ⟨b, 0, none⟩), .agg #[.int .i64 x0, .int .i64 x1, .int .i64 x2, .int .i64 x3]] w _
  have hbl := blk_lt hb
  obtain ⟨c2, f2⟩ := blk_hold (blk_old hb (.cells #[.int .i64 x0, .int .i64 x1, .int .i64 x2, .int .i64 x3] 49)) 2 (by simp [encV])
  have HB := do_end1 hb (.cells #[.int .i64 x0, .int .i64 x1, .int .i64 x2, .int .i64 x3] 49) (bits .or .i64 k x1)
  have HB : Aside _ := HB
  change World.cell? _ ⟨b, 2, none⟩ = some (.int .i64 k) at c2
  change World.frozen? _ ⟨b, 2, none⟩ = false at f2
  clear hb
  go_enter Try.func86, Try.ntmps86
  go_wp2_with fail
  go_region
  exact body_void rfl rfl ⟨rfl, HB.out⟩
set_option maxHeartbeats 4000000 in
set_option maxRecDepth 100000 in
theorem do2_calls : DoC Try.prog 87 fun x v => (v.1, v.2.1, bits .andNot .i64 v.2.2 x.2.1) := by
  rintro b ⟨p, t, k⟩ ⟨x0, x1, x2, x3⟩ w hb
  have mixed := mixedT
  show Calls Try.prog 87 #[.pointer (some ⟨b, 0, none⟩), .agg #[.int .i64 x0, .int .i64 x1, .int .i64 x2, .int .i64 x3]] w _
  have hbl := blk_lt hb
  obtain ⟨c2, f2⟩ := blk_hold (blk_old hb (.cells #[.int .i64 x0, .int .i64 x1, .int .i64 x2, .int .i64 x3] 49)) 2 (by simp [encV])
  have HB := do_end1 hb (.cells #[.int .i64 x0, .int .i64 x1, .int .i64 x2, .int .i64 x3] 49) (bits .andNot .i64 k x1)
  have HB : Aside _ := HB
  change World.cell? _ ⟨b, 2, none⟩ = some (.int .i64 k) at c2
  change World.frozen? _ ⟨b, 2, none⟩ = false at f2
  clear hb
  go_enter Try.func87, Try.ntmps87
  go_wp2_with fail
  go_region
  exact body_void rfl rfl ⟨rfl, HB.out⟩
set_option maxHeartbeats 4000000 in
set_option maxRecDepth 100000 in
theorem do3_calls : DoC Try.prog 88 fun x v => (sml x.2.1, sml x.2.2.1, v.2.2) := by
  rintro b ⟨p, t, k⟩ ⟨x0, x1, x2, x3⟩ w hb
  have mixed := mixedT
  show Calls Try.prog 88 #[.pointer (some ⟨b, 0, none⟩), .agg #[.int .i64 x0, .int .i64 x1, .int .i64 x2, .int .i64 x3]] w _
  have hbl := blk_lt hb
  obtain ⟨c0, f0⟩ := blk_hold hb 0 (by simp [encV])
  obtain ⟨c1, f1⟩ := blk_hold hb 1 (by simp [encV])
  have HB : Aside _ := fun y z => do_end2 hb (.cells #[.int .i64 x0, .int .i64 x1, .int .i64 x2, .int .i64 x3] 49) y z
  change World.cell? _ ⟨b, 0, none⟩ = some (.int .i64 p) at c0
  change World.frozen? _ ⟨b, 0, none⟩ = false at f0
  change World.cell? _ ⟨b, 1, none⟩ = some (.int .i64 t) at c1
  change World.frozen? _ ⟨b, 1, none⟩ = false at f1
  clear hb
  go_enter Try.func88, Try.ntmps88
  go_wp2_with fail
  go_region_with (first | (go_at_call_of 59 (Value.int IntKind.i64 x1); refine (small_calls _ _).mono ?_; rintro e w' ⟨rfl, rfl⟩) | (go_at_call_of 59 (Value.int IntKind.i64 x2); refine (small_calls _ _).mono ?_; rintro e w' ⟨rfl, rfl⟩))
  all_goals
    refine body_void rfl rfl ⟨rfl, ?_⟩
    exact do_drew (HB.out _ _)
set_option maxHeartbeats 4000000 in
set_option maxRecDepth 100000 in
theorem do4_calls : DoC Try.prog 89 fun x v => (wrap64 (v.1 + sml x.2.1), wrap64 (v.2.1 + sml x.2.2.1), v.2.2) := by
  rintro b ⟨p, t, k⟩ ⟨x0, x1, x2, x3⟩ w hb
  have mixed := mixedT
  show Calls Try.prog 89 #[.pointer (some ⟨b, 0, none⟩), .agg #[.int .i64 x0, .int .i64 x1, .int .i64 x2, .int .i64 x3]] w _
  have hbl := blk_lt hb
  obtain ⟨c0, f0⟩ := blk_hold hb 0 (by simp [encV])
  obtain ⟨c1, f1⟩ := blk_hold hb 1 (by simp [encV])
  have HB : Aside _ := fun y z => do_end2 hb (.cells #[.int .i64 x0, .int .i64 x1, .int .i64 x2, .int .i64 x3] 49) y z
  change World.cell? _ ⟨b, 0, none⟩ = some (.int .i64 p) at c0
  change World.frozen? _ ⟨b, 0, none⟩ = false at f0
  change World.cell? _ ⟨b, 1, none⟩ = some (.int .i64 t) at c1
  change World.frozen? _ ⟨b, 1, none⟩ = false at f1
  clear hb
  go_enter Try.func89, Try.ntmps89
  go_wp2_with fail
  refine still_tail_drew 8 mixed (by kernel_rfl) ?_
  simp only [List.take_succ_cons, List.take_zero, List.drop_succ_cons, List.drop_zero]
  repeat still_step
  still_call (small_calls x1 _)
  repeat still_step
  refine wpStill_nil ?_
  go_wp2_with fail
  refine still_tail_drew 8 mixed (by kernel_rfl) ?_
  simp only [List.take_succ_cons, List.take_zero, List.drop_succ_cons, List.drop_zero]
  repeat still_step
  still_call (small_calls x2 _)
  repeat still_step
  refine wpStill_nil ?_
  go_wp2_with fail
  all_goals
    refine body_void rfl rfl ⟨rfl, ?_⟩
    exact do_drew (do_drew (HB.out _ _))
def stepE (x : Ef) (v : Int × Int × Int) : Int × Int × Int :=
  if x.1 = 1 then (v.1, v.2.1, bits .or .i64 v.2.2 x.2.1) else if x.1 = 2 then (v.1, v.2.1, bits .andNot .i64 v.2.2 x.2.1) else if x.1 = 3 then (sml x.2.1, sml x.2.2.1, v.2.2) else if x.1 = 4 then (wrap64 (v.1 + sml x.2.1), wrap64 (v.2.1 + sml x.2.2.1), v.2.2) else v
def finE (v : Int × Int × Int) : Int × Int × Int := (sml v.1, sml v.2.1, v.2.2)
def runE (l : List Ef) (v : Int × Int × Int) : Int × Int × Int := l.foldl (fun v e => stepE e v) v
def foldE (l : List Ef) (v : Int × Int × Int) : Int × Int × Int := finE (runE l (finE v))
/-- While effects are folded. -/
structure Fo (w : World) (v : Int × Int × Int) (W : World) : Prop where
  b : Below w.heap.size w W
  v : W.heap[w.heap.size]? = some (.cells (encV v).toArray 36)
  r : W.heap[w.heap.size + 1]? = some (.cells (encV (0, 0, 0)).toArray 36)
theorem Fo.start (w : World) (v : Int × Int × Int) : Fo w v ((w.alloc (.cells (encV v).toArray 36)).alloc (.cells (encV (0, 0, 0)).toArray 36)) := by
  refine ⟨gr_below (.refl _ _) (Nat.le_refl _) ((Gr.refl w).alloc _ |>.alloc _), blk_old (blk_new _ _) _, ?_⟩
  have := blk_new (w.alloc (.cells (encV v).toArray 36)) (.cells (encV (0, 0, 0)).toArray 36)
  simpa using this
theorem Fo.gr {w W W' : World} {v : Int × Int × Int} (h : Fo w v W) (g : Gr W W') : Fo w v W' :=
  ⟨gr_below h.b (by have := blk_lt h.v; omega) g, blk_gr h.v g, blk_gr h.r g⟩
theorem Fo.own {w W W' : World} {v v' : Int × Int × Int} (h : Fo w v W) (g : W.grownBy W' (some w.heap.size)) (hv : W'.heap[w.heap.size]? = some (.cells (encV v').toArray 36)) : Fo w v' W' := by
  refine ⟨⟨g.os.trans h.b.os, g.tape.trans h.b.tape, g.output.trans h.b.output, Nat.le_trans h.b.size g.size, fun k hk => ?_⟩, hv, ?_⟩
  · rw [g.block k (Nat.lt_of_lt_of_le hk h.b.size) (by simp; omega)]
    exact h.b.block k hk
  · rw [g.block _ (blk_lt h.r) (by simp)]
    exact h.r
theorem do_end3 {w : World} {b : Nat} {p t k : Int} (hb : w.heap[b]? = some (.cells (encV (p, t, k)).toArray 36)) (y z : Int) : w.grownBy ((w.setCell ⟨b, 0, none⟩ (.int .i64 y)).setCell ⟨b, 1, none⟩ (.int .i64 z)) (some b) ∧ ((w.setCell ⟨b, 0, none⟩ (.int .i64 y)).setCell ⟨b, 1, none⟩ (.int .i64 z)).heap[b]? = some (.cells (encV (y, z, k)).toArray 36) := by
  have h1 : ((w.setCell ⟨b, 0, none⟩ (.int .i64 y)).setCell ⟨b, 1, none⟩ (.int .i64 z)).heap[b]? = some (.cells (encV (y, z, k)).toArray 36) := by
    simp only [World.setCell, Array.getElem?_modify, hb, encV]
    simp
  refine ⟨⟨rfl, rfl, rfl, ?_, fun j hj hn => ?_⟩, h1⟩
  · simp only [World.size_setCell]
    omega
  · rw [Below.heap_setCell _ _ _ _ (fun e => hn (by rw [e])), Below.heap_setCell _ _ _ _ (fun e => hn (by rw [e]))]
theorem holds_below {w W : World} {g o : Nat} {d : Array Ef} (h : HoldsK encE 4 w g o d) (hB : Below w.heap.size w W) (hg : g < w.heap.size) : HoldsK encE 4 W g o d := fun j hj => by
  obtain ⟨h1, h2⟩ := h j hj
  exact ⟨(hB.cell (p := ⟨g, o + j, none⟩) hg).trans h1, (hB.frozen (p := ⟨g, o + j, none⟩) hg).trans h2⟩
theorem runE_snoc (l : List Ef) (x : Ef) (v : Int × Int × Int) : runE (l ++ [x]) v = stepE x (runE l v) := by simp [runE]
theorem layers (op : Int) (s : Ef → Int × Int × Int → Int × Int × Int) (x : Ef) (hx : x.1 = op) (hs : s = stepE) :
    (op = 1 ∧ doV op = .func (.func 86) #[] #[] ∧ ∀ v, s x v = (v.1, v.2.1, bits .or .i64 v.2.2 x.2.1)) ∨ (op = 2 ∧ doV op = .func (.func 87) #[] #[] ∧ ∀ v, s x v = (v.1, v.2.1, bits .andNot .i64 v.2.2 x.2.1)) ∨
    (op = 3 ∧ doV op = .func (.func 88) #[] #[] ∧ ∀ v, s x v = (sml x.2.1, sml x.2.2.1, v.2.2)) ∨ (op = 4 ∧ doV op = .func (.func 89) #[] #[] ∧ ∀ v, s x v = (wrap64 (v.1 + sml x.2.1), wrap64 (v.2.1 + sml x.2.2.1), v.2.2)) ∨ (doV op = .nilFunc ∧ ∀ v, s x v = v) := by
  subst hs hx
  unfold stepE doV
  by_cases h1 : x.1 = 1
  · exact .inl ⟨h1, by rw [if_pos h1], fun v => by rw [if_pos h1]⟩
  · by_cases h2 : x.1 = 2
    · exact .inr (.inl ⟨h2, by rw [if_neg h1, if_pos h2], fun v => by rw [if_neg h1, if_pos h2]⟩)
    · by_cases h3 : x.1 = 3
      · exact .inr (.inr (.inl ⟨h3, by rw [if_neg h1, if_neg h2, if_pos h3], fun v => by rw [if_neg h1, if_neg h2, if_pos h3]⟩))
      · by_cases h4 : x.1 = 4
        · exact .inr (.inr (.inr (.inl ⟨h4, by rw [if_neg h1, if_neg h2, if_neg h3, if_pos h4], fun v => by rw [if_neg h1, if_neg h2, if_neg h3, if_pos h4]⟩)))
        · exact .inr (.inr (.inr (.inr ⟨by rw [if_neg h1, if_neg h2, if_neg h3, if_neg h4], fun v => by rw [if_neg h1, if_neg h2, if_neg h3, if_neg h4]⟩)))
theorem boxE {wr w2 : World} {x0 x1 x2 x3 : Int} (hG : Gr (wr.alloc (.cells #[.int .i64 x0, .int .i64 x1, .int .i64 x2, .int .i64 x3] 49)) w2) : w2.cell? ⟨wr.heap.size, 0, none⟩ = some (.int .i64 x0) ∧ w2.cell? ⟨wr.heap.size, 1, none⟩ = some (.int .i64 x1) ∧ w2.cell? ⟨wr.heap.size, 2, none⟩ = some (.int .i64 x2) ∧ w2.cell? ⟨wr.heap.size, 3, none⟩ = some (.int .i64 x3) ∧ wr.heap.size < w2.heap.size := by
  refine ⟨?_, ?_, ?_, ?_, by have := hG.le; simp at this; omega⟩
  all_goals
    rw [hG.cell (by simp)]
    simp
theorem nq0 (W : World) : Sem.run Try.prog (binOp .neq 121 .nilFunc .nilFunc) W = .ok (.bool false) W := by kernel_rfl
theorem nq1 (W : World) : Sem.run Try.prog (binOp .neq 121 (.func (.func 86) #[] #[]) .nilFunc) W = .ok (.bool true) W := by kernel_rfl
theorem nq2 (W : World) : Sem.run Try.prog (binOp .neq 121 (.func (.func 87) #[] #[]) .nilFunc) W = .ok (.bool true) W := by kernel_rfl
theorem nq3 (W : World) : Sem.run Try.prog (binOp .neq 121 (.func (.func 88) #[] #[]) .nilFunc) W = .ok (.bool true) W := by kernel_rfl
theorem nq4 (W : World) : Sem.run Try.prog (binOp .neq 121 (.func (.func 89) #[] #[]) .nilFunc) W = .ok (.bool true) W := by kernel_rfl
set_option maxHeartbeats 4000000 in
set_option maxRecDepth 100000 in
theorem fold_calls (v : Int × Int × Int) (R : List Ef) (a : Option Addr) (c : Nat) (w : World) (hl : R.length ≤ 1000000) (hR : R = [] ∨ ∃ g o, a = some ⟨g, o, none⟩ ∧ g < w.heap.size ∧ HoldsK encE 4 w g o R.toArray) :
    Calls Try.prog 37 #[.agg (encV v).toArray, .slice a R.length c] w fun e w' => e = .returned (.agg (encV (foldE R v)).toArray) ∧ Below w.heap.size w w' := by
  have mixed := mixedT
  obtain ⟨p, t, k⟩ := v
  have S0 := Fo.start w (p, t, k)
  simp only [encV] at S0 ⊢
  have SS : Aside _ := S0
  have HR : Aside _ := hR
  clear S0 hR
  go_enter Try.func37, Try.ntmps37
  go_upto_region 1 with fail
  generalize ((w.alloc (.cells #[.int .i64 p, .int .i64 t, .int .i64 k] 36)).alloc (.cells #[.int .i64 0, .int .i64 0, .int .i64 0] 36)) = W at SS ⊢
  obtain ⟨c0, f0⟩ := blk_hold SS.out.v 0 (by simp [encV])
  obtain ⟨c1, f1⟩ := blk_hold SS.out.v 1 (by simp [encV])
  change World.cell? _ ⟨w.heap.size, 0, none⟩ = some (.int .i64 p) at c0
  change World.frozen? _ ⟨w.heap.size, 0, none⟩ = false at f0
  change World.cell? _ ⟨w.heap.size, 1, none⟩ = some (.int .i64 t) at c1
  change World.frozen? _ ⟨w.heap.size, 1, none⟩ = false at f1
  apply wp_one ((W.setCell ⟨w.heap.size, 0, none⟩ (.int .i64 (sml p))).setCell ⟨w.heap.size, 1, none⟩ (.int .i64 (sml t))).drew
  case key =>
    intro K' hQ
    have HQ : Aside _ := hQ
    clear hQ
    go_region_with (first | (go_at_call_of 59 (Value.int IntKind.i64 p); refine (small_calls _ _).mono ?_; rintro e w' ⟨rfl, rfl⟩) | (go_at_call_of 59 (Value.int IntKind.i64 t); refine (small_calls _ _).mono ?_; rintro e w' ⟨rfl, rfl⟩))
    all_goals exact HQ.out
  go_wp2
  have F1 : Fo w (finE (p, t, k)) ((W.setCell ⟨w.heap.size, 0, none⟩ (.int .i64 (sml p))).setCell ⟨w.heap.size, 1, none⟩ (.int .i64 (sml t))).drew := by
    have := do_drew (do_end3 SS.out.v (sml p) (sml t))
    exact SS.out.own this.1 this.2
  clear c0 c1 f0 f1 SS
  generalize ((W.setCell ⟨w.heap.size, 0, none⟩ (.int .i64 (sml p))).setCell ⟨w.heap.size, 1, none⟩ (.int .i64 (sml t))).drew = W1 at F1 ⊢
  have FA : Aside _ := F1
  clear F1
  go_loopg [18] R.length (fun kx s18 wr => ∃ (i : Nat), s18 = .int .i64 i ∧ i ≤ R.length ∧ R.length - i ≤ kx ∧ Aside (Fo w (runE (R.take i) (finE (p, t, k))) wr))
  case atStart => exact ⟨0, rfl, Nat.zero_le _, Nat.le_refl _, FA⟩
  case round =>
    clear FA
    obtain ⟨i, rfl, hid, hkx, A1⟩ := hrel
    have wj : IntKind.i64.wrap ((i : Int) + 1) = (i : Int) + 1 := by rw [IntKind.wrap_i64]; omega
    by_cases hlt : i < R.length
    · have hltz : (i : Int) < (R.length : Int) := by omega
      have hne : R ≠ [] := by rintro rfl; simp at hlt
      obtain ⟨g, o, rfl, hg, hH⟩ := HR.out.resolve_left hne
      have h2 := holds_below hH A1.out.b hg
      have oo := fun c (hc : c < 4) => HoldsK.cell h2 (i := i) (by simpa using hlt) (c := c) hc
      have hT : R.take (i + 1) = R.take i ++ [R[i]] := List.take_succ_eq_append_getElem hlt
      obtain ⟨x, hx⟩ : ∃ x, x = R[i] := ⟨_, rfl⟩
      rw [← hx] at hT
      have hx2 : R.toArray[i]! = x := by rw [getElem!_pos R.toArray i (by simpa using hlt), hx]; simp
      rw [hx2] at oo
      obtain ⟨x0, x1, x2, x3⟩ := x
      have HT : Hid _ := (show runE (R.take (i + 1)) (finE (p, t, k)) = stepE (x0, x1, x2, x3) (runE (R.take i) (finE (p, t, k))) by rw [hT, runE_snoc])
      clear hT hx hx2 h2 hH hne hg
      have o0 : wr.cell? ⟨g, o + i * 4, none⟩ = some (.int .i64 x0) ∧ _ := oo 0 (by omega)
      have o1 : wr.cell? ⟨g, o + i * 4 + 1, none⟩ = some (.int .i64 x1) ∧ _ := oo 1 (by omega)
      have o2 : wr.cell? ⟨g, o + i * 4 + 2, none⟩ = some (.int .i64 x2) ∧ _ := oo 2 (by omega)
      have o3 : wr.cell? ⟨g, o + i * 4 + 3, none⟩ = some (.int .i64 x3) ∧ _ := oo 3 (by omega)
      clear oo
      generalize hv : runE (R.take i) (finE (p, t, k)) = v at A1 HT
      clear hv
      have hof := fun W => of_calls x0 x1 x2 x3 W
      generalize lyr x0 = lv at hof
      rcases layers x0 stepE (x0, x1, x2, x3) rfl rfl with hl | hl | hl | hl | hl

      · obtain ⟨hl, hd, hs⟩ := hl
        rw [hd] at hof
        have hs1 : Hid _ := hs v

        clear hl hd hs
        have nq := nq1
        go_wp2_with (first
          | (go_at_call 60; refine (hof _).mono ?_; rintro e w2 ⟨rfl, hG⟩; obtain ⟨b0, b1, b2, b3, b4⟩ := boxE hG; have FF : Aside _ := A1.out.gr (Gr.trans (Gr.alloc (Gr.refl _) _) hG); clear hG o0 o1 o2 o3)
          | (go_at_call 86; refine (do1_calls _ _ (x0, x1, x2, x3) _ (FF.out.gr (Gr.alloc (Gr.refl _) _)).v).mono ?_; rintro e w3 ⟨rfl, hg, hv⟩; have F3 : Aside _ := (FF.out.gr (Gr.alloc (Gr.refl _) _)).own hg hv; clear hg hv b0 b1 b2 b3 b4))
        go_roundg (R.length - (i + 1))
        case measure => omega
        case rel => exact ⟨i + 1, by first | rfl | go_num, by omega, Nat.le_refl _, by rw [HT.out, hs1.out]; exact F3⟩
      · obtain ⟨hl, hd, hs⟩ := hl
        rw [hd] at hof
        have hs1 : Hid _ := hs v

        clear hl hd hs
        have nq := nq2
        go_wp2_with (first
          | (go_at_call 60; refine (hof _).mono ?_; rintro e w2 ⟨rfl, hG⟩; obtain ⟨b0, b1, b2, b3, b4⟩ := boxE hG; have FF : Aside _ := A1.out.gr (Gr.trans (Gr.alloc (Gr.refl _) _) hG); clear hG o0 o1 o2 o3)
          | (go_at_call 87; refine (do2_calls _ _ (x0, x1, x2, x3) _ (FF.out.gr (Gr.alloc (Gr.refl _) _)).v).mono ?_; rintro e w3 ⟨rfl, hg, hv⟩; have F3 : Aside _ := (FF.out.gr (Gr.alloc (Gr.refl _) _)).own hg hv; clear hg hv b0 b1 b2 b3 b4))
        go_roundg (R.length - (i + 1))
        case measure => omega
        case rel => exact ⟨i + 1, by first | rfl | go_num, by omega, Nat.le_refl _, by rw [HT.out, hs1.out]; exact F3⟩
      · obtain ⟨hl, hd, hs⟩ := hl
        rw [hd] at hof
        have hs1 : Hid _ := hs v

        clear hl hd hs
        have nq := nq3
        go_wp2_with (first
          | (go_at_call 60; refine (hof _).mono ?_; rintro e w2 ⟨rfl, hG⟩; obtain ⟨b0, b1, b2, b3, b4⟩ := boxE hG; have FF : Aside _ := A1.out.gr (Gr.trans (Gr.alloc (Gr.refl _) _) hG); clear hG o0 o1 o2 o3)
          | (go_at_call 88; refine (do3_calls _ _ (x0, x1, x2, x3) _ (FF.out.gr (Gr.alloc (Gr.refl _) _)).v).mono ?_; rintro e w3 ⟨rfl, hg, hv⟩; have F3 : Aside _ := (FF.out.gr (Gr.alloc (Gr.refl _) _)).own hg hv; clear hg hv b0 b1 b2 b3 b4))
        go_roundg (R.length - (i + 1))
        case measure => omega
        case rel => exact ⟨i + 1, by first | rfl | go_num, by omega, Nat.le_refl _, by rw [HT.out, hs1.out]; exact F3⟩
      · obtain ⟨hl, hd, hs⟩ := hl
        rw [hd] at hof
        have hs1 : Hid _ := hs v

        clear hl hd hs
        have nq := nq4
        go_wp2_with (first
          | (go_at_call 60; refine (hof _).mono ?_; rintro e w2 ⟨rfl, hG⟩; obtain ⟨b0, b1, b2, b3, b4⟩ := boxE hG; have FF : Aside _ := A1.out.gr (Gr.trans (Gr.alloc (Gr.refl _) _) hG); clear hG o0 o1 o2 o3)
          | (go_at_call 89; refine (do4_calls _ _ (x0, x1, x2, x3) _ (FF.out.gr (Gr.alloc (Gr.refl _) _)).v).mono ?_; rintro e w3 ⟨rfl, hg, hv⟩; have F3 : Aside _ := (FF.out.gr (Gr.alloc (Gr.refl _) _)).own hg hv; clear hg hv b0 b1 b2 b3 b4))
        go_roundg (R.length - (i + 1))
        case measure => omega
        case rel => exact ⟨i + 1, by first | rfl | go_num, by omega, Nat.le_refl _, by rw [HT.out, hs1.out]; exact F3⟩
      · obtain ⟨hd, hs⟩ := hl
        rw [hd] at hof
        have hs1 : Hid _ := hs v

        clear hd hs
        have nq := nq0
        go_wp2_with (first
          | (go_at_call 60; refine (hof _).mono ?_; rintro e w2 ⟨rfl, hG⟩; obtain ⟨b0, b1, b2, b3, b4⟩ := boxE hG; have FF : Aside _ := A1.out.gr (Gr.trans (Gr.alloc (Gr.refl _) _) hG); clear hG o0 o1 o2 o3))
        go_roundg (R.length - (i + 1))
        case measure => omega
        case rel => exact ⟨i + 1, by first | rfl | go_num, by omega, Nat.le_refl _, by rw [HT.out, hs1.out]; exact FF.out.gr (Gr.alloc (Gr.refl _) _)⟩
    · have hltz : ¬ (i : Int) < (R.length : Int) := by omega
      obtain rfl : i = R.length := by omega
      have A2 := A1.out
      rw [List.take_length] at A2
      clear A1
      obtain ⟨⟨p2, t2, k2⟩, hv2⟩ : ∃ v2, runE R (finE (p, t, k)) = v2 := ⟨_, rfl⟩
      rw [hv2] at A2
      have HV : Hid (foldE R (p, t, k) = finE (p2, t2, k2)) := (show finE (runE R (finE (p, t, k))) = _ by rw [hv2])
      clear hv2
      obtain ⟨c0, f0⟩ := blk_hold A2.v 0 (by simp [encV])
      obtain ⟨c1, f1⟩ := blk_hold A2.v 1 (by simp [encV])
      change World.cell? _ ⟨w.heap.size, 0, none⟩ = some (.int .i64 p2) at c0
      change World.frozen? _ ⟨w.heap.size, 0, none⟩ = false at f0
      change World.cell? _ ⟨w.heap.size, 1, none⟩ = some (.int .i64 t2) at c1
      change World.frozen? _ ⟨w.heap.size, 1, none⟩ = false at f1
      have SS : Aside _ := A2
      clear A2 hid hkx wj
      go_upto_region 9 with fail
      rename_i K3 J3 K2 A3 A2 K1 A1 K0 A0
      clear A1 A2 A3 HR hlt hltz
      replace A0 : Aside _ := A0
      apply wp_one ((wr.setCell ⟨w.heap.size, 0, none⟩ (.int .i64 (sml p2))).setCell ⟨w.heap.size, 1, none⟩ (.int .i64 (sml t2))).drew
      case key =>
        intro K' hQ
        have HQ : Aside _ := hQ
        clear hQ
        go_region_with (first | (go_at_call_of 59 (Value.int IntKind.i64 p2); refine (small_calls _ _).mono ?_; rintro e w' ⟨rfl, rfl⟩) | (go_at_call_of 59 (Value.int IntKind.i64 t2); refine (small_calls _ _).mono ?_; rintro e w' ⟨rfl, rfl⟩))
        all_goals exact HQ.out
      have F1 : Fo w (finE (p2, t2, k2)) ((wr.setCell ⟨w.heap.size, 0, none⟩ (.int .i64 (sml p2))).setCell ⟨w.heap.size, 1, none⟩ (.int .i64 (sml t2))).drew := by
        have := do_drew (do_end3 SS.out.v (sml p2) (sml t2))
        exact SS.out.own this.1 this.2
      replace A0 := A0.out
      clear c0 c1 f0 f1
      generalize ((wr.setCell ⟨w.heap.size, 0, none⟩ (.int .i64 (sml p2))).setCell ⟨w.heap.size, 1, none⟩ (.int .i64 (sml t2))).drew = W2 at F1 ⊢
      have d0 : W2.cell? ⟨w.heap.size, 0, none⟩ = some (.int .i64 (sml p2)) := (blk_hold F1.v 0 (by simp [encV])).1
      have d1 : W2.cell? ⟨w.heap.size, 1, none⟩ = some (.int .i64 (sml t2)) := (blk_hold F1.v 1 (by simp [encV])).1
      have d2 : W2.cell? ⟨w.heap.size, 2, none⟩ = some (.int .i64 k2) := (blk_hold F1.v 2 (by simp [encV])).1
      obtain ⟨r0, s0⟩ := blk_hold F1.r 0 (by simp [encV])
      obtain ⟨r1, s1⟩ := blk_hold F1.r 1 (by simp [encV])
      obtain ⟨r2, s2⟩ := blk_hold F1.r 2 (by simp [encV])
      change W2.cell? ⟨w.heap.size + 1, 0, none⟩ = some (.int .i64 0) at r0
      change W2.cell? ⟨w.heap.size + 1, 1, none⟩ = some (.int .i64 0) at r1
      change W2.cell? ⟨w.heap.size + 1, 2, none⟩ = some (.int .i64 0) at r2
      change W2.frozen? ⟨w.heap.size + 1, 0, none⟩ = false at s0
      change W2.frozen? ⟨w.heap.size + 1, 1, none⟩ = false at s1
      change W2.frozen? ⟨w.heap.size + 1, 2, none⟩ = false at s2
      have FF : Aside _ := F1.b
      clear F1
      go_wp2
      refine bodyPost_ret (v := .agg #[.int .i64 (sml p2), .int .i64 (sml t2), .int .i64 k2]) (by simp [results, Try.results37, go_sem, r0, r1, r2]) rfl ?_
      refine ⟨by rw [HV.out]; rfl, ?_⟩
      exact ((FF.out.setCell (p := ⟨w.heap.size + 1, 0, none⟩) (Nat.le_succ _) _).setCell (p := ⟨w.heap.size + 1, 1, none⟩) (Nat.le_succ _) _).setCell (p := ⟨w.heap.size + 1, 2, none⟩) (Nat.le_succ _) _
end Go.Proofs.Yticgadnmlbfmfaa.cachePlays
