/-
  Chapter 14's small functions, walked: small, rows, of, before, which effect has no layer.
-/
import Derived.Test.YtgbhmkdldfhamaaTxC
import Derived.WalkKit
import Derived.Handy
import Derived.Deep.RegionWith
import Derived.Deep.Cut
import Derived.Shelf.SlSortCmp.QuietGrown
import Derived.Laws.EntriesVeiled
namespace Go.Proofs.Ytgbhmkdldfhamaa.charsOf
open Go.Shelf Go.RowKit Go.Lib Go.Sort
/-- Draws and new blocks alone. -/
def Gr (w W : World) : Prop := ∃ n os, W = grow (w.drewN n) os
theorem gr_swk {w W : World} : Gr w W ↔ SWK (fun _ : Unit => ([] : List Value)) 0 w 0 0 #[] W := by
  have e : ∀ n, putRowK (fun _ : Unit => ([] : List Value)) 0 (Sort.ahead w n) 0 0 #[] = w.drewN n := fun n => by
    have h : HoldsK (fun _ : Unit => ([] : List Value)) 0 (w.drewN n) 0 0 #[] := by
      intro i hi
      simp [flatK] at hi
    exact putRowK_self _ 0 (w.drewN n) 0 0 #[] h
  constructor
  · rintro ⟨n, os, rfl⟩
    exact ⟨n, os, by unfold sortWorldK; rw [e]⟩
  · rintro ⟨n, os, rfl⟩
    exact ⟨n, os, by unfold sortWorldK; rw [e]⟩
theorem Gr.refl (w : World) : Gr w w := ⟨0, #[], by simp [grow, World.drewN]⟩
theorem Gr.alloc {w W : World} (h : Gr w W) (o : Obj) : Gr w (W.alloc o) := gr_swk.2 ((gr_swk.1 h).alloc o)
theorem Gr.drewN {w W : World} (h : Gr w W) (q : Nat) : Gr w (W.drewN q) := gr_swk.2 ((gr_swk.1 h).drewN q)
theorem Gr.drew {w W : World} (h : Gr w W) : Gr w W.drew := h.drewN 1
theorem Gr.le {w W : World} (h : Gr w W) : w.heap.size ≤ W.heap.size := (gr_swk.1 h).le
theorem Gr.set {w W : World} (h : Gr w W) (b o : Nat) (v : Value) (hb : w.heap.size ≤ b) : Gr w (W.setCell ⟨b, o, none⟩ v) := gr_swk.2 ((gr_swk.1 h).setCell_new b o v hb)
theorem Gr.sets {w W : World} (b : Nat) (hb : w.heap.size ≤ b) : ∀ (vs : List Value) (o : Nat) {W : World}, Gr w W → Gr w (W.setCells b o vs)
  | [], _, _, h => h
  | v :: vs, o, _, h => Gr.sets (W := W) b hb vs (o + 1) (h.set b o v hb)
theorem Gr.trans {w W X : World} (h : Gr w W) (k : Gr W X) : Gr w X := by
  obtain ⟨n, os, rfl⟩ := k
  have := h.drewN n
  obtain ⟨m, os', e⟩ := this
  refine ⟨m, os' ++ os, ?_⟩
  rw [e, grow_grow]
theorem Gr.cell {w W : World} (h : Gr w W) {a : Addr} (ha : a.block < w.heap.size) : W.cell? a = w.cell? a := by
  obtain ⟨n, os, rfl⟩ := h
  rw [cell?_grow _ _ _ (by exact ha)]
  rfl
theorem Gr.frozen {w W : World} (h : Gr w W) {a : Addr} (ha : a.block < w.heap.size) : W.frozen? a = w.frozen? a := by
  obtain ⟨n, os, rfl⟩ := h
  rw [frozen?_grow _ _ _ (by exact ha)]
  rfl
def sml (n : Int) : Int := min (max n (-999)) 999
theorem small_calls (n : Int) (w : World) : Calls Try.prog 37 #[.int .i64 n] w fun e w' => e = .returned (.int .i64 (sml n)) ∧ w' = w := by
  go_enter Try.func37, Try.ntmps37
  go_wp2
  go_ret
  exact ⟨rfl, rfl⟩
def lyr (op : Int) : Int := if op = 1 ∨ op = 2 then 1 else if op = 3 then 2 else if op = 4 then 3 else 0
def doV (op : Int) : Value := if op = 1 then .func (.func 46) #[] #[] else if op = 2 then .func (.func 47) #[] #[] else if op = 3 then .func (.func 48) #[] #[] else if op = 4 then .func (.func 49) #[] #[] else .nilFunc
theorem rows_calls (w : World) : Calls Try.prog 43 #[] w fun e w' => e = .returned (.agg #[.int .i64 0, .nilFunc, .int .i64 1, .func (.func 46) #[] #[], .int .i64 1, .func (.func 47) #[] #[], .int .i64 2, .func (.func 48) #[] #[], .int .i64 3, .func (.func 49) #[] #[]]) ∧ w' = w.alloc (.cells #[.int .i64 0, .nilFunc, .int .i64 1, .func (.func 46) #[] #[], .int .i64 1, .func (.func 47) #[] #[], .int .i64 2, .func (.func 48) #[] #[], .int .i64 3, .func (.func 49) #[] #[]] 95) := by
  go_enter Try.func43, Try.ntmps43
  go_wp2
  go_returns
  exact ⟨rfl, rfl⟩
theorem mixedT : Try.prog.follows .mixedOrders = true := by kernel_rfl
theorem ix0 (W : World) : Sem.run Try.prog (Instr.index 95 (.agg #[.int .i64 0, .nilFunc, .int .i64 1, .func (.func 46) #[] #[], .int .i64 1, .func (.func 47) #[] #[], .int .i64 2, .func (.func 48) #[] #[], .int .i64 3, .func (.func 49) #[] #[]]) (.int .i64 0)) W = .ok (.agg #[.int .i64 0, .nilFunc]) W := by kernel_rfl
theorem ix1 (W : World) : Sem.run Try.prog (Instr.index 95 (.agg #[.int .i64 0, .nilFunc, .int .i64 1, .func (.func 46) #[] #[], .int .i64 1, .func (.func 47) #[] #[], .int .i64 2, .func (.func 48) #[] #[], .int .i64 3, .func (.func 49) #[] #[]]) (.int .i64 1)) W = .ok (.agg #[.int .i64 1, .func (.func 46) #[] #[]]) W := by kernel_rfl
theorem ix2 (W : World) : Sem.run Try.prog (Instr.index 95 (.agg #[.int .i64 0, .nilFunc, .int .i64 1, .func (.func 46) #[] #[], .int .i64 1, .func (.func 47) #[] #[], .int .i64 2, .func (.func 48) #[] #[], .int .i64 3, .func (.func 49) #[] #[]]) (.int .i64 2)) W = .ok (.agg #[.int .i64 1, .func (.func 47) #[] #[]]) W := by kernel_rfl
theorem ix3 (W : World) : Sem.run Try.prog (Instr.index 95 (.agg #[.int .i64 0, .nilFunc, .int .i64 1, .func (.func 46) #[] #[], .int .i64 1, .func (.func 47) #[] #[], .int .i64 2, .func (.func 48) #[] #[], .int .i64 3, .func (.func 49) #[] #[]]) (.int .i64 3)) W = .ok (.agg #[.int .i64 2, .func (.func 48) #[] #[]]) W := by kernel_rfl
theorem ix4 (W : World) : Sem.run Try.prog (Instr.index 95 (.agg #[.int .i64 0, .nilFunc, .int .i64 1, .func (.func 46) #[] #[], .int .i64 1, .func (.func 47) #[] #[], .int .i64 2, .func (.func 48) #[] #[], .int .i64 3, .func (.func 49) #[] #[]]) (.int .i64 4)) W = .ok (.agg #[.int .i64 3, .func (.func 49) #[] #[]]) W := by kernel_rfl
theorem lyr_out {op : Int} (h : op < 0 ∨ 4 < op) : lyr op = 0 ∧ doV op = .nilFunc := by
  unfold lyr doV
  rw [if_neg (by omega), if_neg (by omega), if_neg (by omega), if_neg (by omega), if_neg (by omega), if_neg (by omega), if_neg (by omega)]
  exact ⟨rfl, rfl⟩
set_option maxHeartbeats 4000000 in
set_option maxRecDepth 100000 in
theorem of_calls (op a b s : Int) (w : World) : Calls Try.prog 29 #[.agg #[.int .i64 op, .int .i64 a, .int .i64 b, .int .i64 s]] w fun e w' => e = .returned (.agg #[.int .i64 (lyr op), doV op]) ∧ Gr w w' := by
  have mixed := mixedT
  by_cases h0 : op < 0
  · obtain ⟨e1, e2⟩ := lyr_out (.inl h0)
    rw [e1, e2]
    go_enter Try.func29, Try.ntmps29
    go_wp2
    go_returns
    exact ⟨rfl, (Gr.refl _).alloc _ |>.alloc _⟩
  · by_cases h4 : 4 < op
    · obtain ⟨e1, e2⟩ := lyr_out (.inr h4)
      rw [e1, e2]
      go_enter Try.func29, Try.ntmps29
      go_wp2
      go_returns
      exact ⟨rfl, (Gr.refl _).alloc _ |>.alloc _⟩
    · have ix0 := ix0
      have ix1 := ix1
      have ix2 := ix2
      have ix3 := ix3
      have ix4 := ix4
      obtain rfl | rfl | rfl | rfl | rfl : op = 0 ∨ op = 1 ∨ op = 2 ∨ op = 3 ∨ op = 4 := by omega
      all_goals
        clear h0 h4
        go_enter Try.func29, Try.ntmps29
        go_wp2
        go_region_with (go_at_call 43; refine (rows_calls _).mono ?_; rintro e w' ⟨rfl, rfl⟩)
      all_goals
        go_wp2
        go_returns
        exact ⟨rfl, by repeat' (first | exact Gr.refl _ | refine Gr.alloc ?_ _ | refine Gr.drew ?_)⟩
theorem lyr_in (op : Int) : 0 ≤ lyr op ∧ lyr op ≤ 3 := by
  unfold lyr
  repeat' split
  all_goals omega
/-- An effect: operation, two numbers, stamp. -/
abbrev Ef := Int × Int × Int × Int
def encE (x : Ef) : List Value := [.int .i64 x.1, .int .i64 x.2.1, .int .i64 x.2.2.1, .int .i64 x.2.2.2]
def cmpE (x y : Ef) : Int := if lyr x.1 = lyr y.1 then (if x.2.2.2 < y.2.2.2 then -1 else if y.2.2.2 < x.2.2.2 then 1 else 0) else lyr x.1 - lyr y.1
theorem fld0 (l : Int) (d : Value) (W : World) : Sem.run Try.prog (Instr.field 81 (.agg #[.int .i64 l, d]) 0) W = .ok (.int .i64 l) W := by kernel_rfl
set_option maxHeartbeats 4000000 in
set_option maxRecDepth 100000 in
theorem before_calls (rv : Value) (x y : Ef) (w : World) : Calls Try.prog 31 #[rv, .agg (encE x).toArray, .agg (encE y).toArray] w fun e w' => e = .returned (.int .i64 (cmpE x y)) ∧ Gr w w' := by
  have mixed := mixedT
  obtain ⟨o1, a1, b1, s1⟩ := x
  obtain ⟨o2, a2, b2, s2⟩ := y
  show Calls Try.prog 31 #[rv, .agg #[.int .i64 o1, .int .i64 a1, .int .i64 b1, .int .i64 s1], .agg #[.int .i64 o2, .int .i64 a2, .int .i64 b2, .int .i64 s2]] w _
  have h1 := fun W => of_calls o1 a1 b1 s1 W
  have h2 := fun W => of_calls o2 a2 b2 s2 W
  have k1 := lyr_in o1
  have k2 := lyr_in o2
  unfold cmpE
  simp only []
  generalize lyr o1 = l1 at h1 k1 ⊢
  generalize lyr o2 = l2 at h2 k2 ⊢
  generalize doV o1 = d1 at h1
  generalize doV o2 = d2 at h2
  generalize hr : (if l1 = l2 then (if s1 < s2 then (-1 : Int) else if s2 < s1 then 1 else 0) else l1 - l2) = r
  have HR : Hid _ := hr
  clear hr
  have rw1 : IntKind.i64.wrap (l1 - l2) = l1 - l2 := by rw [IntKind.wrap_i64]; omega
  have f1 := fun W => fld0 l1 d1 W
  have f2 := fun W => fld0 l2 d2 W
  have H1 : Aside _ := h1
  have H2 : Aside _ := h2
  clear h1 h2
  have hW : Gr w ((w.alloc (.cells #[.int .i64 o1, .int .i64 a1, .int .i64 b1, .int .i64 s1] 58)).alloc (.cells #[.int .i64 o2, .int .i64 a2, .int .i64 b2, .int .i64 s2] 58)) := (Gr.refl _).alloc _ |>.alloc _
  have cs : ∀ (W : World), W = ((w.alloc (.cells #[.int .i64 o1, .int .i64 a1, .int .i64 b1, .int .i64 s1] 58)).alloc (.cells #[.int .i64 o2, .int .i64 a2, .int .i64 b2, .int .i64 s2] 58)) → W.heap.size = w.heap.size + 2 ∧ (W.cell? ⟨w.heap.size, 0, none⟩ = some (.int .i64 o1) ∧ W.cell? ⟨w.heap.size, 1, none⟩ = some (.int .i64 a1) ∧ W.cell? ⟨w.heap.size, 2, none⟩ = some (.int .i64 b1) ∧ W.cell? ⟨w.heap.size, 3, none⟩ = some (.int .i64 s1)) ∧
      (W.cell? ⟨w.heap.size + 1, 0, none⟩ = some (.int .i64 o2) ∧ W.cell? ⟨w.heap.size + 1, 1, none⟩ = some (.int .i64 a2) ∧ W.cell? ⟨w.heap.size + 1, 2, none⟩ = some (.int .i64 b2) ∧ W.cell? ⟨w.heap.size + 1, 3, none⟩ = some (.int .i64 s2)) := by
    rintro W rfl
    refine ⟨by simp, ⟨?_, ?_, ?_, ?_⟩, ?_, ?_, ?_, ?_⟩ <;> simp
  have CS := cs _ rfl
  clear cs
  go_enter Try.func31, Try.ntmps31
  go_wp2_with fail
  generalize hW1 : (w.alloc (.cells #[.int .i64 o1, .int .i64 a1, .int .i64 b1, .int .i64 s1] 58)).alloc (.cells #[.int .i64 o2, .int .i64 a2, .int .i64 b2, .int .i64 s2] 58) = W1 at hW CS ⊢
  clear hW1
  obtain ⟨hs, ⟨c0, c1, c2, c3⟩, c4, c5, c6, c7⟩ := CS
  have q0 := cell_grown (by show w.heap.size < _; omega) c0
  have q1 := cell_grown (by show w.heap.size < _; omega) c1
  have q2 := cell_grown (by show w.heap.size < _; omega) c2
  have q3 := cell_grown (by show w.heap.size < _; omega) c3
  have q4 := cell_grown (by show w.heap.size + 1 < _; omega) c4
  have q5 := cell_grown (by show w.heap.size + 1 < _; omega) c5
  have q6 := cell_grown (by show w.heap.size + 1 < _; omega) c6
  have q7 := cell_grown (by show w.heap.size + 1 < _; omega) c7
  clear c0 c1 c2 c3 c4 c5 c6 c7 hs
  have HW : Aside _ := hW
  clear hW
  go_quiet_grown (first | (go_at_call_of 29 (Value.int IntKind.i64 s1); refine Calls.grown_of (H1.out _)) | (go_at_call_of 29 (Value.int IntKind.i64 s2); refine Calls.grown_of (H2.out _)))
  have hG : Gr w (grow (W1.drewN nq) osq) := Gr.trans HW.out ⟨nq, osq, rfl⟩
  have e3 := q3 nq osq
  have e7 := q7 nq osq
  clear q0 q1 q2 q3 q4 q5 q6 q7 HW
  generalize grow (W1.drewN nq) osq = W2 at hG e3 e7 ⊢
  have HG : Aside _ := hG
  clear hG H1 H2 nq osq
  by_cases hl : l1 = l2
  · subst hl
    have t0 : (l1 - l1 != 0) = false := by simp
    by_cases h1 : s1 < s2
    · have er : r = -1 := by rw [← HR.out, if_pos rfl, if_pos h1]
      subst er
      clear HR
      go_wp2
      go_returns
      exact ⟨rfl, HG.out⟩
    · by_cases h2 : s2 < s1
      · have er : r = 1 := by rw [← HR.out, if_pos rfl, if_neg h1, if_pos h2]
        subst er
        clear HR
        go_wp2
        go_returns
        exact ⟨rfl, HG.out⟩
      · have er : r = 0 := by rw [← HR.out, if_pos rfl, if_neg h1, if_neg h2]
        subst er
        clear HR
        go_wp2
        go_returns
        exact ⟨rfl, HG.out⟩
  · have er : r = l1 - l2 := by rw [← HR.out, if_neg hl]
    subst er
    clear HR
    have t0 : (l1 - l2 != 0) = true := by simp; omega
    go_wp2
    go_returns
    exact ⟨rfl, HG.out⟩
/-- The order of effects. -/
theorem cmpE_swo : SWO (ltOf cmpE) := by
  have e : ∀ x y, ltOf cmpE x y = true ↔ (lyr x.1 < lyr y.1 ∨ lyr x.1 = lyr y.1 ∧ x.2.2.2 < y.2.2.2) := fun x y => by
    unfold ltOf cmpE
    rw [decide_eq_true_iff]
    split
    · split
      · omega
      · split <;> omega
    · omega
  have n : ∀ x y, ltOf cmpE x y = false ↔ ¬ (lyr x.1 < lyr y.1 ∨ lyr x.1 = lyr y.1 ∧ x.2.2.2 < y.2.2.2) := fun x y => by
    rw [← e, Bool.not_eq_true]
  refine ⟨fun x => (n x x).2 (by omega), fun x y z h k => (e x z).2 ?_, fun x y z h k => (n x z).2 ?_⟩
  · have h := (e x y).1 h
    have k := (e y z).1 k
    omega
  · have h := (n x y).1 h
    have k := (n y z).1 k
    omega
theorem encE_len (x : Ef) : (encE x).length = 4 := rfl
theorem encE_one (x : Ef) : ∀ v ∈ encE x, v.oneCell' = true := by
  intro v hv
  simp only [encE, List.mem_cons, List.not_mem_nil, or_false] at hv
  rcases hv with rfl | rfl | rfl | rfl <;> rfl
theorem befores (rv : Value) (blk off size : Nat) (w : World) : CmpL Try.prog 31 rv encE 4 cmpE blk off size w := fun _ _ _ _ x y => before_calls rv x y _
set_option maxHeartbeats 4000000 in
/-- SortStableFunc. -/
theorem sorts_calls (rv : Value) (blk off cap : Nat) (d : Array Ef) (w : World) (hH : HoldsK encE 4 w blk off d) (hblk : blk < w.heap.size) (hsz : d.size < 2305843009213693952) :
    Calls Try.prog 30 #[.slice (some ⟨blk, off, none⟩) d.size cap, .func (.func 31) #[rv] #[]] w fun e w' => e = .returned (.tuple #[]) ∧ ∃ d', StbIn (ltOf cmpE) 0 d.size d d' ∧ SortedIn (ltOf cmpE) 0 d.size d' ∧ SWK encE 4 w blk off d' w' := by
  have hc := stable_calls lay encE cmpE 31 rv blk off cap d d w w (enters_of Try.func31 (by kernel_rfl) rfl) (befores rv blk off d.size w) ⟨encE_len, encE_one, hH, hblk⟩ cmpE_swo rfl (.start hH) hsz
  clear hH
  go_enter Try.func30, Try.ntmps30
  go_wp2_with (go_at_call 44; refine hc.mono ?_; rintro e w1 ⟨rfl, h⟩)
  go_end0
  exact ⟨rfl, h⟩
theorem sorts_none (rv : Value) (p : Option Addr) (cap : Nat) (w : World) :
    Calls Try.prog 30 #[.slice p 0 cap, .func (.func 31) #[rv] #[]] w fun e w' => e = .returned (.tuple #[]) ∧ w' = w := by
  have hc := stable_none lay p cap (.func (.func 31) #[rv] #[]) w
  go_enter Try.func30, Try.ntmps30
  go_wp2_with (go_at_call 44; refine hc.mono ?_; rintro e w1 ⟨rfl, rfl⟩)
  go_end0
  exact ⟨rfl, rfl⟩
end Go.Proofs.Ytgbhmkdldfhamaa.charsOf
/-
  Effects without a layer are struck: Effects$2, IndexFunc, DeleteFunc.
-/
namespace Go.Proofs.Ytgbhmkdldfhamaa.charsOf
open Go.Shelf Go.RowKit Go.Lib Go.Sort
set_option maxHeartbeats 4000000 in
set_option maxRecDepth 100000 in
theorem nol_calls (x : Ef) (w : World) : Calls Try.prog 28 #[.agg #[.int .i64 x.1, .int .i64 x.2.1, .int .i64 x.2.2.1, .int .i64 x.2.2.2]] w fun e w' => e = .returned (.bool (decide (lyr x.1 = 0))) ∧ Gr w w' := by
  obtain ⟨o1, a1, b1, s1⟩ := x
  simp only []
  have h1 := fun W => of_calls o1 a1 b1 s1 W
  generalize lyr o1 = l1 at h1 ⊢
  generalize doV o1 = d1 at h1
  have f1 := fun W => fld0 l1 d1 W
  have H1 : Aside _ := h1
  clear h1
  go_enter Try.func28, Try.ntmps28
  go_wp2_with (go_at_call 29; refine (H1.out _).mono ?_; rintro e w' ⟨rfl, hG⟩)
  go_returns
  exact ⟨by first | rfl | simp, Gr.trans ((Gr.refl _).alloc _) hG⟩
theorem cells4 {w : World} {blk off : Nat} {d : Array Ef} (h : HoldsK encE 4 w blk off d) {i : Nat} (hi : i < d.size) :
    w.cell? ⟨blk, off + i * 4, none⟩ = some (.int .i64 d[i]!.1) ∧ w.cell? ⟨blk, off + i * 4 + 1, none⟩ = some (.int .i64 d[i]!.2.1) ∧ w.cell? ⟨blk, off + i * 4 + 2, none⟩ = some (.int .i64 d[i]!.2.2.1) ∧ w.cell? ⟨blk, off + i * 4 + 3, none⟩ = some (.int .i64 d[i]!.2.2.2) := by
  have e : ∀ j, j < 4 → w.cell? ⟨blk, off + (i * 4 + j), none⟩ = some (encE d[i]!)[j]! := fun j hj => by
    have := (h (i * 4 + j) (by rw [size_flatK]; omega)).1
    rw [get_flatK _ _ _ _ (by omega), show (i * 4 + j) / 4 = i by omega, show (i * 4 + j) % 4 = j by omega] at this
    exact this
  exact ⟨e 0 (by omega), e 1 (by omega), e 2 (by omega), e 3 (by omega)⟩
set_option maxHeartbeats 4000000 in
set_option maxRecDepth 100000 in
theorem idx_calls (blk off cap : Nat) (d : Array Ef) (w : World) (hH : HoldsK encE 4 w blk off d) (hblk : blk < w.heap.size) (hsz : d.size < 2305843009213693952) :
    Calls Try.prog 42 #[.slice (some ⟨blk, off, none⟩) d.size cap, .func (.func 28) #[] #[]] w fun e w' => SWK encE 4 w blk off d w' ∧ ((e = .returned (.int .i64 (-1)) ∧ ∀ j, j < d.size → lyr d[j]!.1 ≠ 0) ∨ ∃ k : Nat, e = .returned (.int .i64 k) ∧ k < d.size ∧ lyr d[k]!.1 = 0 ∧ ∀ j, j < k → lyr d[j]!.1 ≠ 0) := by
  have S0 : Aside (SWK encE 4 w blk off d w) := .start hH
  have HH : Aside _ := hH
  clear hH
  go_enter Try.func42, Try.ntmps42
  go_wp2
  go_loopg [8] d.size (fun kx s8 wr => ∃ i : Nat, s8 = .int .i64 i ∧ i ≤ d.size ∧ d.size - i ≤ kx ∧ Aside (SWK encE 4 w blk off d wr) ∧ Hid (∀ j, j < i → lyr d[j]!.1 ≠ 0))
  case atStart => exact ⟨0, rfl, Nat.zero_le _, Nat.le_refl _, S0, fun j hj => by omega⟩
  case round =>
    clear S0
    obtain ⟨i, rfl, hid, hkx, S1, HE⟩ := hrel
    by_cases hlt : i < d.size
    · have hltz : (i : Int) < (d.size : Int) := by omega
      obtain ⟨c0, c1, c2, c3⟩ := cells4 (S1.out.holds hblk HH.out rfl) hlt
      have hn := nol_calls d[i]! wr
      obtain ⟨bb, hb⟩ : ∃ bb, decide (lyr d[i]!.1 = 0) = bb := ⟨_, rfl⟩
      rw [hb] at hn
      have HL : Hid (decide (lyr d[i]!.1 = 0) = bb) := hb
      clear hb
      generalize d[i]!.1 = x0 at c0 hn
      generalize d[i]!.2.1 = x1 at c1 hn
      generalize d[i]!.2.2.1 = x2 at c2 hn
      generalize d[i]!.2.2.2 = x3 at c3 hn
      have wi : IntKind.i64.wrap ((i : Int) + 1) = (i : Int) + 1 := by rw [IntKind.wrap_i64]; omega
      cases bb with
      | true =>
        go_wp2_with (go_at_call 28; refine hn.mono ?_; rintro e w1 ⟨rfl, hG⟩)
        go_returns
        obtain ⟨q, os, rfl⟩ := hG
        exact ⟨S1.out.grown q os, .inr ⟨i, rfl, hlt, of_decide_eq_true HL.out, HE.out⟩⟩
      | false =>
        go_wp2_with (go_at_call 28; refine hn.mono ?_; rintro e w1 ⟨rfl, hG⟩)
        have S2 : Aside (SWK encE 4 w blk off d w1) := by
          obtain ⟨q, os, rfl⟩ := hG
          exact S1.out.grown q os
        go_roundg (d.size - (i + 1))
        case measure => omega
        case rel =>
          refine ⟨i + 1, by first | rfl | go_num, by omega, Nat.le_refl _, S2, fun j hj => ?_⟩
          rcases Nat.lt_or_ge j i with h | h
          · exact HE.out j h
          · rw [show j = i by omega]
            exact of_decide_eq_false HL.out
    · have hltz : ¬ (i : Int) < (d.size : Int) := by omega
      go_wp2
      go_returns
      exact ⟨S1.out, .inl ⟨rfl, fun j hj => HE.out j (by omega)⟩⟩
end Go.Proofs.Ytgbhmkdldfhamaa.charsOf
