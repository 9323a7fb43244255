/-
  Chapter 14's small functions, walked: small, rows, of, before, which effect has no layer.
(r25)
-/
import Derived.WalkKit
import Derived.Handy
import Derived.Deep.RegionWith
import Derived.Deep.Cut
import Derived.Shelf.SlSortCmp.QuietGrown
import Derived.Laws.EntriesVeiled
import Derived.Lib.SliceRun
import Derived.Test.YticgadnmlbfmfaaTxO
namespace Go.Proofs.Yticgadnmlbfmfaa.cachePlays
open Go.Shelf Go.RowKit Go.Lib Go.Sort
def cmpE (x y : Ef) : Int := if lyr x.1 = lyr y.1 then (if x.2.2.2 < y.2.2.2 then -1 else if y.2.2.2 < x.2.2.2 then 1 else 0) else lyr x.1 - lyr y.1
theorem fld0 (l : Int) (d : Value) (W : World) : Sem.run Try.prog (Instr.field 123 (.agg #[.int .i64 l, d]) 0) W = .ok (.int .i64 l) W := by kernel_rfl
set_option maxHeartbeats 4000000 in
set_option maxRecDepth 100000 in
theorem before_calls (rv : Value) (x y : Ef) (w : World) : Calls Try.prog 69 #[rv, .agg (encE x).toArray, .agg (encE y).toArray] w fun e w' => e = .returned (.int .i64 (cmpE x y)) ∧ Gr w w' := by
  have mixed := mixedT
  obtain ⟨o1, a1, b1, s1⟩ := x
  obtain ⟨o2, a2, b2, s2⟩ := y
  show Calls Try.prog 69 #[rv, .agg #[.int .i64 o1, .int .i64 a1, .int .i64 b1, .int .i64 s1], .agg #[.int .i64 o2, .int .i64 a2, .int .i64 b2, .int .i64 s2]] w _
  have h1 := fun W => of_calls o1 a1 b1 s1 W
  have h2 := fun W => of_calls o2 a2 b2 s2 W
  have k1 := lyr_in o1
  have k2 := lyr_in o2
  unfold cmpE
  simp only []
  generalize lyr o1 = l1 at h1 k1 ⊢
  generalize lyr o2 = l2 at h2 k2 ⊢
  generalize doV o1 = d1 at h1
  generalize doV o2 = d2 at h2
  generalize hr : (if l1 = l2 then (if s1 < s2 then (-1 : Int) else if s2 < s1 then 1 else 0) else l1 - l2) = r
  have HR : Hid _ := hr
  clear hr
  have rw1 : IntKind.i64.wrap (l1 - l2) = l1 - l2 := by rw [IntKind.wrap_i64]; omega
  have f1 := fun W => fld0 l1 d1 W
  have f2 := fun W => fld0 l2 d2 W
  have H1 : Aside _ := h1
  have H2 : Aside _ := h2
  clear h1 h2
  have hW : Gr w ((w.alloc (.cells #[.int .i64 o1, .int .i64 a1, .int .i64 b1, .int .i64 s1] 49)).alloc (.cells #[.int .i64 o2, .int .i64 a2, .int .i64 b2, .int .i64 s2] 49)) := (Gr.refl _).alloc _ |>.alloc _
  have cs : ∀ (W : World), W = ((w.alloc (.cells #[.int .i64 o1, .int .i64 a1, .int .i64 b1, .int .i64 s1] 49)).alloc (.cells #[.int .i64 o2, .int .i64 a2, .int .i64 b2, .int .i64 s2] 49)) → W.heap.size = w.heap.size + 2 ∧ (W.cell? ⟨w.heap.size, 0, none⟩ = some (.int .i64 o1) ∧ W.cell? ⟨w.heap.size, 1, none⟩ = some (.int .i64 a1) ∧ W.cell? ⟨w.heap.size, 2, none⟩ = some (.int .i64 b1) ∧ W.cell? ⟨w.heap.size, 3, none⟩ = some (.int .i64 s1)) ∧
      (W.cell? ⟨w.heap.size + 1, 0, none⟩ = some (.int .i64 o2) ∧ W.cell? ⟨w.heap.size + 1, 1, none⟩ = some (.int .i64 a2) ∧ W.cell? ⟨w.heap.size + 1, 2, none⟩ = some (.int .i64 b2) ∧ W.cell? ⟨w.heap.size + 1, 3, none⟩ = some (.int .i64 s2)) := by
    rintro W rfl
    refine ⟨by simp, ⟨?_, ?_, ?_, ?_⟩, ?_, ?_, ?_, ?_⟩ <;> simp
  have CS := cs _ rfl
  clear cs
  go_enter Try.func69, Try.ntmps69
  go_wp2_with fail
  generalize hW1 : (w.alloc (.cells #[.int .i64 o1, .int .i64 a1, .int .i64 b1, .int .i64 s1] 49)).alloc (.cells #[.int .i64 o2, .int .i64 a2, .int .i64 b2, .int .i64 s2] 49) = W1 at hW CS ⊢
  clear hW1
  obtain ⟨hs, ⟨c0, c1, c2, c3⟩, c4, c5, c6, c7⟩ := CS
  have q0 := cell_grown (by show w.heap.size < _; omega) c0
  have q1 := cell_grown (by show w.heap.size < _; omega) c1
  have q2 := cell_grown (by show w.heap.size < _; omega) c2
  have q3 := cell_grown (by show w.heap.size < _; omega) c3
  have q4 := cell_grown (by show w.heap.size + 1 < _; omega) c4
  have q5 := cell_grown (by show w.heap.size + 1 < _; omega) c5
  have q6 := cell_grown (by show w.heap.size + 1 < _; omega) c6
  have q7 := cell_grown (by show w.heap.size + 1 < _; omega) c7
  clear c0 c1 c2 c3 c4 c5 c6 c7 hs
  have HW : Aside _ := hW
  clear hW
  go_quiet_grown (first | (go_at_call_of 60 (Value.int IntKind.i64 s1); refine Calls.grown_of (H1.out _)) | (go_at_call_of 60 (Value.int IntKind.i64 s2); refine Calls.grown_of (H2.out _)))
  have hG : Gr w (grow (W1.drewN nq) osq) := Gr.trans HW.out ⟨nq, osq, rfl⟩
  have e3 := q3 nq osq
  have e7 := q7 nq osq
  clear q0 q1 q2 q3 q4 q5 q6 q7 HW
  generalize grow (W1.drewN nq) osq = W2 at hG e3 e7 ⊢
  have HG : Aside _ := hG
  clear hG H1 H2 nq osq
  by_cases hl : l1 = l2
  · subst hl
    have t0 : (l1 - l1 != 0) = false := by simp
    by_cases h1 : s1 < s2
    · have er : r = -1 := by rw [← HR.out, if_pos rfl, if_pos h1]
      subst er
      clear HR
      go_wp2
      go_returns
      exact ⟨rfl, HG.out⟩
    · by_cases h2 : s2 < s1
      · have er : r = 1 := by rw [← HR.out, if_pos rfl, if_neg h1, if_pos h2]
        subst er
        clear HR
        go_wp2
        go_returns
        exact ⟨rfl, HG.out⟩
      · have er : r = 0 := by rw [← HR.out, if_pos rfl, if_neg h1, if_neg h2]
        subst er
        clear HR
        go_wp2
        go_returns
        exact ⟨rfl, HG.out⟩
  · have er : r = l1 - l2 := by rw [← HR.out, if_neg hl]
    subst er
    clear HR
    have t0 : (l1 - l2 != 0) = true := by simp; omega
    go_wp2
    go_returns
    exact ⟨rfl, HG.out⟩
/-- The order of effects. -/
theorem cmpE_swo : SWO (ltOf cmpE) := by
  have e : ∀ x y, ltOf cmpE x y = true ↔ (lyr x.1 < lyr y.1 ∨ lyr x.1 = lyr y.1 ∧ x.2.2.2 < y.2.2.2) := fun x y => by
    unfold ltOf cmpE
    rw [decide_eq_true_iff]
    split
    · split
      · omega
      · split <;> omega
    · omega
  have n : ∀ x y, ltOf cmpE x y = false ↔ ¬ (lyr x.1 < lyr y.1 ∨ lyr x.1 = lyr y.1 ∧ x.2.2.2 < y.2.2.2) := fun x y => by
    rw [← e, Bool.not_eq_true]
  refine ⟨fun x => (n x x).2 (by omega), fun x y z h k => (e x z).2 ?_, fun x y z h k => (n x z).2 ?_⟩
  · have h := (e x y).1 h
    have k := (e y z).1 k
    omega
  · have h := (n x y).1 h
    have k := (n y z).1 k
    omega
theorem eBefores (rv : Value) (blk off size : Nat) (w : World) : CmpL Try.prog 69 #[rv] encE 4 cmpE blk off size w := fun _ _ _ _ x y => before_calls rv x y _
set_option maxHeartbeats 4000000 in
/-- SortStableFunc. -/
theorem eSorts_calls (rv : Value) (blk off cap : Nat) (d : Array Ef) (w : World) (hH : HoldsK encE 4 w blk off d) (hblk : blk < w.heap.size) (hsz : d.size < 2305843009213693952) :
    Calls Try.prog 68 #[.slice (some ⟨blk, off, none⟩) d.size cap, .func (.func 69) #[rv] #[]] w fun e w' => e = .returned (.tuple #[]) ∧ ∃ d', StbIn (ltOf cmpE) 0 d.size d d' ∧ SortedIn (ltOf cmpE) 0 d.size d' ∧ SWK encE 4 w blk off d' w' := by
  have hc := stable_calls lay encE cmpE 69 #[rv] blk off cap d d w w (enters_of Try.func69 (by kernel_rfl) rfl) (eBefores rv blk off d.size w) ⟨encE_len, encE_one, hH, hblk⟩ cmpE_swo rfl (.start hH) hsz
  clear hH
  go_enter Try.func68, Try.ntmps68
  go_wp2_with (go_at_call 57; refine hc.mono ?_; rintro e w1 ⟨rfl, h⟩)
  go_end0
  exact ⟨rfl, h⟩
theorem eSorts_none (rv : Value) (p : Option Addr) (cap : Nat) (w : World) :
    Calls Try.prog 68 #[.slice p 0 cap, .func (.func 69) #[rv] #[]] w fun e w' => e = .returned (.tuple #[]) ∧ w' = w := by
  have hc := stable_none lay p cap (.func (.func 69) #[rv] #[]) w
  go_enter Try.func68, Try.ntmps68
  go_wp2_with (go_at_call 57; refine hc.mono ?_; rintro e w1 ⟨rfl, rfl⟩)
  go_end0
  exact ⟨rfl, rfl⟩
end Go.Proofs.Yticgadnmlbfmfaa.cachePlays
/-
  Effects without a layer are struck: Effects$2, IndexFunc, DeleteFunc.
(r25)
-/
namespace Go.Proofs.Yticgadnmlbfmfaa.cachePlays
open Go.Shelf Go.RowKit Go.Lib Go.Sort
set_option maxHeartbeats 4000000 in
set_option maxRecDepth 100000 in
theorem nol_calls (x : Ef) (w : World) : Calls Try.prog 67 #[.agg #[.int .i64 x.1, .int .i64 x.2.1, .int .i64 x.2.2.1, .int .i64 x.2.2.2]] w fun e w' => e = .returned (.bool (decide (lyr x.1 = 0))) ∧ Gr w w' := by
  obtain ⟨o1, a1, b1, s1⟩ := x
  simp only []
  have h1 := fun W => of_calls o1 a1 b1 s1 W
  generalize lyr o1 = l1 at h1 ⊢
  generalize doV o1 = d1 at h1
  have f1 := fun W => fld0 l1 d1 W
  have H1 : Aside _ := h1
  clear h1
  go_enter Try.func67, Try.ntmps67
  go_wp2_with (go_at_call 60; refine (H1.out _).mono ?_; rintro e w' ⟨rfl, hG⟩)
  go_returns
  exact ⟨by first | rfl | simp, Gr.trans ((Gr.refl _).alloc _) hG⟩
theorem cells4 {w : World} {blk off : Nat} {d : Array Ef} (h : HoldsK encE 4 w blk off d) {i : Nat} (hi : i < d.size) :
    w.cell? ⟨blk, off + i * 4, none⟩ = some (.int .i64 d[i]!.1) ∧ w.cell? ⟨blk, off + i * 4 + 1, none⟩ = some (.int .i64 d[i]!.2.1) ∧ w.cell? ⟨blk, off + i * 4 + 2, none⟩ = some (.int .i64 d[i]!.2.2.1) ∧ w.cell? ⟨blk, off + i * 4 + 3, none⟩ = some (.int .i64 d[i]!.2.2.2) := by
  have e : ∀ j, j < 4 → w.cell? ⟨blk, off + (i * 4 + j), none⟩ = some (encE d[i]!)[j]! := fun j hj => by
    have := (h (i * 4 + j) (by rw [size_flatK]; omega)).1
    rw [get_flatK _ _ _ _ (by omega), show (i * 4 + j) / 4 = i by omega, show (i * 4 + j) % 4 = j by omega] at this
    exact this
  exact ⟨e 0 (by omega), e 1 (by omega), e 2 (by omega), e 3 (by omega)⟩
set_option maxHeartbeats 4000000 in
set_option maxRecDepth 100000 in
theorem idx_calls (blk off cap : Nat) (d : Array Ef) (w : World) (hH : HoldsK encE 4 w blk off d) (hblk : blk < w.heap.size) (hsz : d.size < 2305843009213693952) :
    Calls Try.prog 81 #[.slice (some ⟨blk, off, none⟩) d.size cap, .func (.func 67) #[] #[]] w fun e w' => SWK encE 4 w blk off d w' ∧ ((e = .returned (.int .i64 (-1)) ∧ ∀ j, j < d.size → lyr d[j]!.1 ≠ 0) ∨ ∃ k : Nat, e = .returned (.int .i64 k) ∧ k < d.size ∧ lyr d[k]!.1 = 0 ∧ ∀ j, j < k → lyr d[j]!.1 ≠ 0) := by
  have S0 : Aside (SWK encE 4 w blk off d w) := .start hH
  have HH : Aside _ := hH
  clear hH
  go_enter Try.func81, Try.ntmps81
  go_wp2
  go_loopg [8] d.size (fun kx s8 wr => ∃ i : Nat, s8 = .int .i64 i ∧ i ≤ d.size ∧ d.size - i ≤ kx ∧ Aside (SWK encE 4 w blk off d wr) ∧ Hid (∀ j, j < i → lyr d[j]!.1 ≠ 0))
  case atStart => exact ⟨0, rfl, Nat.zero_le _, Nat.le_refl _, S0, fun j hj => by omega⟩
  case round =>
    clear S0
    obtain ⟨i, rfl, hid, hkx, S1, HE⟩ := hrel
    by_cases hlt : i < d.size
    · have hltz : (i : Int) < (d.size : Int) := by omega
      obtain ⟨c0, c1, c2, c3⟩ := cells4 (S1.out.holds hblk HH.out rfl) hlt
      have hn := nol_calls d[i]! wr
      obtain ⟨bb, hb⟩ : ∃ bb, decide (lyr d[i]!.1 = 0) = bb := ⟨_, rfl⟩
      rw [hb] at hn
      have HL : Hid (decide (lyr d[i]!.1 = 0) = bb) := hb
      clear hb
      generalize d[i]!.1 = x0 at c0 hn
      generalize d[i]!.2.1 = x1 at c1 hn
      generalize d[i]!.2.2.1 = x2 at c2 hn
      generalize d[i]!.2.2.2 = x3 at c3 hn
      have wi : IntKind.i64.wrap ((i : Int) + 1) = (i : Int) + 1 := by rw [IntKind.wrap_i64]; omega
      cases bb with
      | true =>
        go_wp2_with (go_at_call 67; refine hn.mono ?_; rintro e w1 ⟨rfl, hG⟩)
        go_returns
        obtain ⟨q, os, rfl⟩ := hG
        exact ⟨S1.out.grown q os, .inr ⟨i, rfl, hlt, of_decide_eq_true HL.out, HE.out⟩⟩
      | false =>
        go_wp2_with (go_at_call 67; refine hn.mono ?_; rintro e w1 ⟨rfl, hG⟩)
        have S2 : Aside (SWK encE 4 w blk off d w1) := by
          obtain ⟨q, os, rfl⟩ := hG
          exact S1.out.grown q os
        go_roundg (d.size - (i + 1))
        case measure => omega
        case rel =>
          refine ⟨i + 1, by first | rfl | go_num, by omega, Nat.le_refl _, S2, fun j hj => ?_⟩
          rcases Nat.lt_or_ge j i with h | h
          · exact HE.out j h
          · rw [show j = i by omega]
            exact of_decide_eq_false HL.out
    · have hltz : ¬ (i : Int) < (d.size : Int) := by omega
      go_wp2
      go_returns
      exact ⟨S1.out, .inl ⟨rfl, fun j hj => HE.out j (by omega)⟩⟩
end Go.Proofs.Yticgadnmlbfmfaa.cachePlays
/-
  DeleteFunc, walked.
(r25)
-/
namespace Go.Proofs.Yticgadnmlbfmfaa.cachePlays
open Go.Shelf Go.RowKit Go.Lib Go.Sort
theorem setMany_set {dk : Array Ef} {i : Nat} (v : Ef) (hi : i < dk.size) : setMany (flatK encE 4 dk) (i * 4) (encE v) = flatK encE 4 (dk.setIfInBounds i v) := by
  refine ext_get! (by simp) fun t ht => ?_
  have ht' : t < dk.size * 4 := by simpa using ht
  rw [get_setMany _ _ _ t (by simpa using ht'), get_flatK _ _ _ t ht', get_flatK _ _ _ t (by simpa using ht'), encE_len]
  by_cases a : t / 4 = i
  · rw [if_pos (by omega), show t - i * 4 = t % 4 by omega]
    simp [a, hi]
  · rw [if_neg (by omega)]
    have h4 : t / 4 < dk.size := by omega
    simp [h4, Ne.symm a]
theorem swk_set {w W : World} {blk off : Nat} {dk : Array Ef} (h : SWK encE 4 w blk off dk W) (hblk : blk < w.heap.size) {i : Nat} (v : Ef) (hi : i < dk.size) : SWK encE 4 w blk off (dk.setIfInBounds i v) (W.setCells blk (off + i * 4) (encE v)) := by
  obtain ⟨n, os, rfl⟩ := h
  refine ⟨n, os, ?_⟩
  unfold sortWorldK putRowK
  rw [setCells_grow os blk _ _ _ (by unfold putRow mapBlock; simpa using hblk), setCells_putRow _ _ _ _ _ _ (by rw [encE_len, size_flatK]; omega), setMany_set v hi]
theorem swk_below {w W : World} {blk off : Nat} {dk : Array Ef} (h : SWK encE 4 w blk off dk W) (hblk : blk < w.heap.size) : Below blk w W := by
  obtain ⟨n, os, rfl⟩ := h
  unfold sortWorldK putRowK putRow mapBlock grow Sort.ahead
  refine ⟨rfl, rfl, rfl, by simp, fun k hk => ?_⟩
  simp only
  rw [Array.getElem?_append_left (by simp; omega), Array.getElem?_modify, if_neg (by omega)]
theorem set_get {dk : Array Ef} {i : Nat} {v : Ef} (hi : i < dk.size) (x : Nat) : (dk.setIfInBounds i v)[x]! = if x = i then v else dk[x]! := by
  by_cases h : x = i
  · subst h
    rw [if_pos rfl]
    simp [hi]
  · rw [if_neg h]
    by_cases k : x < dk.size
    · rw [getElem!_pos _ x (by simpa using k), getElem!_pos _ x k, Array.getElem_setIfInBounds, if_neg (Ne.symm h)]
    · rw [getElem!_neg _ x (by simpa using k), getElem!_neg _ x k]
/-- What has a layer. -/
def hasL (x : Ef) : Bool := !decide (lyr x.1 = 0)
/-- The first i hold what is kept of the first j; from j on all is as it was. -/
structure Kp (d dk : Array Ef) (i j : Nat) : Prop where
  sz : dk.size = d.size
  le : i ≤ j
  jd : j ≤ d.size
  lo : seg dk 0 i = (seg d 0 j).filter hasL
  hi : ∀ x, j ≤ x → dk[x]! = d[x]!
theorem seg_snoc (d : Array Ef) (j : Nat) : seg d 0 (j + 1) = seg d 0 j ++ [d[j]!] := by
  rw [seg_split d (Nat.zero_le j) (Nat.le_succ j)]
  simp [seg]
theorem Kp.skip {d dk : Array Ef} {i j : Nat} (h : Kp d dk i j) (hj : j < d.size) (hl : hasL d[j]! = false) : Kp d dk i (j + 1) :=
  ⟨h.sz, by have := h.le; omega, hj, by rw [seg_snoc, List.filter_append, h.lo]; simp [hl], fun x hx => h.hi x (by omega)⟩
theorem Kp.keep {d dk : Array Ef} {i j : Nat} (h : Kp d dk i j) (hj : j < d.size) (hl : hasL d[j]! = true) : Kp d (dk.setIfInBounds i d[j]!) (i + 1) (j + 1) := by
  have hi : i < dk.size := by have := h.le; have := h.sz; omega
  refine ⟨by simpa using h.sz, by have := h.le; omega, hj, ?_, fun x hx => ?_⟩
  · rw [seg_snoc, seg_snoc, List.filter_append, ← h.lo, set_get hi, if_pos rfl]
    rw [seg_same (d := dk) (d' := dk.setIfInBounds i d[j]!) (a := 0) (b := i) fun x _ hx => by rw [set_get hi, if_neg (by omega)]]
    simp [hl]
  · rw [set_get hi, if_neg (by have := h.le; omega)]
    exact h.hi x (by omega)
theorem Kp.start {d : Array Ef} {k : Nat} (hk : k < d.size) (hl : lyr d[k]!.1 = 0) (ha : ∀ j, j < k → lyr d[j]!.1 ≠ 0) : Kp d d k (k + 1) := by
  refine ⟨rfl, Nat.le_succ _, hk, ?_, fun _ _ => rfl⟩
  rw [seg_snoc, List.filter_append, List.filter_eq_self.2 fun x hx => ?_]
  · simp [hasL, hl]
  · obtain ⟨i, _, h2, rfl⟩ := mem_seg.1 hx
    simp [hasL, ha i h2]
theorem zeros (n : Nat) : (Builtin.zeroCells (Value.agg #[.int .i64 0, .int .i64 0, .int .i64 0, .int .i64 0]).cells n).toList = List.replicate (n * 4) (.int .i64 0) := by
  apply List.ext_getElem
  · simp [Builtin.zeroCells, Value.cells]
  · intro i h1 h2
    have hm : i % 4 < 4 := Nat.mod_lt _ (by omega)
    simp only [Builtin.zeroCells, Value.cells, Array.toList_map, List.getElem_map, List.getElem_replicate, Array.toList_range, List.getElem_range]
    have : i % 4 = 0 ∨ i % 4 = 1 ∨ i % 4 = 2 ∨ i % 4 = 3 := by omega
    show (#[Value.int IntKind.i64 0, Value.int IntKind.i64 0, Value.int IntKind.i64 0, Value.int IntKind.i64 0] : Array Value)[i % 4]! = _
    rcases this with h | h | h | h <;> rw [h] <;> rfl
theorem clear_run (W : World) (ty : TypeId) {blk off : Nat} {dk : Array Ef} (hH : HoldsK encE 4 W blk off dk) {i n : Nat} (hn : 0 < n) (hi : i + n = dk.size) (c : Nat) :
    Sem.run Try.prog (Builtin.clear_ #[128] ty #[.slice (some ⟨blk, off + i * 4, none⟩) n c]) W = .ok (.tuple #[]) (W.setCells blk (off + i * 4) (List.replicate (n * 4) (.int .i64 0))) := by
  have hst := stores_of_holds Try.prog (h := (hH : Holds id W blk off (flatK encE 4 dk))) (i * 4) (List.replicate (n * 4) (.int .i64 0)) (by rw [List.length_replicate, size_flatK]; omega) (by intro v hv; rw [List.eq_of_mem_replicate hv]; rfl)
  obtain ⟨m, rfl⟩ : ∃ m, n = m + 1 := ⟨n - 1, by omega⟩
  have hz := zeros (m + 1)
  simp [Builtin.clear_, run_underlying Try.underlying128, Try.zeroValue49, hz, hst]
structure Aft (w : World) (blk off : Nat) (dk : Array Ef) (wr w1 : World) (x0 x1 x2 x3 : Int) (i : Nat) : Prop where
  s : SWK encE 4 w blk off dk w1
  b0 : w1.cell? ⟨wr.heap.size, 0, none⟩ = some (.int .i64 x0)
  b1 : w1.cell? ⟨wr.heap.size, 1, none⟩ = some (.int .i64 x1)
  b2 : w1.cell? ⟨wr.heap.size, 2, none⟩ = some (.int .i64 x2)
  b3 : w1.cell? ⟨wr.heap.size, 3, none⟩ = some (.int .i64 x3)
  o0 : w1.cell? ⟨blk, off + i * 4, none⟩ = some (.int .i64 dk[i]!.1) ∧ w1.frozen? ⟨blk, off + i * 4, none⟩ = false
  o1 : w1.cell? ⟨blk, off + i * 4 + 1, none⟩ = some (.int .i64 dk[i]!.2.1) ∧ w1.frozen? ⟨blk, off + i * 4 + 1, none⟩ = false
  o2 : w1.cell? ⟨blk, off + i * 4 + 2, none⟩ = some (.int .i64 dk[i]!.2.2.1) ∧ w1.frozen? ⟨blk, off + i * 4 + 2, none⟩ = false
  o3 : w1.cell? ⟨blk, off + i * 4 + 3, none⟩ = some (.int .i64 dk[i]!.2.2.2) ∧ w1.frozen? ⟨blk, off + i * 4 + 3, none⟩ = false
theorem aft {w wr w1 : World} {blk off : Nat} {d0 dk : Array Ef} {x0 x1 x2 x3 : Int} {i : Nat} (S : SWK encE 4 w blk off dk wr) (hblk : blk < w.heap.size) (hH : HoldsK encE 4 w blk off d0) (hs : dk.size = d0.size) (hi : i < dk.size) (hG : Gr (wr.alloc (.cells #[.int .i64 x0, .int .i64 x1, .int .i64 x2, .int .i64 x3] 49)) w1) : Aft w blk off dk wr w1 x0 x1 x2 x3 i := by
  have S1 : SWK encE 4 w blk off dk w1 := by
    obtain ⟨q, os, rfl⟩ := hG
    exact (S.alloc _).grown q os
  have hh := S1.holds hblk hH hs
  have o := fun c hc => HoldsK.cell hh hi (c := c) hc
  refine ⟨S1, ?_, ?_, ?_, ?_, o 0 (by omega), o 1 (by omega), o 2 (by omega), o 3 (by omega)⟩
  all_goals
    rw [hG.cell (by simp)]
    simp
theorem cut_row {W : World} {blk off : Nat} {dk : Array Ef} (hH : HoldsK encE 4 W blk off dk) {i : Nat} (hi : i ≤ dk.size) (vs : List Value) : (dk.extract 0 i).toList = seg dk 0 i ∧ (dk.extract 0 i).size = i ∧ HoldsK encE 4 (W.setCells blk (off + i * 4) vs) blk off (dk.extract 0 i) := by
  have hs : (dk.extract 0 i).size = i := by simp; omega
  have hg : ∀ x, x < i → (dk.extract 0 i)[x]! = dk[x]! := fun x hx => by
    rw [getElem!_pos _ x (by omega), getElem!_pos dk x (by omega)]
    simp
  refine ⟨?_, hs, fun j hj => ?_⟩
  · rw [← seg_all, hs]
    exact seg_same fun x _ hx => hg x hx
  · rw [size_flatK, hs] at hj
    have h := hH j (by rw [size_flatK]; omega)
    rw [World.cell?_setCells_out blk _ _ _ _ (fun _ _ => .inl (by show off + j < off + i * 4; omega)), World.frozen?_setCells]
    rw [get_flatK _ _ _ _ (by omega)] at h ⊢
    · rw [hg _ (by omega)]
      exact h
set_option maxHeartbeats 8000000 in
set_option maxRecDepth 100000 in
theorem eDel_calls (blk off cap : Nat) (d : Array Ef) (w : World) (hH : HoldsK encE 4 w blk off d) (hblk : blk < w.heap.size) (hsz : d.size < 2305843009213693952) (hcap : d.size ≤ cap) :
    Calls Try.prog 66 #[.slice (some ⟨blk, off, none⟩) d.size cap, .func (.func 67) #[] #[]] w fun e w' => ∃ k : Array Ef, k.toList = d.toList.filter hasL ∧ e = .returned (.slice (some ⟨blk, off, none⟩) k.size cap) ∧ Below blk w w' ∧ HoldsK encE 4 w' blk off k := by
  have hc := idx_calls blk off cap d w hH hblk hsz
  have HH : Aside _ := hH
  clear hH
  go_enter Try.func66, Try.ntmps66
  go_wp2_with (go_at_call 81; refine hc.mono ?_; rintro e w1 ⟨S1, ⟨rfl, hn⟩ | ⟨k, rfl, hk, hl, hn⟩⟩)
  · go_returns
    refine ⟨d, ?_, rfl, swk_below S1 hblk, S1.holds hblk HH.out rfl⟩
    rw [← seg_all, List.filter_eq_self.2 fun x hx => ?_]
    obtain ⟨i, _, h2, rfl⟩ := mem_seg.1 hx
    simp [hasL, hn i h2]
  · have hne1 : ((k : Int) == -1) = false := beq_eq_false_iff_ne.2 (by omega)
    have S0 : Aside (SWK encE 4 w blk off d w1) := S1
    have HK : Hid (Kp d d k (k + 1)) := .start hk hl hn
    clear S1 hl hn hc
    go_wp2
    go_loopg [5, 6] d.size (fun kx s5 s6 wr => ∃ (i j : Nat) (dk : Array Ef), s5 = .int .i64 i ∧ s6 = .int .i64 j ∧ i < j ∧ j ≤ d.size ∧ d.size - j ≤ kx ∧ dk.size = d.size ∧ Aside (SWK encE 4 w blk off dk wr) ∧ Hid (Kp d dk i j))
    case atStart => exact ⟨k, k + 1, d, rfl, by go_num, Nat.lt_succ_self _, hk, by omega, rfl, S0, HK⟩
    case round =>
      clear S0 HK
      obtain ⟨i, j, dk, rfl, rfl, hij, hjd, hkx, hds, S1, HK⟩ := hrel
      have wi : IntKind.i64.wrap ((i : Int) + 1) = (i : Int) + 1 := by rw [IntKind.wrap_i64]; omega
      have wj : IntKind.i64.wrap ((j : Int) + 1) = (j : Int) + 1 := by rw [IntKind.wrap_i64]; omega
      by_cases hlt : j < d.size
      · have hltz : (j : Int) < (d.size : Int) := by omega
        have hiz : (i : Int) < (d.size : Int) := by omega
        obtain ⟨c0, c1, c2, c3⟩ := cells4 (S1.out.holds hblk HH.out hds) (show j < dk.size by omega)
        rw [HK.out.hi j (Nat.le_refl _)] at c0 c1 c2 c3
        have hn := nol_calls d[j]! (wr.alloc (.cells #[.int .i64 d[j]!.1, .int .i64 d[j]!.2.1, .int .i64 d[j]!.2.2.1, .int .i64 d[j]!.2.2.2] 49))
        obtain ⟨bb, hb⟩ : ∃ bb, decide (lyr d[j]!.1 = 0) = bb := ⟨_, rfl⟩
        rw [hb] at hn
        have HL : Hid (hasL d[j]! = !bb) := by rw [← hb]; rfl
        obtain ⟨x0, hx0⟩ : ∃ x, x = d[j]!.1 := ⟨_, rfl⟩
        obtain ⟨x1, hx1⟩ : ∃ x, x = d[j]!.2.1 := ⟨_, rfl⟩
        obtain ⟨x2, hx2⟩ : ∃ x, x = d[j]!.2.2.1 := ⟨_, rfl⟩
        obtain ⟨x3, hx3⟩ : ∃ x, x = d[j]!.2.2.2 := ⟨_, rfl⟩
        rw [← hx0] at c0 hn
        rw [← hx1] at c1 hn
        rw [← hx2] at c2 hn
        rw [← hx3] at c3 hn
        have HX : Hid (d[j]! = (x0, x1, x2, x3)) := by rw [hx0, hx1, hx2, hx3]; rfl
        clear hb hx0 hx1 hx2 hx3
        cases bb with
        | true =>
          go_wp2_with (go_at_call 67; refine hn.mono ?_; rintro e w2 ⟨rfl, hG⟩)
          have A := aft S1.out hblk HH.out hds (show i < dk.size by omega) hG
          have S2 : Aside _ := A.s
          go_roundg (d.size - (j + 1))
          case measure => omega
          case rel => exact ⟨i, j + 1, dk, rfl, by first | rfl | go_num, by omega, by omega, Nat.le_refl _, hds, S2, HK.out.skip hlt HL.out⟩
        | false =>
          have IH : Aside (i < dk.size) := (by omega : i < dk.size)
          go_wp2_with (go_at_call 67; refine hn.mono ?_; rintro e w2 ⟨rfl, hG⟩; obtain ⟨S2, b0, b1, b2, b3, ⟨o0, f0⟩, ⟨o1, f1⟩, ⟨o2, f2⟩, ⟨o3, f3⟩⟩ := aft S1.out hblk HH.out hds IH.out hG; have S2 : Aside _ := S2; clear hG hn c0 c1 c2 c3)
          have S3 : Aside (SWK encE 4 w blk off (dk.setIfInBounds i (x0, x1, x2, x3)) (w2.setCells blk (off + i * 4) (encE (x0, x1, x2, x3)))) := swk_set S2.out hblk _ IH.out
          go_roundg (d.size - (j + 1))
          case measure => omega
          case rel =>
            refine ⟨i + 1, j + 1, dk.setIfInBounds i (x0, x1, x2, x3), by first | rfl | go_num, by first | rfl | go_num, by omega, by omega, Nat.le_refl _, by simpa using hds, S3, ?_⟩
            have := HK.out.keep hlt HL.out
            rw [HX.out] at this
            exact this
      · have hltz : ¬ (j : Int) < (d.size : Int) := by omega
        obtain rfl : j = d.size := by omega
        have hcl := clear_run wr 0 (S1.out.holds hblk HH.out hds) (i := i) (n := d.size - i) (by omega) (by omega) (cap - i)
        have B1 : Aside (Below blk w (wr.setCells blk (off + i * 4) (List.replicate ((d.size - i) * 4) (.int .i64 0)))) := below_sets (Nat.le_refl _) _ _ (swk_below S1.out hblk)
        have hiz : (i : Int) ≤ (d.size : Int) := by omega
        have hic : (i : Int) ≤ (cap : Int) := by omega
        have hiz' : (i : Int) < (d.size : Int) := by omega
        have HS := S1
        clear S1
        go_wp2
        go_returns
        obtain ⟨k1, k2, k3⟩ := cut_row (HS.out.holds hblk HH.out hds) (show i ≤ dk.size by omega) (List.replicate ((d.size - i) * 4) (.int .i64 0))
        refine ⟨dk.extract 0 i, ?_, by rw [k2]; rfl, B1.out, k3⟩
        rw [k1, HK.out.lo, seg_all]
end Go.Proofs.Yticgadnmlbfmfaa.cachePlays
