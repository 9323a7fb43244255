/-
  What an event that came in holds.
-/
import Derived.Test.YtjfbakhebdhbmaaDoorTxX
import Derived.Test.YtjfbakhebdhbmaaDoorTxI
import Derived.Test.YtjfbakhebdhbmaaDoorEvW
import Derived.Test.YtjfbakhebdhbmaaDoorEv5
import Derived.WalkKit
import Derived.ProofKit
import Derived.OpenShut
import Derived.Deep.Slices
namespace Go.Proofs.YtjfbakhebdhbmaaDoor.event
open Go.Ev Go.RowKit
set_option linter.unusedVariables false
noncomputable section
def nums0 : List Int := [0, 1, 28, 2, 29, 14, 24, 3, 30, 22, 20, 15, 25, 17, 4, 8, 31, 27, 13, 23, 21, 19, 16, 7, 26, 12, 18, 6, 11, 5, 10, 9]
def nums1 : List Int := [0, 1, 56, 2, 57, 49, 28, 3, 61, 58, 42, 50, 38, 29, 17, 4, 62, 47, 59, 36, 45, 43, 51, 22, 53, 39, 33, 30, 24, 18, 12, 5, 63, 55, 48, 27, 60, 41, 37, 16, 46, 35, 44, 21, 52, 32, 23, 11, 54, 26, 40, 15, 34, 20, 31, 10, 25, 14, 19, 9, 13, 8, 7, 6]
def nums2 : List Int := [1, 10, 100, 1000, 10000, 100000, 1000000, 10000000, 100000000, 1000000000, 10000000000, 100000000000, 1000000000000, 10000000000000, 100000000000000, 1000000000000000, 10000000000000000, 100000000000000000, 1000000000000000000, 10000000000000000000]
noncomputable def tabs : Tabs := [(1, nums0.map fun z => Value.int .u8 z), (2, nums1.map fun z => Value.int .u8 z), (0, nums2.map fun z => Value.int .u64 z)]
namespace rows
instance said : Ext := ⟨fun _ w => TabsOK tabs w⟩
theorem none_known : ∀ f ∈ ([] : List FuncId), ∀ w : World, TabsOK tabs w → Calls Tryd.prog f #[] w fun e w' => e = .returned (.bool true) ∧ Below w.heap.size w w' := by
  intro f hf
  cases hf
theorem ran : Go.Ev.runT Tryd.prog tabs [] 20000 13 = true := by kernel_rfl
theorem works (w : World) (h : TabsOK tabs w) : Calls Tryd.prog 13 #[] w fun e w' => e = .returned (.bool true) ∧ Below w.heap.size w w' :=
  runT_calls (noNG_of noNG) mixed (fun _ _ h => h) none_known ran w h h
end rows
theorem tab_pow {w : World} (h : TabsOK tabs w) : Go.Lib.TabIs Tryd.prog w "internal/strconv.uint64pow10" .u64 Go.Lib.pow10Tab := by
  obtain ⟨c, e, fr, h1, h2⟩ := h 0 (nums2.map fun z => Value.int .u64 z) rfl
  have hg : Tryd.prog.globalNamed "internal/strconv.uint64pow10" = some 0 := by kernel_rfl
  unfold Go.Lib.TabIs World.var?
  simp only [hg, Option.bind_some, h1]
  have e : Go.Lib.pow10Tab = nums2 := by decide
  rw [e, ← h2]
theorem itoaOK {w : World} (h : TabsOK tabs w) : ItoaOK w := fun n hn w' h1 h2 => by
  refine (Tryd.strconv_Itoa n hn.1 hn.2 w' (tab_pow (h.of_old h2))).mono ?_
  rintro e w'' ⟨rfl, k, os, rfl⟩
  exact ⟨rfl, Go.Lib.below_grow _ _ (Nat.le_refl _) k os⟩
end
end Go.Proofs.YtjfbakhebdhbmaaDoor.event
namespace Go.Proofs.YtjfbakhebdhbmaaDoor.event
open Go.Ev Go.RowKit
set_option linter.unusedVariables false
noncomputable section
/-! ### how long a text is -/
section
variable {w : World} {g : EvG}
def pcSz : VV → Nat
  | .string s => s.size
  | _ => 6000
def sumSz : List VV → Nat
  | [] => 0
  | p :: l => pcSz p + sumSz l
def szOK : Leaf → Bool
  | .ret (.cat ps) => match arePc ps with
    | true => Nat.ble (sumSz ps) 100000
    | false => false
  | _ => false
theorem sz_all : allP (fun k => allL szOK (tT (k : Int))) 30 = true := by kernel_rfl
end
def mx : Int := 9223372036854775807
/-- The event as it comes: its lists may be longer. -/
structure Raw (g : EvG) (la lt : Nat) : Prop where
  hl : g.l.length = min la 260
  ht : g.t.length = min lt 4
  ca : la ≤ g.ca
  cb : lt ≤ g.cb
  ba : (la : Int) ≤ 9223372036854775807
  bb : (lt : Int) ≤ 9223372036854775807
def EvG.raw (g : EvG) (la lt : Nat) : Value := .agg #[.int .i64 g.k, .int .i64 g.a, .int .i64 g.b, .int .i64 g.n, .int .i64 g.m, .slice g.oa la g.ca, .int .i64 g.i5, .int .i64 g.i6, .int .i64 g.i7, .int .i64 g.i8, .int .i64 g.i9, .int .i64 g.i10, .slice g.ob lt g.cb]
theorem fact_min {ρ : Rho} {a b : Nat} {c : Int} (h : ρ.int b = if c < ρ.int a then c else ρ.int a) : FactOK ρ (.fn .min [si a, .int .i64 c] (si b)) :=
  ⟨[.int .i64 (ρ.int a), .int .i64 c], .int .i64 (ρ.int b), rfl, rfl, by show Value.int .i64 (ρ.int b) = _; rw [h]⟩
end
end Go.Proofs.YtjfbakhebdhbmaaDoor.event
namespace Go.Proofs.YtjfbakhebdhbmaaDoor.event
open Go.Ev Go.RowKit Go.ChangeShapes Go.WideShapes Go.ChangeAt
set_option linter.unusedVariables false
noncomputable section
theorem lit64 {x : Int} (h : (Lit.int .i64 x).wf = true) : I64 x := by
  have h' : -9223372036854775808 ≤ x ∧ x ≤ 9223372036854775807 := by simpa [Lit.wf, IntKind.min, IntKind.max, IntKind.signed, IntKind.bits] using h
  exact h'
theorem max_len : maxLen ≤ 9223372036854775807 := by decide
theorem flat27 : flatT Tryd.prog 9 27 = some [3, 3, 3, 3, 3, 22, 3, 3, 3, 3, 3, 3, 23] := by kernel_rfl
theorem flat40 : flatT Tryd.prog 9 40 = some [3, 3] := by kernel_rfl
section
variable {H : Type} {enc : TypeId × Value → H} {w : World} {base : Nat} {sp : Nat → Bool} {held : Bool}
theorem leaf_int {ts : List TypeId} {cs : List Value} (h : LeavesOK enc Tryd.prog w base sp held ts cs) {j : Nat} (hj : ts[j]? = some 3) : ∃ z, cs[j]? = some (.int .i64 z) ∧ I64 z := by
  obtain ⟨v, n, y, h1, h2⟩ := h.2 j 3 hj
  obtain ⟨z, e, _, hw⟩ := DataW.trod_int Tryd.underlying3 h2
  simp only [List.cons.injEq, and_true] at e
  subst e
  exact ⟨z, h1, lit64 hw⟩
theorem cell_lt {a : Addr} {v : Value} (h : w.cell? a = some v) : a.block < w.heap.size ∧ a.spot = none := by
  refine ⟨?_, World.cell?_spot h⟩
  unfold World.cell? at h
  split at h
  · rename_i he
    exact (Array.getElem?_eq_some_iff.1 he).1
  · cases h
/-- A slice of numbers. -/
theorem ints_of {n : Nat} {v : Value} {y : DataW H × List MemPlace} (h : DataW.trod enc Tryd.prog w base sp held n 22 [v] = some y) :
    ∃ (oa : Option Addr) (cap B O : Nat) (l : List Int), v = .slice oa l.length cap ∧ l.length ≤ cap ∧ (cap : Int) ≤ 9223372036854775807 ∧ (∀ z ∈ l, I64 z) ∧ ∀ (j : Nat) x, l[j]? = some x → oa = some ⟨B, O, none⟩ ∧ B < w.heap.size ∧ w.cell? ⟨B, O + j, none⟩ = some (.int .i64 x) := by
  have hm := max_len
  rcases Go.Deep.open_slice1 Tryd.underlying22 (by kernel_rfl) h with ⟨hcs, _⟩ | ⟨a, len, cap, m, n', V, D, Pl, hcs, _, hl, hc, hmm, _, hall⟩
  · simp only [List.cons.injEq, and_true] at hcs
    subst hcs
    exact ⟨none, 0, 0, 0, [], rfl, by simp, by decide, (fun z hz => by cases hz), fun j x hj => by simp at hj⟩
  · simp only [List.cons.injEq, and_true] at hcs
    subst hcs
    have hlm : len ≤ m := by rw [hmm]; split <;> omega
    have each : ∀ j, ∃ z : Int, j < len → w.cell? (a.add j) = some (.int .i64 z) ∧ I64 z := fun j => by
      by_cases hj : j < len
      · obtain ⟨h1, h2⟩ := hall j (by omega)
        obtain ⟨z, e, _, hw⟩ := DataW.trod_int Tryd.underlying3 h2
        simp only [List.cons.injEq, and_true] at e
        rw [e] at h1
        exact ⟨z, fun _ => ⟨h1, lit64 hw⟩⟩
      · exact ⟨0, fun h => absurd h hj⟩
    obtain ⟨f, hf⟩ := Classical.skolem.1 each
    refine ⟨some a, cap, a.block, a.off, (List.range len).map f, by simp, by simpa using hl, by omega, fun z hz => ?_, fun j x hx => ?_⟩
    · simp only [List.mem_map, List.mem_range] at hz
      obtain ⟨j, hj, rfl⟩ := hz
      exact (hf j hj).2
    · have hj : j < len := by
        have := (List.getElem?_eq_some_iff.1 hx).1
        simpa using this
      have ex : x = f j := by
        simp [hj] at hx
        exact hx.symm
      subst ex
      obtain ⟨g1, g2⟩ := hf j hj
      obtain ⟨k1, k2⟩ := cell_lt (hf 0 (by omega)).1
      obtain ⟨B, O, spot⟩ := a
      have hspot : spot = none := by simpa [Addr.add] using k2
      subst hspot
      refine ⟨rfl, by simpa [Addr.add] using k1, ?_⟩
      rw [Addr.add_lit] at g1
      exact g1
/-- A slice of targets. -/
theorem tgs_of {n : Nat} {v : Value} {y : DataW H × List MemPlace} (h : DataW.trod enc Tryd.prog w base sp held n 23 [v] = some y) :
    ∃ (oa : Option Addr) (cap B O : Nat) (l : List (Int × Int)), v = .slice oa l.length cap ∧ l.length ≤ cap ∧ (cap : Int) ≤ 9223372036854775807 ∧ (∀ z ∈ l, I64 z.1 ∧ I64 z.2) ∧ ∀ (j : Nat) x, l[j]? = some x → oa = some ⟨B, O, none⟩ ∧ B < w.heap.size ∧ w.cell? ⟨B, O + j * 2, none⟩ = some (.int .i64 x.1) ∧ w.cell? ⟨B, O + j * 2 + 1, none⟩ = some (.int .i64 x.2) := by
  have hm := max_len
  have hc40 : Tryd.prog.cellsOf 40 = 2 := by kernel_rfl
  rcases Go.Deep.open_slice Tryd.underlying23 h with ⟨hcs, _⟩ | ⟨a, len, cap, m, n', D, Pl, hcs, _, hl, hc, hmm, _, hall⟩
  · simp only [List.cons.injEq, and_true] at hcs
    subst hcs
    exact ⟨none, 0, 0, 0, [], rfl, by simp, by decide, (fun z hz => by cases hz), fun j x hj => by simp at hj⟩
  · simp only [List.cons.injEq, and_true] at hcs
    subst hcs
    have hlm : len ≤ m := by rw [hmm]; split <;> omega
    rw [hc40] at hall
    have each : ∀ i, ∃ x : Int × Int, i < len → (w.cell? ((a.add (i * 2)).add 0) = some (.int .i64 x.1) ∧ w.cell? ((a.add (i * 2)).add 1) = some (.int .i64 x.2)) ∧ I64 x.1 ∧ I64 x.2 := fun i => by
      by_cases hi : i < len
      · obtain ⟨cs', h1, h2⟩ := hall i (by omega)
        have hL := leaves_ok flat40 h2
        obtain ⟨_, _, hcell⟩ := World.cells?_some h1
        obtain ⟨z0, e0, w0⟩ := leaf_int hL (j := 0) rfl
        obtain ⟨z1, e1, w1⟩ := leaf_int hL (j := 1) rfl
        exact ⟨(z0, z1), fun _ => ⟨⟨by rw [hcell 0 (by omega), e0], by rw [hcell 1 (by omega), e1]⟩, w0, w1⟩⟩
      · exact ⟨(0, 0), fun h => absurd h hi⟩
    obtain ⟨f, hf⟩ := Classical.skolem.1 each
    refine ⟨some a, cap, a.block, a.off, (List.range len).map f, by simp, by simpa using hl, by omega, fun z hz => ?_, fun i x hx => ?_⟩
    · simp only [List.mem_map, List.mem_range] at hz
      obtain ⟨j, hj, rfl⟩ := hz
      exact (hf j hj).2
    · have hi : i < len := by
        have := (List.getElem?_eq_some_iff.1 hx).1
        simpa using this
      have ex : x = f i := by
        simp [hi] at hx
        exact hx.symm
      subst ex
      obtain ⟨⟨g0, g1⟩, _⟩ := hf i hi
      obtain ⟨k1, k2⟩ := cell_lt (hf 0 (by omega)).1.1
      obtain ⟨B, O, spot⟩ := a
      have hspot : spot = none := by simpa [Addr.add] using k2
      subst hspot
      rw [Addr.add_lit, Addr.add_lit] at g0 g1
      exact ⟨rfl, by simpa [Addr.add] using k1, g0, g1⟩
theorem list13 {cs : List Value} (h : cs.length = 13) : ∃ a0 a1 a2 a3 a4 a5 a6 a7 a8 a9 a10 a11 a12, cs = [a0, a1, a2, a3, a4, a5, a6, a7, a8, a9, a10, a11, a12] := by
  match cs, h with
  | [a0, a1, a2, a3, a4, a5, a6, a7, a8, a9, a10, a11, a12], _ => exact ⟨_, _, _, _, _, _, _, _, _, _, _, _, _, rfl⟩
theorem take_at {α : Type} {l : List α} {m i : Nat} {x : α} (h : (l.take m)[i]? = some x) : l[i]? = some x := by
  rw [List.getElem?_take] at h
  split at h
  · exact h
  · cases h
/-- An event's cells, read. -/
theorem event_of {n : Nat} {cs : List Value} {y : DataW H × List MemPlace} (h : DataW.trod enc Tryd.prog w base sp held n 27 cs = some y) :
    ∃ (g : EvG) (la lt : Nat), g.OK w ∧ Raw g la lt ∧ (.agg ⟨cs⟩ : Value) = g.raw la lt := by
  have hL := leaves_ok flat27 h
  obtain ⟨z0, e0, w0⟩ := leaf_int hL (j := 0) rfl
  obtain ⟨z1, e1, w1⟩ := leaf_int hL (j := 1) rfl
  obtain ⟨z2, e2, w2⟩ := leaf_int hL (j := 2) rfl
  obtain ⟨z3, e3, w3⟩ := leaf_int hL (j := 3) rfl
  obtain ⟨z4, e4, w4⟩ := leaf_int hL (j := 4) rfl
  obtain ⟨v5, n5, y5, e5, h5⟩ := hL.2 5 22 rfl
  obtain ⟨z6, e6, w6⟩ := leaf_int hL (j := 6) rfl
  obtain ⟨z7, e7, w7⟩ := leaf_int hL (j := 7) rfl
  obtain ⟨z8, e8, w8⟩ := leaf_int hL (j := 8) rfl
  obtain ⟨z9, e9, w9⟩ := leaf_int hL (j := 9) rfl
  obtain ⟨z10, e10, w10⟩ := leaf_int hL (j := 10) rfl
  obtain ⟨z11, e11, w11⟩ := leaf_int hL (j := 11) rfl
  obtain ⟨v12, n12, y12, e12, h12⟩ := hL.2 12 23 rfl
  obtain ⟨oa, ca, Ba, Oa, l, rfl, l1, l2, l3, l4⟩ := ints_of h5
  obtain ⟨ob, cb, Bb, Ob, t, rfl, t1, t2, t3, t4⟩ := tgs_of h12
  obtain ⟨a0, a1, a2, a3, a4, a5, a6, a7, a8, a9, a10, a11, a12, rfl⟩ := list13 hL.1
  simp only [List.getElem?_cons_zero, List.getElem?_cons_succ, Option.some.injEq] at e0 e1 e2 e3 e4 e5 e6 e7 e8 e9 e10 e11 e12
  subst e0 e1 e2 e3 e4 e5 e6 e7 e8 e9 e10 e11 e12
  refine ⟨⟨z0, z1, z2, z3, z4, l.take 260, oa, ca, Ba, Oa, z6, z7, z8, z9, z10, z11, t.take 4, ob, cb, Bb, Ob⟩, l.length, t.length,
    { cl := fun i x hi => l4 i x (take_at hi), ct := fun i x hi => t4 i x (take_at hi), wl := fun x hx => l3 x (List.mem_of_mem_take hx), wt := fun x hx => t3 x (List.mem_of_mem_take hx),
      nl := by show (l.take 260).length ≤ 260; rw [List.length_take]; omega, nt := by show (t.take 4).length ≤ 4; rw [List.length_take]; omega,
      fk := w0, fa := w1, fb := w2, fn := w3, fm := w4, f5 := w6, f6 := w7, f7 := w8, f8 := w9, f9 := w10, f10 := w11 },
    { hl := by show (l.take 260).length = _; rw [List.length_take]; omega, ht := by show (t.take 4).length = _; rw [List.length_take]; omega, ca := l1, cb := t1, ba := by omega, bb := by omega }, rfl⟩
end
end
end Go.Proofs.YtjfbakhebdhbmaaDoor.event
