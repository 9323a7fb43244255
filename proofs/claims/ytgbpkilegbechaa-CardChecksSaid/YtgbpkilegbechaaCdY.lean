/-
  What a card that came in holds.
-/
import Derived.Test.YtgbpkilegbechaaCdT
import Derived.Test.YtgbpkilegbechaaEv5
import Derived.WalkKit
import Derived.ProofKit
import Derived.OpenShut
import Derived.Deep.Slices
namespace Go.Proofs.Ytgbpkilegbechaa.cards
open Go.Ev Go.RowKit Go.ChangeShapes Go.WideShapes Go.ChangeAt
set_option linter.unusedVariables false
noncomputable section
theorem lit64 {x : Int} (h : (Lit.int .i64 x).wf = true) : I64 x := by
  simpa [Lit.wf, IntKind.min, IntKind.max, IntKind.signed, IntKind.bits, I64] using h
theorem max_len : maxLen ≤ 9223372036854775807 := by decide
theorem flat41 : flatT Try.prog 9 41 = some [3, 3, 3, 3, 3, 3, 3, 4, 38, 39, 3, 3, 3] := by kernel_rfl
theorem flat26 : flatT Try.prog 9 26 = some [9, 3, 3, 3, 3, 3, 3, 3, 3, 3, 24] := by kernel_rfl
theorem flat58 : flatT Try.prog 9 58 = some [3, 3, 3] := by kernel_rfl
section
variable {H : Type} {enc : TypeId × Value → H} {w : World} {base : Nat} {sp : Nat → Bool} {held : Bool}
theorem leaf_int {ts : List TypeId} {cs : List Value} (h : LeavesOK enc Try.prog w base sp held ts cs) {j : Nat} (hj : ts[j]? = some 3) : ∃ z, cs[j]? = some (.int .i64 z) ∧ I64 z := by
  obtain ⟨v, n, y, h1, h2⟩ := h.2 j 3 hj
  obtain ⟨z, e, _, hw⟩ := DataW.trod_int Try.underlying3 h2
  simp only [List.cons.injEq, and_true] at e
  subst e
  exact ⟨z, h1, lit64 hw⟩
theorem leaf_bool {ts : List TypeId} {cs : List Value} (h : LeavesOK enc Try.prog w base sp held ts cs) {j : Nat} (hj : ts[j]? = some 4) : ∃ b, cs[j]? = some (.bool b) := by
  obtain ⟨v, n, y, h1, h2⟩ := h.2 j 4 hj
  obtain ⟨z, e, _⟩ := DataW.trod_bool Try.underlying4 h2
  simp only [List.cons.injEq, and_true] at e
  subst e
  exact ⟨z, h1⟩
theorem leaf_string {ts : List TypeId} {cs : List Value} (h : LeavesOK enc Try.prog w base sp held ts cs) {j : Nat} (hj : ts[j]? = some 9) : ∃ s : ByteArray, cs[j]? = some (.string s) ∧ (s.size : Int) ≤ 9223372036854775807 := by
  obtain ⟨v, n, y, h1, h2⟩ := h.2 j 9 hj
  obtain ⟨s, e, _, hs⟩ := DataW.trod_string Try.underlying9 h2
  simp only [List.cons.injEq, and_true] at e
  subst e
  have := max_len
  exact ⟨s, h1, by omega⟩
theorem cell_lt {a : Addr} {v : Value} (h : w.cell? a = some v) : a.block < w.heap.size ∧ a.spot = none := by
  refine ⟨?_, World.cell?_spot h⟩
  unfold World.cell? at h
  split at h
  · rename_i he
    exact (Array.getElem?_eq_some_iff.1 he).1
  · cases h
/-- A slice of numbers. -/
theorem ints_of {n : Nat} {v : Value} {y : DataW H × List MemPlace} (h : DataW.trod enc Try.prog w base sp held n 38 [v] = some y) :
    ∃ (oa : Option Addr) (cap B O : Nat) (l : List Int), v = .slice oa l.length cap ∧ l.length ≤ cap ∧ (cap : Int) ≤ 9223372036854775807 ∧ (∀ z ∈ l, I64 z) ∧ ∀ j, j < l.length → oa = some ⟨B, O, none⟩ ∧ B < w.heap.size ∧ w.cell? ⟨B, O + j, none⟩ = some (.int .i64 (l.getD j 0)) := by
  have hm := max_len
  rcases Go.Deep.open_slice1 Try.underlying38 (by kernel_rfl) h with ⟨hcs, _⟩ | ⟨a, len, cap, m, n', V, D, Pl, hcs, _, hl, hc, hmm, _, hall⟩
  · simp only [List.cons.injEq, and_true] at hcs
    subst hcs
    exact ⟨none, 0, 0, 0, [], rfl, by simp, by decide, (fun z hz => by cases hz), fun j hj => by simp at hj⟩
  · simp only [List.cons.injEq, and_true] at hcs
    subst hcs
    have hlm : len ≤ m := by rw [hmm]; split <;> omega
    have each : ∀ j, ∃ z : Int, j < len → w.cell? (a.add j) = some (.int .i64 z) ∧ I64 z := fun j => by
      by_cases hj : j < len
      · obtain ⟨h1, h2⟩ := hall j (by omega)
        obtain ⟨z, e, _, hw⟩ := DataW.trod_int Try.underlying3 h2
        simp only [List.cons.injEq, and_true] at e
        rw [e] at h1
        exact ⟨z, fun _ => ⟨h1, lit64 hw⟩⟩
      · exact ⟨0, fun h => absurd h hj⟩
    obtain ⟨f, hf⟩ := Classical.skolem.1 each
    refine ⟨some a, cap, a.block, a.off, (List.range len).map f, by simp, by simpa using hl, by omega, fun z hz => ?_, fun j hj => ?_⟩
    · simp only [List.mem_map, List.mem_range] at hz
      obtain ⟨j, hj, rfl⟩ := hz
      exact (hf j hj).2
    · simp only [List.length_map, List.length_range] at hj
      obtain ⟨g1, g2⟩ := hf j hj
      obtain ⟨k1, k2⟩ := cell_lt (hf 0 (by omega)).1
      obtain ⟨B, O, spot⟩ := a
      have hspot : spot = none := by simpa [Addr.add] using k2
      subst hspot
      refine ⟨rfl, by simpa [Addr.add] using k1, ?_⟩
      rw [Addr.add_lit] at g1
      simpa [List.getD_eq_getElem?_getD, hj] using g1
/-- A slice of instructions. -/
theorem code_of {n : Nat} {v : Value} {y : DataW H × List MemPlace} (h : DataW.trod enc Try.prog w base sp held n 39 [v] = some y) :
    ∃ (oa : Option Addr) (cap B O : Nat) (l : List Ins), v = .slice oa l.length cap ∧ l.length ≤ cap ∧ (cap : Int) ≤ 9223372036854775807 ∧ Lst w oa B O l := by
  have hm := max_len
  have hc58 : Try.prog.cellsOf 58 = 3 := by kernel_rfl
  rcases Go.Deep.open_slice Try.underlying39 h with ⟨hcs, _⟩ | ⟨a, len, cap, m, n', D, Pl, hcs, _, hl, hc, hmm, _, hall⟩
  · simp only [List.cons.injEq, and_true] at hcs
    subst hcs
    exact ⟨none, 0, 0, 0, [], rfl, by simp, by decide, ⟨fun i x hi => by simp at hi, fun x hx => by cases hx⟩⟩
  · simp only [List.cons.injEq, and_true] at hcs
    subst hcs
    have hlm : len ≤ m := by rw [hmm]; split <;> omega
    rw [hc58] at hall
    have each : ∀ i, ∃ x : Ins, i < len → (w.cell? ((a.add (i * 3)).add 0) = some (.int .i64 x.1) ∧ w.cell? ((a.add (i * 3)).add 1) = some (.int .i64 x.2.1) ∧ w.cell? ((a.add (i * 3)).add 2) = some (.int .i64 x.2.2)) ∧ I64 x.1 ∧ I64 x.2.1 ∧ I64 x.2.2 := fun i => by
      by_cases hi : i < len
      · obtain ⟨cs', h1, h2⟩ := hall i (by omega)
        have hL := leaves_ok flat58 h2
        obtain ⟨_, _, hcell⟩ := World.cells?_some h1
        obtain ⟨z0, e0, w0⟩ := leaf_int hL (j := 0) rfl
        obtain ⟨z1, e1, w1⟩ := leaf_int hL (j := 1) rfl
        obtain ⟨z2, e2, w2⟩ := leaf_int hL (j := 2) rfl
        exact ⟨(z0, z1, z2), fun _ => ⟨⟨by rw [hcell 0 (by omega), e0], by rw [hcell 1 (by omega), e1], by rw [hcell 2 (by omega), e2]⟩, w0, w1, w2⟩⟩
      · exact ⟨(0, 0, 0), fun h => absurd h hi⟩
    obtain ⟨f, hf⟩ := Classical.skolem.1 each
    refine ⟨some a, cap, a.block, a.off, (List.range len).map f, by simp, by simpa using hl, by omega, ⟨fun i x hx => ?_, fun x hx => ?_⟩⟩
    · have hi : i < len := by
        have := (List.getElem?_eq_some_iff.1 hx).1
        simpa using this
      have ex : x = f i := by
        simp [hi] at hx
        exact hx.symm
      subst ex
      obtain ⟨⟨g0, g1, g2⟩, _⟩ := hf i hi
      obtain ⟨k1, k2⟩ := cell_lt (hf 0 (by omega)).1.1
      obtain ⟨B, O, spot⟩ := a
      have hspot : spot = none := by simpa [Addr.add] using k2
      subst hspot
      rw [Addr.add_lit, Addr.add_lit] at g0 g1 g2
      exact ⟨rfl, by simpa [Addr.add] using k1, g0, g1, g2⟩
    · simp only [List.mem_map, List.mem_range] at hx
      obtain ⟨j, hj, rfl⟩ := hx
      exact (hf j hj).2
/-- An ability, and where its lists lie. -/
structure AbW where
  x : Ab
  ta : Option Addr
  tc : Nat
  tB : Nat
  tO : Nat
  ca : Option Addr
  cc : Nat
  cB : Nat
  cO : Nat
def AbW.zero : AbW := ⟨Ab.zero, none, 0, 0, 0, none, 0, 0, 0⟩
def AbW.cells (r : AbW) : List Value := [.int .i64 r.x.kind, .int .i64 r.x.event, .int .i64 r.x.who, .int .i64 r.x.c0, .int .i64 r.x.c1, .int .i64 r.x.c2, .int .i64 r.x.c3, .bool r.x.tap,
  .slice r.ta r.x.tg.length r.tc, .slice r.ca r.x.code.length r.cc, .int .i64 r.x.op, .int .i64 r.x.a, .int .i64 r.x.b]
structure AbW.OK (r : AbW) (w : World) : Prop where
  fits : r.x.Fits
  tgs : ∀ j, j < r.x.tg.length → r.ta = some ⟨r.tB, r.tO, none⟩ ∧ r.tB < w.heap.size ∧ w.cell? ⟨r.tB, r.tO + j, none⟩ = some (.int .i64 (r.x.tg.getD j 0))
  code : Lst w r.ca r.cB r.cO r.x.code
  tcap : r.x.tg.length ≤ r.tc
  ccap : r.x.code.length ≤ r.cc
theorem list13 {cs : List Value} (h : cs.length = 13) : ∃ a0 a1 a2 a3 a4 a5 a6 a7 a8 a9 a10 a11 a12, cs = [a0, a1, a2, a3, a4, a5, a6, a7, a8, a9, a10, a11, a12] := by
  match cs, h with
  | [a0, a1, a2, a3, a4, a5, a6, a7, a8, a9, a10, a11, a12], _ => exact ⟨_, _, _, _, _, _, _, _, _, _, _, _, _, rfl⟩
theorem ab_of {n : Nat} {cs : List Value} {y : DataW H × List MemPlace} (h : DataW.trod enc Try.prog w base sp held n 41 cs = some y) : ∃ r : AbW, r.OK w ∧ cs = r.cells := by
  have hL := leaves_ok flat41 h
  obtain ⟨z0, e0, w0⟩ := leaf_int hL (j := 0) rfl
  obtain ⟨z1, e1, w1⟩ := leaf_int hL (j := 1) rfl
  obtain ⟨z2, e2, w2⟩ := leaf_int hL (j := 2) rfl
  obtain ⟨z3, e3, w3⟩ := leaf_int hL (j := 3) rfl
  obtain ⟨z4, e4, w4⟩ := leaf_int hL (j := 4) rfl
  obtain ⟨z5, e5, w5⟩ := leaf_int hL (j := 5) rfl
  obtain ⟨z6, e6, w6⟩ := leaf_int hL (j := 6) rfl
  obtain ⟨b7, e7⟩ := leaf_bool hL (j := 7) rfl
  obtain ⟨v8, n8, y8, e8, h8⟩ := hL.2 8 38 rfl
  obtain ⟨v9, n9, y9, e9, h9⟩ := hL.2 9 39 rfl
  obtain ⟨z10, e10, w10⟩ := leaf_int hL (j := 10) rfl
  obtain ⟨z11, e11, w11⟩ := leaf_int hL (j := 11) rfl
  obtain ⟨z12, e12, w12⟩ := leaf_int hL (j := 12) rfl
  obtain ⟨ta, tc, tB, tO, tg, rfl, t1, t2, t3, t4⟩ := ints_of h8
  obtain ⟨ca, cc, cB, cO, code, rfl, c1, c2, c3⟩ := code_of h9
  obtain ⟨a0, a1, a2, a3, a4, a5, a6, a7, a8, a9, a10, a11, a12, rfl⟩ := list13 hL.1
  simp only [List.getElem?_cons_zero, List.getElem?_cons_succ, Option.some.injEq] at e0 e1 e2 e3 e4 e5 e6 e7 e8 e9 e10 e11 e12
  subst e0 e1 e2 e3 e4 e5 e6 e7 e8 e9 e10 e11 e12
  refine ⟨⟨⟨z0, z1, z2, z3, z4, z5, z6, b7, tg, code, z10, z11, z12⟩, ta, tc, tB, tO, ca, cc, cB, cO⟩, ⟨⟨fun z hz => ?_, t3, by show (tg.length : Int) ≤ _; omega, by show (code.length : Int) ≤ _; omega⟩, t4, c3, t1, c1⟩, rfl⟩
  simp only [List.mem_cons, List.not_mem_nil, or_false] at hz
  rcases hz with rfl | rfl | rfl | rfl | rfl | rfl | rfl | rfl | rfl | rfl <;> assumption
/-- A card's cells, read. -/
theorem card_of {n : Nat} {cs : List Value} {y : DataW H × List MemPlace} (h : DataW.trod enc Try.prog w base sp held n 26 cs = some y) :
    ∃ D : Cx, D.OK w ∧ (.agg ⟨cs⟩ : Value) = D.val ∧ ∀ i, i < D.abs.length → (D.ab i).tg.length ≤ D.tc i ∧ (D.ab i).code.length ≤ D.cc i := by
  have hm := max_len
  have hL := leaves_ok flat26 h
  obtain ⟨nm, e0, w0⟩ := leaf_string hL (j := 0) rfl
  obtain ⟨z1, e1, w1⟩ := leaf_int hL (j := 1) rfl
  obtain ⟨z2, e2, w2⟩ := leaf_int hL (j := 2) rfl
  obtain ⟨z3, e3, w3⟩ := leaf_int hL (j := 3) rfl
  obtain ⟨z4, e4, w4⟩ := leaf_int hL (j := 4) rfl
  obtain ⟨z5, e5, w5⟩ := leaf_int hL (j := 5) rfl
  obtain ⟨z6, e6, w6⟩ := leaf_int hL (j := 6) rfl
  obtain ⟨z7, e7, w7⟩ := leaf_int hL (j := 7) rfl
  obtain ⟨z8, e8, w8⟩ := leaf_int hL (j := 8) rfl
  obtain ⟨z9, e9, w9⟩ := leaf_int hL (j := 9) rfl
  obtain ⟨v10, n10, y10, e10, h10⟩ := hL.2 10 24 rfl
  have hlen := hL.1
  have hints : ∀ z ∈ [z1, z2, z3, z4, z5, z6, z7, z8, z9], I64 z := by
    intro z hz
    simp only [List.mem_cons, List.not_mem_nil, or_false] at hz
    rcases hz with rfl | rfl | rfl | rfl | rfl | rfl | rfl | rfl | rfl <;> assumption
  have hcs : ∀ v, v10 = v → cs = [.string nm, .int .i64 z1, .int .i64 z2, .int .i64 z3, .int .i64 z4, .int .i64 z5, .int .i64 z6, .int .i64 z7, .int .i64 z8, .int .i64 z9, v] := by
    intro v hv
    subst hv
    match cs, hlen with
    | [a0, a1, a2, a3, a4, a5, a6, a7, a8, a9, a10], _ =>
      simp only [List.getElem?_cons_zero, List.getElem?_cons_succ, Option.some.injEq] at e0 e1 e2 e3 e4 e5 e6 e7 e8 e9 e10
      subst e0 e1 e2 e3 e4 e5 e6 e7 e8 e9 e10
      rfl
  have hc41 : Try.prog.cellsOf 41 = 13 := by kernel_rfl
  rcases Go.Deep.open_slice Try.underlying24 h10 with ⟨hs, _⟩ | ⟨a, len, cap, m, n', DD, Pl, hs, _, hl, hc, hmm, _, hall⟩
  · simp only [List.cons.injEq, and_true] at hs
    rw [hcs _ hs]
    exact ⟨⟨nm, z1, z2, z3, z4, z5, z6, z7, z8, z9, [], none, 0, 0, 0, fun _ => none, fun _ => 0, fun _ => 0, fun _ => 0, fun _ => none, fun _ => 0, fun _ => 0, fun _ => 0⟩,
      ⟨fun i hi => by simp at hi, fun i j hi => by simp at hi, fun i hi => by simp at hi, hints, w0, (by show ((0 : Nat) : Int) ≤ _; decide), fun x hx => by cases hx⟩, rfl, fun i hi => by simp at hi⟩
  · simp only [List.cons.injEq, and_true] at hs
    rw [hcs _ hs]
    have hlm : len ≤ m := by rw [hmm]; split <;> omega
    rw [hc41] at hall
    have each : ∀ i, ∃ r : AbW, i < len → r.OK w ∧ ∀ j v, r.cells[j]? = some v → w.cell? ((a.add (i * 13)).add j) = some v := fun i => by
      by_cases hi : i < len
      · obtain ⟨cs', h1, h2⟩ := hall i (by omega)
        obtain ⟨r, hr, rfl⟩ := ab_of h2
        obtain ⟨_, _, hcell⟩ := World.cells?_some h1
        refine ⟨r, fun _ => ⟨hr, fun j v hv => ?_⟩⟩
        have hj : j < 13 := by
          rcases Nat.lt_or_ge j 13 with g | g
          · exact g
          · rw [List.getElem?_eq_none (by show 13 ≤ j; exact g)] at hv; cases hv
        rw [hcell j hj, hv]
      · exact ⟨AbW.zero, fun h => absurd h hi⟩
    obtain ⟨f, hf⟩ := Classical.skolem.1 each
    have hab : ∀ i, i < len → ((List.range len).map fun i => (f i).x).getD i Ab.zero = (f i).x := fun i hi => by
      simp [List.getD_eq_getElem?_getD, hi]
    refine ⟨⟨nm, z1, z2, z3, z4, z5, z6, z7, z8, z9, (List.range len).map fun i => (f i).x, some a, cap, a.block, a.off, fun i => (f i).ta, fun i => (f i).tc, fun i => (f i).tB, fun i => (f i).tO, fun i => (f i).ca, fun i => (f i).cc, fun i => (f i).cB, fun i => (f i).cO⟩,
      ⟨fun i hi => ?_, fun i j hi hj => ?_, fun i hi => ?_, hints, w0, ?_, fun x hx => ?_⟩, ?_, fun i hi => ?_⟩
    · simp only [List.length_map, List.length_range] at hi
      obtain ⟨g1, g2⟩ := hf i hi
      obtain ⟨k1, k2⟩ := cell_lt ((hf 0 (by omega)).2 0 _ rfl)
      obtain ⟨B, O, spot⟩ := a
      have hspot : spot = none := by simpa [Addr.add] using k2
      subst hspot
      refine ⟨rfl, by simpa [Addr.add] using k1, fun j v hv => ?_⟩
      simp only [Cx.cells, Cx.ab, hab i hi] at hv
      have := g2 j v hv
      rw [Addr.add_lit, Addr.add_lit] at this
      exact this
    · simp only [List.length_map, List.length_range] at hi
      simp only [Cx.ab, hab i hi] at hj ⊢
      exact (hf i hi).1.tgs j hj
    · simp only [List.length_map, List.length_range] at hi
      simp only [Cx.ab, hab i hi]
      exact (hf i hi).1.code
    · simp only [List.length_map, List.length_range]
      omega
    · simp only [List.mem_map, List.mem_range] at hx
      obtain ⟨j, hj, rfl⟩ := hx
      exact (hf j hj).1.fits
    · simp [Cx.val]
    · simp only [List.length_map, List.length_range] at hi
      simp only [Cx.ab, hab i hi]
      exact ⟨(hf i hi).1.tcap, (hf i hi).1.ccap⟩
end
end
end Go.Proofs.Ytgbpkilegbechaa.cards
