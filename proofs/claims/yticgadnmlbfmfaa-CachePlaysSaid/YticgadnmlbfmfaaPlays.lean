/-
  'CachePlays' answers true, whatever the input: whatever cards there are (the first twelve count, with four abilities at most), and whatever is put into a cache's slots, taken and asked (the first fifty acts count), the program's cache and the document's tell the same, and the same slots are dirty. No condition.
-/
import Derived.OpenShut
import Derived.Deep.Slices
import Derived.Test.YticgadnmlbfmfaaRows
import Derived.WalkKit
import Derived.ProofKit
import Derived.Test.YticgadnmlbfmfaaTyc
namespace Go.Proofs.Yticgadnmlbfmfaa.cachePlays
open Go.Shelf Go.RowKit Go.Lib Go.Sort
noncomputable section
def repL (l : List TypeId) : Nat → List TypeId
  | 0 => []
  | n + 1 => l ++ repL l n
def flatL (f : TypeId → Option (List TypeId)) : Nat → List Field → Option (List TypeId)
  | _, [] => some []
  | o, fd :: fs => match Nat.beq fd.offset o, f fd.type with
    | true, some l => match flatL f (o + l.length) fs with
      | some r => some (l ++ r)
      | none => none
    | _, _ => none
def isLeafD : TypeDesc → Bool
  | .int _ | .bool | .string | .slice _ => true
  | _ => false
/-- The leaves of a type. -/
def flatT (P : Program) : Nat → TypeId → Option (List TypeId)
  | 0, _ => none
  | d + 1, t => match P.underlying t with
    | some (.struct fs) => match flatL (flatT P d) 0 fs.toList with
      | some l => match Nat.beq (P.cellsOf t) l.length with
        | true => some l
        | false => none
      | none => none
    | some (.array n e) => match flatT P d e with
      | some l => match Nat.beq (P.cellsOf t) (repL l n).length with
        | true => some (repL l n)
        | false => none
      | none => none
    | some d => match isLeafD d, Nat.beq (P.cellsOf t) 1 with
      | true, true => some [t]
      | _, _ => none
    | none => none
theorem repL_length (l : List TypeId) : ∀ n, (repL l n).length = n * l.length
  | 0 => by simp [repL]
  | n + 1 => by simp [repL, repL_length l n, Nat.succ_mul, Nat.add_comm]
theorem flatT_cells {P : Program} : ∀ {d : Nat} {t : TypeId} {l : List TypeId}, flatT P d t = some l → P.cellsOf t = l.length
  | 0, t, l, h => by simp [flatT] at h
  | d + 1, t, l, h => by
    simp only [flatT] at h
    split at h
    · split at h
      · split at h
        · rename_i hb
          simp only [Option.some.injEq] at h
          subst h
          exact Nat.eq_of_beq_eq_true hb
        · cases h
      · cases h
    · split at h
      · split at h
        · rename_i hb
          simp only [Option.some.injEq] at h
          subst h
          exact Nat.eq_of_beq_eq_true hb
        · cases h
      · cases h
    · split at h
      · rename_i hb
        simp only [Option.some.injEq] at h
        subst h
        exact Nat.eq_of_beq_eq_true hb
      · cases h
    · cases h
theorem trod_one {H : Type} {enc : TypeId × Value → H} {P : Program} {w : World} {base : Nat} {sp : Nat → Bool} {held : Bool} {n : Nat} {t : TypeId} {d : TypeDesc} (hu : P.underlying t = some d) (hd : isLeafD d = true) {cs : List Value} {y : DataW H × List MemPlace} (hy : DataW.trod enc P w base sp held n t cs = some y) : cs.length = 1 := by
  cases d <;> simp [isLeafD] at hd
  · obtain ⟨b, rfl, _⟩ := DataW.trod_bool hu hy; rfl
  · obtain ⟨b, rfl, _⟩ := DataW.trod_int hu hy; rfl
  · obtain ⟨b, rfl, _⟩ := DataW.trod_string hu hy; rfl
  · rcases DataW.trod_slice hu hy with ⟨rfl, _⟩ | ⟨_, _, _, _, _, _, _, rfl, _⟩ <;> rfl
section
variable {H : Type} {enc : TypeId × Value → H} {P : Program} {w : World} {base : Nat} {sp : Nat → Bool} {held : Bool}
/-- Leaf by leaf. -/
def LeavesOK (enc : TypeId × Value → H) (P : Program) (w : World) (base : Nat) (sp : Nat → Bool) (held : Bool) (ts : List TypeId) (cs : List Value) : Prop :=
  cs.length = ts.length ∧ ∀ (j : Nat) (u : TypeId), ts[j]? = some u → ∃ (v : Value) (n : Nat) (y : DataW H × List MemPlace), cs[j]? = some v ∧ DataW.trod enc P w base sp held n u [v] = some y
theorem LeavesOK.append {ts us : List TypeId} {cs : List Value} (h1 : LeavesOK enc P w base sp held ts (cs.take ts.length)) (h2 : LeavesOK enc P w base sp held us (cs.drop ts.length)) (hl : ts.length ≤ cs.length) : LeavesOK enc P w base sp held (ts ++ us) cs := by
  refine ⟨?_, fun j u hj => ?_⟩
  · have := h2.1
    simp at this ⊢
    omega
  · rw [List.getElem?_append] at hj
    split at hj
    · rename_i hlt
      obtain ⟨v, n, y, g1, g2⟩ := h1.2 j u hj
      rw [List.getElem?_take, if_pos hlt] at g1
      exact ⟨v, n, y, g1, g2⟩
    · rename_i hlt
      obtain ⟨v, n, y, g1, g2⟩ := h2.2 _ u hj
      rw [List.getElem?_drop, show ts.length + (j - ts.length) = j by omega] at g1
      exact ⟨v, n, y, g1, g2⟩
theorem flatL_ok {d : Nat} (ih : ∀ {t l n} {cs : List Value} {y : DataW H × List MemPlace}, flatT P d t = some l → DataW.trod enc P w base sp held n t cs = some y → LeavesOK enc P w base sp held l cs) {n : Nat} {cs : List Value} :
    ∀ (fs : List Field) (o : Nat) (l : List TypeId), flatL (flatT P d) o fs = some l → o + l.length = cs.length → (∀ (i : Nat) (f : Field), fs[i]? = some f → ∃ y, DataW.trod enc P w base sp held n f.type ((cs.drop f.offset).take (P.cellsOf f.type)) = some y) → LeavesOK enc P w base sp held l (cs.drop o)
  | [], o, l, h, hl, _ => by
    simp only [flatL, Option.some.injEq] at h
    subst h
    refine ⟨by simp at hl ⊢; omega, fun j u hj => by simp at hj⟩
  | fd :: fs, o, l, h, hl, hx => by
    simp only [flatL] at h
    split at h
    · rename_i l0 hb h0
      split at h
      · rename_i r hr
        simp only [Option.some.injEq] at h
        subst h
        have ho := Nat.eq_of_beq_eq_true hb
        have hc := flatT_cells h0
        simp only [List.length_append] at hl
        obtain ⟨y, hy⟩ := hx 0 fd rfl
        rw [ho, hc] at hy
        have h1 := ih h0 hy
        have h2 := flatL_ok ih fs (o + l0.length) r hr (by omega) (fun i f hf => hx (i + 1) f hf)
        refine LeavesOK.append h1 ?_ (by simp; omega)
        rw [List.drop_drop]
        exact h2
      · cases h
    · cases h
theorem repL_ok {l : List TypeId} : ∀ {n : Nat} {cs : List Value}, cs.length = n * l.length → (∀ i, i < n → LeavesOK enc P w base sp held l ((cs.drop (i * l.length)).take l.length)) → LeavesOK enc P w base sp held (repL l n) cs
  | 0, cs, hl, _ => by
    refine ⟨by simpa [repL] using hl, fun j u hj => by simp [repL] at hj⟩
  | n + 1, cs, hl, h => by
    have hl' : cs.length = n * l.length + l.length := by rw [hl, Nat.succ_mul]
    simp only [repL]
    refine LeavesOK.append ?_ ?_ (by omega)
    · have := h 0 (by omega)
      simpa using this
    · refine repL_ok (by simp; omega) fun i hi => ?_
      have := h (i + 1) (by omega)
      rw [List.drop_drop]
      rw [show l.length + i * l.length = (i + 1) * l.length by rw [Nat.succ_mul]; omega]
      exact this
theorem leaves_ok : ∀ {d : Nat} {t : TypeId} {l : List TypeId} {n : Nat} {cs : List Value} {y : DataW H × List MemPlace}, flatT P d t = some l → DataW.trod enc P w base sp held n t cs = some y → LeavesOK enc P w base sp held l cs
  | 0, t, l, n, cs, y, h, _ => by simp [flatT] at h
  | d + 1, t, l, n, cs, y, h, hy => by
    have hcl := flatT_cells h
    simp only [flatT] at h
    split at h
    · rename_i fs hu
      split at h
      · rename_i l' hl'
        split at h
        · simp only [Option.some.injEq] at h
          subst h
          obtain ⟨xs, m, _, _, hlen, hxs, hall⟩ := DataW.trod_struct hu hy
          have := flatL_ok (H := H) (enc := enc) (P := P) (w := w) (base := base) (sp := sp) (held := held) (d := d) (fun h1 h2 => leaves_ok h1 h2) (n := m) (cs := cs) fs.toList 0 l' hl' (by rw [Nat.zero_add, hlen, hcl]) (fun i f hf => by
            have hi : i < xs.length := by
              rw [hxs]
              simpa using (List.getElem?_eq_some_iff.1 hf).1
            have := hall i f (by simpa using hf)
            rw [List.getElem?_eq_getElem hi] at this
            exact ⟨_, this⟩)
          simpa using this
        · cases h
      · cases h
    · rename_i k e hu
      split at h
      · rename_i l' hl'
        split at h
        · simp only [Option.some.injEq] at h
          subst h
          obtain ⟨xs, m, _, _, hlen, hxs, hall⟩ := DataW.trod_array hu hy
          have hce := flatT_cells hl'
          refine repL_ok (by rw [hlen, hcl, repL_length]) fun i hi => ?_
          have := hall i hi
          rw [List.getElem?_eq_getElem (by omega), hce] at this
          exact leaves_ok hl' this
        · cases h
      · cases h
    · rename_i dd hns hna hu
      split at h
      · rename_i hb _
        simp only [Option.some.injEq] at h
        subst h
        have hlen : cs.length = 1 := trod_one hu hb hy
        match cs, hlen with
        | [v], _ => exact ⟨rfl, fun j u hj => by
            match j with
            | 0 => cases hj; exact ⟨v, _, _, rfl, hy⟩
            | j + 1 => simp at hj⟩
      · cases h
    · cases h
theorem leaf_int {ts : List TypeId} {cs : List Value} (h : LeavesOK enc P w base sp held ts cs) {j : Nat} {t : TypeId} (hj : ts[j]? = some t) (ht : P.underlying t = some (.int .i64)) : ∃ z, cs[j]? = some (.int .i64 z) := by
  obtain ⟨v, n, y, h1, h2⟩ := h.2 j t hj
  obtain ⟨z, e, _, _⟩ := DataW.trod_int ht h2
  simp only [List.cons.injEq, and_true] at e
  exact ⟨z, by rw [h1, e]⟩
theorem leaf_bool {ts : List TypeId} {cs : List Value} (h : LeavesOK enc P w base sp held ts cs) {j : Nat} {t : TypeId} (hj : ts[j]? = some t) (ht : P.underlying t = some .bool) : ∃ z, cs[j]? = some (.bool z) := by
  obtain ⟨v, n, y, h1, h2⟩ := h.2 j t hj
  obtain ⟨z, e, _⟩ := DataW.trod_bool ht h2
  simp only [List.cons.injEq, and_true] at e
  exact ⟨z, by rw [h1, e]⟩
theorem leaf_str {ts : List TypeId} {cs : List Value} (h : LeavesOK enc P w base sp held ts cs) {j : Nat} {t : TypeId} (hj : ts[j]? = some t) (ht : P.underlying t = some .string) : ∃ z, cs[j]? = some (.string z) := by
  obtain ⟨v, n, y, h1, h2⟩ := h.2 j t hj
  obtain ⟨z, e, _, _⟩ := DataW.trod_string ht h2
  simp only [List.cons.injEq, and_true] at e
  exact ⟨z, by rw [h1, e]⟩
def leafs (P : Program) (ts : List TypeId) : Bool := ts.all fun u => match P.underlying u with
  | some d => isLeafD d
  | none => false
theorem leaf_one {ts : List TypeId} {cs : List Value} (h : LeavesOK enc P w base sp held ts cs) (hl : leafs P ts = true) : ∀ v ∈ cs, v.oneCell' = true := by
  intro v hv
  obtain ⟨j, hj, rfl⟩ := List.getElem_of_mem hv
  have hj' : j < ts.length := by rw [← h.1]; exact hj
  obtain ⟨v, n, y, h1, h2⟩ := h.2 j ts[j] (List.getElem?_eq_getElem hj')
  rw [List.getElem?_eq_getElem hj] at h1
  injection h1 with h1
  rw [h1]
  have := List.all_eq_true.1 hl ts[j] (List.getElem_mem hj')
  split at this
  · rename_i d hu
    cases d <;> simp [isLeafD] at this
    · obtain ⟨z, e, _⟩ := DataW.trod_bool hu h2
      simp only [List.cons.injEq, and_true] at e
      rw [e]; rfl
    · obtain ⟨z, e, _⟩ := DataW.trod_int hu h2
      simp only [List.cons.injEq, and_true] at e
      rw [e]; rfl
    · obtain ⟨z, e, _⟩ := DataW.trod_string hu h2
      simp only [List.cons.injEq, and_true] at e
      rw [e]; rfl
    · rcases DataW.trod_slice hu h2 with ⟨e, _⟩ | ⟨_, _, _, _, _, _, _, e, _⟩
      · simp only [List.cons.injEq, and_true] at e
        rw [e]; rfl
      · simp only [List.cons.injEq, and_true] at e
        rw [e]; rfl
  · cases this
end
section
variable {H : Type} {enc : TypeId × Value → H} {P : Program} {w : World}
/-- A slice that came in: its elements, leaf by leaf. -/
theorem rows_of {t e : TypeId} {ts : List TypeId} {n : Nat} {v : Value} {y : DataW H × List MemPlace} (ht : P.underlying t = some (.slice e)) (hf : flatT P 9 e = some ts) (hp : 0 < ts.length) (h : DataW.trod enc P w 0 (fun _ => true) true n t [v] = some y) :
    ∃ a len cap, ∃ X : Nat → List Value, v = .slice a len cap ∧ len ≤ cap ∧ (∀ i, i < len → LeavesOK enc P w 0 (fun _ => true) true ts (X i)) ∧ Rows w a ts.length ((List.range len).map fun i => (X i).toArray) := by
  have hce := flatT_cells hf
  rcases Go.Deep.open_slice ht h with ⟨hs, _⟩ | ⟨ad, len, cap, m, n', DD, Pl, hs, _, hl, hc, hmm, _, hall⟩
  · simp only [List.cons.injEq, and_true] at hs
    exact ⟨none, 0, 0, fun _ => [], hs, Nat.le_refl _, fun i hi => by omega, .inl rfl⟩
  · simp only [List.cons.injEq, and_true] at hs
    simp only [if_true] at hmm
    subst hmm
    have each : ∀ i, ∃ X : List Value, i < len → LeavesOK enc P w 0 (fun _ => true) true ts X ∧ ∀ j, j < ts.length → w.cell? ((ad.add (i * ts.length)).add j) = X[j]? := fun i => by
      by_cases hi : i < len
      · obtain ⟨cs', h1, h2⟩ := hall i (Nat.lt_of_lt_of_le hi hl)
        obtain ⟨_, c2, c3⟩ := World.cells?_some h1
        rw [hce] at c3
        exact ⟨cs', fun _ => ⟨leaves_ok hf h2, c3⟩⟩
      · exact ⟨[], fun h => absurd h hi⟩
    obtain ⟨X, hX⟩ := Classical.skolem.1 each
    refine ⟨some ad, len, m, X, hs, hl, fun i hi => (hX i hi).1, ?_⟩
    rcases Nat.eq_zero_or_pos len with h0 | h0
    · subst h0
      exact .inl rfl
    · obtain ⟨k1, k2⟩ := hX 0 h0
      have hcell := k2 0 hp
      rw [List.getElem?_eq_getElem (by rw [k1.1]; exact hp)] at hcell
      have hsp := World.cell?_spot hcell
      obtain ⟨B, O, spot⟩ := ad
      have hspot : spot = none := by simpa [Addr.add] using hsp
      subst hspot
      have hB : B < w.heap.size := by
        rw [Addr.add_lit, Addr.add_lit] at hcell
        exact World.block_lt_of_cell? w _ hcell
      refine .inr ⟨B, O, rfl, hB, fun i x hx j v hv => ?_⟩
      obtain ⟨hi, rfl⟩ := List.getElem?_eq_some_iff.1 hx
      simp only [List.length_map, List.length_range] at hi
      simp only [List.getElem_map, List.getElem_range] at hv
      have hv' : (X i)[j]? = some v := by simpa using hv
      obtain ⟨q1, q2⟩ := hX i hi
      have hj : j < ts.length := by rw [← q1.1]; exact (List.getElem?_eq_some_iff.1 hv').1
      have := q2 j hj
      rw [Addr.add_lit, Addr.add_lit, hv'] at this
      exact this
theorem leaf_sl {ts : List TypeId} {cs : List Value} (h : LeavesOK enc P w 0 (fun _ => true) true ts cs) {j : Nat} {t e : TypeId} {us : List TypeId} (hj : ts[j]? = some t) (ht : P.underlying t = some (.slice e)) (hf : flatT P 9 e = some us) (hp : 0 < us.length) : ∃ a len cap, ∃ X : Nat → List Value, cs[j]? = some (.slice a len cap) ∧ len ≤ cap ∧ (∀ i, i < len → LeavesOK enc P w 0 (fun _ => true) true us (X i)) ∧ Rows w a us.length ((List.range len).map fun i => (X i).toArray) := by
  obtain ⟨v, n, y, h1, h2⟩ := h.2 j t hj
  obtain ⟨a, len, cap, X, rfl, k1, k2, k3⟩ := rows_of ht hf hp h2
  exact ⟨a, len, cap, X, h1, k1, k2, k3⟩
theorem map_range {α β : Type} {f : Nat → α} {g : β → α} : ∀ {n : Nat}, (∀ i, i < n → ∃ b, f i = g b) → ∃ l : List β, l.length = n ∧ (List.range n).map f = l.map g ∧ ∀ i (hi : i < l.length), f i = g l[i]
  | 0, _ => ⟨[], rfl, rfl, fun i hi => by simp at hi⟩
  | n + 1, h => by
    obtain ⟨l, h1, h2, h3⟩ := map_range (f := f) (g := g) (n := n) fun i hi => h i (by omega)
    obtain ⟨b, hb⟩ := h n (by omega)
    refine ⟨l ++ [b], by simp [h1], by rw [List.range_succ, List.map_append, h2, List.map_append]; simp [hb], fun i hi => ?_⟩
    rcases Nat.lt_or_ge i l.length with hi' | hi'
    · rw [List.getElem_append_left hi']
      exact h3 i hi'
    · simp only [List.length_append, List.length_singleton] at hi
      obtain rfl : i = n := by omega
      rw [List.getElem_append_right hi']
      simpa using hb
theorem leaf_u8 {ts : List TypeId} {cs : List Value} {sp : Nat → Bool} {held : Bool} {base : Nat} (h : LeavesOK enc P w base sp held ts cs) {j : Nat} {t : TypeId} (hj : ts[j]? = some t) (ht : P.underlying t = some (.int .u8)) : ∃ z, cs[j]? = some (.int .u8 z) ∧ 0 ≤ z ∧ z < 256 := by
  obtain ⟨v, n, y, h1, h2⟩ := h.2 j t hj
  obtain ⟨z, e, _, hz⟩ := DataW.trod_int ht h2
  simp only [List.cons.injEq, and_true] at e
  refine ⟨z, by rw [h1, e], ?_⟩
  simp only [Lit.wf, Bool.and_eq_true, decide_eq_true_eq] at hz
  have hm : IntKind.u8.min = 0 := rfl
  have hM : IntKind.u8.max = 255 := rfl
  omega
theorem ons_of (h5 : P.underlying 5 = some (.int .u8)) (h22 : P.underlying 22 = some (.slice 32)) (hf : flatT P 9 32 = some [5, 5, 5, 5]) {n : Nat} {v : Value} {y : DataW H × List MemPlace} (h : DataW.trod enc P w 0 (fun _ => true) true n 22 [v] = some y) :
    ∃ (L : List On) (la : Option Addr) (lc : Nat), v = .slice la L.length lc ∧ L.length ≤ lc ∧ RowsZ (fun b => b < w.heap.size) w la 4 (L.map encO) ∧ ∀ (i : Nat) x, L[i]? = some x → x.ok := by
  obtain ⟨a, len, cap, X, rfl, hl, hX, hR⟩ := rows_of h22 hf (by decide) h
  have each : ∀ i, i < len → ∃ x : {x : On // x.ok}, (X i).toArray = (encO x.1).toArray := fun i hi => by
    obtain ⟨z0, a0, b0⟩ := leaf_u8 (hX i hi) (j := 0) rfl h5
    obtain ⟨z1, a1, b1⟩ := leaf_u8 (hX i hi) (j := 1) rfl h5
    obtain ⟨z2, a2, b2⟩ := leaf_u8 (hX i hi) (j := 2) rfl h5
    obtain ⟨z3, a3, b3⟩ := leaf_u8 (hX i hi) (j := 3) rfl h5
    refine ⟨⟨⟨z0, z1, z2, z3⟩, ⟨b0, b1, b2, b3⟩⟩, ?_⟩
    congr 1
    have hlen : (X i).length = 4 := (hX i hi).1
    refine List.ext_getElem? fun j => ?_
    rcases Nat.lt_or_ge j 4 with hj | hj
    · obtain rfl | rfl | rfl | rfl : j = 0 ∨ j = 1 ∨ j = 2 ∨ j = 3 := by omega
      · exact a0
      · exact a1
      · exact a2
      · exact a3
    · rw [List.getElem?_eq_none (by omega), List.getElem?_eq_none (by show 4 ≤ j; omega)]
  obtain ⟨l, h1, h2, _⟩ := map_range each
  rw [h2] at hR
  refine ⟨l.map (·.1), a, cap, by rw [List.length_map, h1], by rw [List.length_map, h1]; exact hl, ?_, fun i x hx => ?_⟩
  · rcases hR with hR | ⟨B, O, e, hB, hc⟩
    · refine .inl ?_
      rw [List.map_eq_nil_iff] at hR
      rw [hR]
      rfl
    · refine .inr ⟨B, O, e, hB, hB, fun i x hx j v hv => ?_⟩
      rw [List.map_map, List.getElem?_map] at hx
      obtain ⟨y, hy, rfl⟩ := Option.map_eq_some_iff.1 hx
      exact hc i (encO y.1).toArray (by rw [List.getElem?_map, hy]; rfl) j v (by rw [List.getElem?_toArray]; exact hv)
  · rw [List.getElem?_map] at hx
    obtain ⟨y, _, rfl⟩ := Option.map_eq_some_iff.1 hx
    exact y.2
end
end
end Go.Proofs.Yticgadnmlbfmfaa.cachePlays
/-
  Chapter 25: CachePlays, of this program; what came in, as it lies in memory.
-/
namespace Go.Proofs.Yticgadnmlbfmfaa.cachePlays
open Go.Shelf Go.RowKit Go.Lib Go.Sort Go.Maps
def zv46 : List Value := .int .i64 0 :: .int .i64 0 :: zv30
theorem layW : LayW Try.prog 16 zv46 where
  f4 := Try.func4
  e7 := enters_of Try.func7 (by kernel_rfl) rfl
  e10 := enters_of Try.func10 (by kernel_rfl) rfl
  e11 := enters_of Try.func11 (by kernel_rfl) rfl
  e12 := enters_of Try.func12 (by kernel_rfl) rfl
  e13 := enters_of Try.func13 (by kernel_rfl) rfl
  e14 := enters_of Try.func14 (by kernel_rfl) rfl
  e15 := enters_of Try.func15 (by kernel_rfl) rfl
  e16 := enters_of Try.func16 (by kernel_rfl) rfl
  e17 := enters_of Try.func17 (by kernel_rfl) rfl
  e18 := enters_of Try.func18 (by kernel_rfl) rfl
  e19 := enters_of Try.func19 (by kernel_rfl) rfl
  e20 := enters_of Try.func20 (by kernel_rfl) rfl
  e21 := enters_of Try.func21 (by kernel_rfl) rfl
  t41 := Try.underlying41
  a41 := Try.isAgg41
  z41 := Try.sizeOf41
  t46 := Try.underlying46
  a46 := Try.isAgg46
  z46 := Try.sizeOf46
  v46 := fun w => (Try.zeroValue46 w).trans rfl
  eq36 := eq36
  g36 := g36
theorem lawPT : LawP Try.prog where
  pl := fun h cc => pool_calls layQ layV rfl Try.func13 rfl (zHdR (fun _ => True) default).c.one i82T h cc
  nw := fun h cc => new_calls h cc
  rn := fun {Z w W ca cards} h cc hB => (rnew_calls layV z59_size (by rw [z59_eq]; exact List.cons_ne_nil _ _) Try.sizeOf26 ca cards.length cc W).mono fun e w' hh => by
    obtain ⟨rfl, rfl⟩ := hh
    exact ⟨rfl, rc0_at h cc hB, (Gr.refl W).alloc _⟩
  sh := fun h => short_calls layQ layV rcqT rfl Try.func15 rfl h
  pu := fun h _ _ hO hx i => tw_put h hO hx i
  rpu := fun h _ _ hO i => rtw_put h hO i
  ta := fun h i => tw_take h i
  rta := fun h i => rtw_take h i
  of := fun h i => tw_of h i
  rof := fun h hg _ _ _ _ _ hv hz hA => rtw_of h hg hv hz hA
  di := fun h => by
    obtain ⟨Z, c, _⟩ := h.k
    exact dirty_calls c
  ha := fun hb _ hi w => has_calls hb (by omega) (by omega) w
  wo := works_calls
theorem law4T {w : World} {ca la : Option Addr} {cards : List Cd} {l : List Ac} (hC : CsI w ca cards) (hL : AsI w la l) (cc lc : Nat) : Calls Try.prog 4 #[.slice ca cards.length cc, .slice la l.length lc] w fun e w' => e = .returned (.bool true) ∧ Below w.heap.size w w' :=
  law4_calls layQ layV layW lawPT rfl rfl rfl (by kernel_rfl) hC hL cc lc
noncomputable section
section
variable {H : Type} {enc : TypeId × Value → H} {w : World}
def ts89 : List TypeId := [3, 3, 3, 3, 3, 3, 3, 4, 69, 87, 3, 3, 3]
def ts82 : List TypeId := [9, 3, 3, 3, 3, 3, 3, 3, 3, 3, 80]
def ts30 : List TypeId := [3, 3, 3, 3, 3, 4, 4, 4, 3, 3, 3, 3, 4, 28]
theorem rows_z {a : Option Addr} {k n : Nat} {X : Nat → List Value} (h : Rows w a k ((List.range n).map fun i => (X i).toArray)) : RowsZ (fun b => b < w.heap.size) w a k ((List.range n).map X) := by
  rcases h with h | ⟨B, O, e, hB, hc⟩
  · refine .inl ?_
    rw [List.map_eq_nil_iff] at h ⊢
    exact h
  · refine .inr ⟨B, O, e, hB, hB, fun i x hx j v hv => ?_⟩
    rw [List.getElem?_map] at hx
    obtain ⟨y, hy, rfl⟩ := Option.map_eq_some_iff.1 hx
    exact hc i (X y).toArray (by rw [List.getElem?_map, hy]; rfl) j v (by rw [List.getElem?_toArray]; exact hv)
theorem pick {α : Type} [Inhabited α] {n : Nat} {p : Nat → α → Prop} (h : ∀ i, i < n → ∃ x, p i x) : ∃ l : List α, l.length = n ∧ ∀ i x, l[i]? = some x → i < n ∧ p i x := by
  have h' : ∀ i, ∃ x, i < n → p i x := fun i => by
    by_cases hi : i < n
    · obtain ⟨x, hx⟩ := h i hi
      exact ⟨x, fun _ => hx⟩
    · exact ⟨default, fun hh => absurd hh hi⟩
  obtain ⟨f, hf⟩ := Classical.skolem.1 h'
  refine ⟨(List.range n).map f, by simp, fun i x hx => ?_⟩
  rw [List.getElem?_map] at hx
  obtain ⟨y, hy, rfl⟩ := Option.map_eq_some_iff.1 hx
  obtain ⟨hi, he⟩ := List.getElem?_eq_some_iff.1 hy
  rw [List.getElem_range] at he
  rw [List.length_range] at hi
  subst he
  exact ⟨hi, hf i hi⟩
instance : Inhabited Ab := ⟨⟨0, 0, 0, 0, 0⟩⟩
instance : Inhabited Cd := ⟨zCd⟩
instance : Inhabited Ac := ⟨⟨0, 0, zHd⟩⟩
theorem ab_of {r : List Value} (h : LeavesOK enc Try.prog w 0 (fun _ => true) true ts89 r) : ∃ x, AbR r x := by
  obtain ⟨z0, a0⟩ := leaf_int h (j := 0) rfl Try.underlying3
  obtain ⟨z2, a2⟩ := leaf_int h (j := 2) rfl Try.underlying3
  obtain ⟨z10, a10⟩ := leaf_int h (j := 10) rfl Try.underlying3
  obtain ⟨z11, a11⟩ := leaf_int h (j := 11) rfl Try.underlying3
  obtain ⟨z12, a12⟩ := leaf_int h (j := 12) rfl Try.underlying3
  exact ⟨⟨z0, z2, z10, z11, z12⟩, h.1, leaf_one h (by kernel_rfl), a0, a2, a10, a11, a12⟩
theorem cd_of {r : List Value} (h : LeavesOK enc Try.prog w 0 (fun _ => true) true ts82 r) : ∃ c, CdI (fun b => b < w.heap.size) w r c := by
  obtain ⟨z1, a1⟩ := leaf_int h (j := 1) rfl Try.underlying3
  obtain ⟨z7, a7⟩ := leaf_int h (j := 7) rfl Try.underlying3
  obtain ⟨z8, a8⟩ := leaf_int h (j := 8) rfl Try.underlying3
  obtain ⟨z9, a9⟩ := leaf_int h (j := 9) rfl Try.underlying3
  obtain ⟨a, len, cap, X, a10, hl, hX, hR⟩ := leaf_sl h (j := 10) rfl Try.underlying80 (us := ts89) (by kernel_rfl) (by decide)
  obtain ⟨l, l1, l2⟩ := pick (n := len) (p := fun i x => AbR (X i) x) fun i hi => ab_of (hX i hi)
  refine ⟨⟨z1, z7, z8, z9, l⟩, h.1, leaf_one h (by kernel_rfl), a1, a7, a8, a9, ⟨a, cap, (List.range len).map X, ?_, ?_, rows_z hR, ?_, fun i r x hr hx => ?_⟩⟩
  · show r[10]? = some (.slice a l.length cap)
    rw [l1]
    exact a10
  · show l.length ≤ cap
    rw [l1]
    exact hl
  · show _ = l.length
    rw [l1]
    simp
  · obtain ⟨hi, hx⟩ := l2 i x hx
    rw [List.getElem?_map, List.getElem?_range hi] at hr
    cases hr
    exact hx
theorem ob_of {r : List Value} (h : LeavesOK enc Try.prog w 0 (fun _ => true) true ts30 r) : ∃ x, ObI (fun b => b < w.heap.size) w r x := by
  obtain ⟨z1, a1⟩ := leaf_int h (j := 1) rfl Try.underlying3
  obtain ⟨z3, a3⟩ := leaf_int h (j := 3) rfl Try.underlying3
  obtain ⟨z9, a9⟩ := leaf_int h (j := 9) rfl Try.underlying3
  obtain ⟨a, len, cap, X, a13, hl, hX, hR⟩ := leaf_sl h (j := 13) rfl Try.underlying28 (us := [3, 3, 3, 3]) (by kernel_rfl) (by decide)
  have each : ∀ i, i < len → ∃ e : Ef, X i = encE e := fun i hi => by
    obtain ⟨y0, b0⟩ := leaf_int (hX i hi) (j := 0) rfl Try.underlying3
    obtain ⟨y1, b1⟩ := leaf_int (hX i hi) (j := 1) rfl Try.underlying3
    obtain ⟨y2, b2⟩ := leaf_int (hX i hi) (j := 2) rfl Try.underlying3
    obtain ⟨y3, b3⟩ := leaf_int (hX i hi) (j := 3) rfl Try.underlying3
    refine ⟨(y0, y1, y2, y3), ?_⟩
    have hlen : (X i).length = 4 := (hX i hi).1
    refine List.ext_getElem? fun j => ?_
    rcases Nat.lt_or_ge j 4 with hj | hj
    · obtain rfl | rfl | rfl | rfl : j = 0 ∨ j = 1 ∨ j = 2 ∨ j = 3 := by omega
      · exact b0
      · exact b1
      · exact b2
      · exact b3
    · rw [List.getElem?_eq_none (by omega), List.getElem?_eq_none (by show 4 ≤ j; omega)]
  obtain ⟨l, l1, l2, _⟩ := map_range each
  refine ⟨⟨z1, z3, z9, l, zCd⟩, h.1, leaf_one h (by kernel_rfl), a1, a3, a9, ⟨a, cap, ?_, ?_, ?_⟩⟩
  · show r[13]? = some (.slice a l.length cap)
    rw [l1]
    exact a13
  · show l.length ≤ cap
    rw [l1]
    exact hl
  · have := rows_z hR
    rw [l2] at this
    exact this
theorem ac_of {r : List Value} (h : LeavesOK enc Try.prog w 0 (fun _ => true) true (3 :: 3 :: ts30) r) : ∃ y, AcI w r y := by
  obtain ⟨z0, a0⟩ := leaf_int h (j := 0) rfl Try.underlying3
  obtain ⟨z1, a1⟩ := leaf_int h (j := 1) rfl Try.underlying3
  have hl : r.length = 16 := h.1
  match r, hl, h, a0, a1 with
  | v0 :: v1 :: ob, hl, h, a0, a1 =>
    have a0' : v0 = .int .i64 z0 := by simpa using a0
    have a1' : v1 = .int .i64 z1 := by simpa using a1
    subst a0' a1'
    have ho : LeavesOK enc Try.prog w 0 (fun _ => true) true ts30 ob := ⟨by simpa using h.1, fun j u hj => h.2 (j + 2) u hj⟩
    obtain ⟨x, hx⟩ := ob_of ho
    exact ⟨⟨z0, z1, x⟩, ob, rfl, hx⟩
theorem cs_of {n : Nat} {v : Value} {y : DataW H × List MemPlace} (h : DataW.trod enc Try.prog w 0 (fun _ => true) true n 26 [v] = some y) : ∃ (L : List Cd) (ca : Option Addr) (cc : Nat), v = .slice ca L.length cc ∧ CsI w ca L := by
  obtain ⟨a, len, cap, X, rfl, hl, hX, hR⟩ := rows_of Try.underlying26 (ts := ts82) (by kernel_rfl) (by decide) h
  obtain ⟨l, l1, l2⟩ := pick (n := len) (p := fun i x => CdI (fun b => b < w.heap.size) w (X i) x) fun i hi => cd_of (hX i hi)
  refine ⟨l, a, cap, by rw [l1], ⟨(List.range len).map X, rows_z hR, by rw [l1]; simp, fun i r x hr hx => ?_⟩⟩
  obtain ⟨hi, hx⟩ := l2 i x hx
  rw [List.getElem?_map, List.getElem?_range hi] at hr
  cases hr
  exact hx
theorem as_of {n : Nat} {v : Value} {y : DataW H × List MemPlace} (h : DataW.trod enc Try.prog w 0 (fun _ => true) true n 41 [v] = some y) : ∃ (L : List Ac) (la : Option Addr) (lc : Nat), v = .slice la L.length lc ∧ AsI w la L := by
  obtain ⟨a, len, cap, X, rfl, hl, hX, hR⟩ := rows_of Try.underlying41 (ts := 3 :: 3 :: ts30) (by kernel_rfl) (by decide) h
  obtain ⟨l, l1, l2⟩ := pick (n := len) (p := fun i x => AcI w (X i) x) fun i hi => ac_of (hX i hi)
  refine ⟨l, a, cap, by rw [l1], ⟨(List.range len).map X, rows_z hR, by rw [l1]; simp, fun i r x hr hx => ?_⟩⟩
  obtain ⟨hi, hx⟩ := l2 i x hx
  rw [List.getElem?_map, List.getElem?_range hi] at hr
  cases hr
  exact hx
end
end
end Go.Proofs.Yticgadnmlbfmfaa.cachePlays
/-
  'CachePlays' answers true, whatever the input: whatever cards there are (the first twelve count, with four abilities at most), and whatever is put into a cache's slots, taken and asked (the first fifty acts count), the program's cache and the document's tell the same, and the same slots are dirty. No condition.
-/
namespace Go.Proofs.Yticgadnmlbfmfaa.cachePlays
open Go.RowKit Go.ChangeShapes Go.WideShapes Go.ChangeAt
theorem own4T : ownKnob Try.prog.godebug = none := by kernel_rfl
set_option maxRecDepth 100000 in
theorem lifted4 (os : Os) (started : os.Started) (H : Type) (enc : TypeId × Value → H) :
    ReturnsInHanded {} Try.checked os 4 .any (Yticgadnmlbfmfaa.Rows.cachePlaysSpec.pre6 enc Try.prog Try.f4 Yticgadnmlbfmfaa.Rows.cachePlaysRow.domain false) (Yticgadnmlbfmfaa.Rows.cachePlaysSpec.post enc Try.prog Try.f4 false true false false) := by
  refine returnsInHanded_of_change (C := Try.checked) own4T started (by kernel_rfl) Try.func4
    (ChangeSpec.witness6 (enc := enc) (C := Try.checked) false ⟨#[], #[.slice none 0 0, .slice none 0 0], []⟩ 8 (by kernel_rfl) (by kernel_rfl) (by kernel_rfl) (by kernel_rfl)) ?_
  intro W base args ds gs before hval0 hW hcnd _
  have hval : ∀ (j : Nat) t v, Try.f4.params[j]? = some t → args[j]? = some v → Value.okWide Try.prog W .any base t v := hval0
  have hW' := hW
  obtain ⟨p, q, hA0, hV, rfl, hfz, hnd⟩ := hW
  have hA : DataW.TrodAll enc Try.prog W 0 (fun _ => true) true Try.f4.params.toList args.toList ds p := hA0
  rw [Try.params4] at hA hval
  obtain ⟨v0, v1, d0, d1, p0, p1, rfl, rfl, rfl, h0, h1⟩ := trodAll_two hA
  obtain ⟨rfl, rfl⟩ := trodVars_none hV
  obtain ⟨a0, len, cap, rfl⟩ := okWide_slice Try.underlying26 (hval 0 26 v0 rfl rfl)
  obtain ⟨a1, len1, cap1, rfl⟩ := okWide_slice Try.underlying41 (hval 1 41 v1 rfl rfl)
  clear hA0 hval0
  simp only [List.append_nil] at hW'
  have hlt0 : ∀ x ∈ p0, x.block < W.heap.size := fun x hx => hW'.lt x (List.mem_append_left _ hx)
  have hlt1 : ∀ x ∈ p1, x.block < W.heap.size := fun x hx => hW'.lt x (List.mem_append_right _ hx)
  obtain ⟨fuel, hf⟩ := h0
  obtain ⟨fuel1, hf1⟩ := h1
  have hf' : DataW.trod enc Try.prog W 0 (fun _ => true) true fuel 26 [.slice a0 len cap] = some (d0, p0) := hf
  have hf1' : DataW.trod enc Try.prog W 0 (fun _ => true) true fuel1 41 [.slice a1 len1 cap1] = some (d1, p1) := hf1
  obtain ⟨L, ca, cc, e0, hC⟩ := cs_of hf'
  obtain ⟨A, la, lc, e1, hL⟩ := as_of hf1'
  have hl := law4T hC hL cc lc
  rw [← e0, ← e1] at hl
  refine hl.mono fun e W' ⟨he, hb⟩ => ?_
  subst he
  have hargs0 := Below.trod (by kernel_rfl) (by kernel_rfl) (of_decide_eq_true (by kernel_rfl)) (⟨fuel, hf⟩ : DataW.Trod enc Try.prog W 0 (fun _ => true) true 26 (.slice a0 len cap) d0 p0) hb hlt0
  have hargs1 := Below.trod (by kernel_rfl) (by kernel_rfl) (of_decide_eq_true (by kernel_rfl)) (⟨fuel1, hf1⟩ : DataW.Trod enc Try.prog W 0 (fun _ => true) true 41 (.slice a1 len1 cap1) d1 p1) hb hlt1
  exact ⟨_, rfl, _, _, _, [], p0 ++ p1, [], hW', trodAll_mk1 (shut_bool Try.underlying4 _), trodAll_mk2 hargs0 hargs1, rfl, hb.frame _, fun h => by cases h⟩
theorem over4 : Yticgadnmlbfmfaa.Rows.cachePlaysRow.holds Yticgadnmlbfmfaa.Try.pinned (OpenSpec.ofChange Yticgadnmlbfmfaa.Rows.cachePlaysSpec) :=
  OpenClaim.holds_of_wide 4 Try.f4 rfl rfl rfl rfl rfl rfl rfl ⟨rfl, rfl, rfl, rfl, rfl⟩ rfl rfl rfl rfl rfl (by kernel_rfl) Try.func4 (by kernel_rfl)
    (of_decide_eq_true (by kernel_rfl)) (by unfold Func.isWrapper; first | (rw [if_pos (by decide +kernel)]; kernel_rfl) | (rw [if_neg (by decide +kernel)]; exact ⟨rfl, rfl⟩))
    (fun os started H enc _ => lifted4 os started H enc)
theorem proved : Yticgadnmlbfmfaa.Rows.CachePlaysSaid := over4
end Go.Proofs.Yticgadnmlbfmfaa.cachePlays
