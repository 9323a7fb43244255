/-
  Chapter 14: what came in, as it lies in memory.
-/
import Derived.Test.YtgbhmkdldfhamaaTxL
import Derived.OpenShut
import Derived.Deep.Slices
namespace Go.Proofs.Ytgbhmkdldfhamaa.charsOf
open Go.Shelf Go.RowKit Go.Lib Go.Sort
noncomputable section
def repL (l : List TypeId) : Nat → List TypeId
  | 0 => []
  | n + 1 => l ++ repL l n
def flatL (f : TypeId → Option (List TypeId)) : Nat → List Field → Option (List TypeId)
  | _, [] => some []
  | o, fd :: fs => match Nat.beq fd.offset o, f fd.type with
    | true, some l => match flatL f (o + l.length) fs with
      | some r => some (l ++ r)
      | none => none
    | _, _ => none
def isLeafD : TypeDesc → Bool
  | .int _ | .bool | .string | .slice _ => true
  | _ => false
/-- The leaves of a type. -/
def flatT (P : Program) : Nat → TypeId → Option (List TypeId)
  | 0, _ => none
  | d + 1, t => match P.underlying t with
    | some (.struct fs) => match flatL (flatT P d) 0 fs.toList with
      | some l => match Nat.beq (P.cellsOf t) l.length with
        | true => some l
        | false => none
      | none => none
    | some (.array n e) => match flatT P d e with
      | some l => match Nat.beq (P.cellsOf t) (repL l n).length with
        | true => some (repL l n)
        | false => none
      | none => none
    | some d => match isLeafD d, Nat.beq (P.cellsOf t) 1 with
      | true, true => some [t]
      | _, _ => none
    | none => none
theorem repL_length (l : List TypeId) : ∀ n, (repL l n).length = n * l.length
  | 0 => by simp [repL]
  | n + 1 => by simp [repL, repL_length l n, Nat.succ_mul, Nat.add_comm]
theorem flatT_cells {P : Program} : ∀ {d : Nat} {t : TypeId} {l : List TypeId}, flatT P d t = some l → P.cellsOf t = l.length
  | 0, t, l, h => by simp [flatT] at h
  | d + 1, t, l, h => by
    simp only [flatT] at h
    split at h
    · split at h
      · split at h
        · rename_i hb
          simp only [Option.some.injEq] at h
          subst h
          exact Nat.eq_of_beq_eq_true hb
        · cases h
      · cases h
    · split at h
      · split at h
        · rename_i hb
          simp only [Option.some.injEq] at h
          subst h
          exact Nat.eq_of_beq_eq_true hb
        · cases h
      · cases h
    · split at h
      · rename_i hb
        simp only [Option.some.injEq] at h
        subst h
        exact Nat.eq_of_beq_eq_true hb
      · cases h
    · cases h
theorem trod_one {H : Type} {enc : TypeId × Value → H} {P : Program} {w : World} {base : Nat} {sp : Nat → Bool} {held : Bool} {n : Nat} {t : TypeId} {d : TypeDesc} (hu : P.underlying t = some d) (hd : isLeafD d = true) {cs : List Value} {y : DataW H × List MemPlace} (hy : DataW.trod enc P w base sp held n t cs = some y) : cs.length = 1 := by
  cases d <;> simp [isLeafD] at hd
  · obtain ⟨b, rfl, _⟩ := DataW.trod_bool hu hy; rfl
  · obtain ⟨b, rfl, _⟩ := DataW.trod_int hu hy; rfl
  · obtain ⟨b, rfl, _⟩ := DataW.trod_string hu hy; rfl
  · rcases DataW.trod_slice hu hy with ⟨rfl, _⟩ | ⟨_, _, _, _, _, _, _, rfl, _⟩ <;> rfl
section
variable {H : Type} {enc : TypeId × Value → H} {P : Program} {w : World} {base : Nat} {sp : Nat → Bool} {held : Bool}
/-- Leaf by leaf. -/
def LeavesOK (enc : TypeId × Value → H) (P : Program) (w : World) (base : Nat) (sp : Nat → Bool) (held : Bool) (ts : List TypeId) (cs : List Value) : Prop :=
  cs.length = ts.length ∧ ∀ (j : Nat) (u : TypeId), ts[j]? = some u → ∃ (v : Value) (n : Nat) (y : DataW H × List MemPlace), cs[j]? = some v ∧ DataW.trod enc P w base sp held n u [v] = some y
theorem LeavesOK.append {ts us : List TypeId} {cs : List Value} (h1 : LeavesOK enc P w base sp held ts (cs.take ts.length)) (h2 : LeavesOK enc P w base sp held us (cs.drop ts.length)) (hl : ts.length ≤ cs.length) : LeavesOK enc P w base sp held (ts ++ us) cs := by
  refine ⟨?_, fun j u hj => ?_⟩
  · have := h2.1
    simp at this ⊢
    omega
  · rw [List.getElem?_append] at hj
    split at hj
    · rename_i hlt
      obtain ⟨v, n, y, g1, g2⟩ := h1.2 j u hj
      rw [List.getElem?_take, if_pos hlt] at g1
      exact ⟨v, n, y, g1, g2⟩
    · rename_i hlt
      obtain ⟨v, n, y, g1, g2⟩ := h2.2 _ u hj
      rw [List.getElem?_drop, show ts.length + (j - ts.length) = j by omega] at g1
      exact ⟨v, n, y, g1, g2⟩
theorem flatL_ok {d : Nat} (ih : ∀ {t l n} {cs : List Value} {y : DataW H × List MemPlace}, flatT P d t = some l → DataW.trod enc P w base sp held n t cs = some y → LeavesOK enc P w base sp held l cs) {n : Nat} {cs : List Value} :
    ∀ (fs : List Field) (o : Nat) (l : List TypeId), flatL (flatT P d) o fs = some l → o + l.length = cs.length → (∀ (i : Nat) (f : Field), fs[i]? = some f → ∃ y, DataW.trod enc P w base sp held n f.type ((cs.drop f.offset).take (P.cellsOf f.type)) = some y) → LeavesOK enc P w base sp held l (cs.drop o)
  | [], o, l, h, hl, _ => by
    simp only [flatL, Option.some.injEq] at h
    subst h
    refine ⟨by simp at hl ⊢; omega, fun j u hj => by simp at hj⟩
  | fd :: fs, o, l, h, hl, hx => by
    simp only [flatL] at h
    split at h
    · rename_i l0 hb h0
      split at h
      · rename_i r hr
        simp only [Option.some.injEq] at h
        subst h
        have ho := Nat.eq_of_beq_eq_true hb
        have hc := flatT_cells h0
        simp only [List.length_append] at hl
        obtain ⟨y, hy⟩ := hx 0 fd rfl
        rw [ho, hc] at hy
        have h1 := ih h0 hy
        have h2 := flatL_ok ih fs (o + l0.length) r hr (by omega) (fun i f hf => hx (i + 1) f hf)
        refine LeavesOK.append h1 ?_ (by simp; omega)
        rw [List.drop_drop]
        exact h2
      · cases h
    · cases h
theorem repL_ok {l : List TypeId} : ∀ {n : Nat} {cs : List Value}, cs.length = n * l.length → (∀ i, i < n → LeavesOK enc P w base sp held l ((cs.drop (i * l.length)).take l.length)) → LeavesOK enc P w base sp held (repL l n) cs
  | 0, cs, hl, _ => by
    refine ⟨by simpa [repL] using hl, fun j u hj => by simp [repL] at hj⟩
  | n + 1, cs, hl, h => by
    have hl' : cs.length = n * l.length + l.length := by rw [hl, Nat.succ_mul]
    simp only [repL]
    refine LeavesOK.append ?_ ?_ (by omega)
    · have := h 0 (by omega)
      simpa using this
    · refine repL_ok (by simp; omega) fun i hi => ?_
      have := h (i + 1) (by omega)
      rw [List.drop_drop]
      rw [show l.length + i * l.length = (i + 1) * l.length by rw [Nat.succ_mul]; omega]
      exact this
theorem leaves_ok : ∀ {d : Nat} {t : TypeId} {l : List TypeId} {n : Nat} {cs : List Value} {y : DataW H × List MemPlace}, flatT P d t = some l → DataW.trod enc P w base sp held n t cs = some y → LeavesOK enc P w base sp held l cs
  | 0, t, l, n, cs, y, h, _ => by simp [flatT] at h
  | d + 1, t, l, n, cs, y, h, hy => by
    have hcl := flatT_cells h
    simp only [flatT] at h
    split at h
    · rename_i fs hu
      split at h
      · rename_i l' hl'
        split at h
        · simp only [Option.some.injEq] at h
          subst h
          obtain ⟨xs, m, _, _, hlen, hxs, hall⟩ := DataW.trod_struct hu hy
          have := flatL_ok (H := H) (enc := enc) (P := P) (w := w) (base := base) (sp := sp) (held := held) (d := d) (fun h1 h2 => leaves_ok h1 h2) (n := m) (cs := cs) fs.toList 0 l' hl' (by rw [Nat.zero_add, hlen, hcl]) (fun i f hf => by
            have hi : i < xs.length := by
              rw [hxs]
              simpa using (List.getElem?_eq_some_iff.1 hf).1
            have := hall i f (by simpa using hf)
            rw [List.getElem?_eq_getElem hi] at this
            exact ⟨_, this⟩)
          simpa using this
        · cases h
      · cases h
    · rename_i k e hu
      split at h
      · rename_i l' hl'
        split at h
        · simp only [Option.some.injEq] at h
          subst h
          obtain ⟨xs, m, _, _, hlen, hxs, hall⟩ := DataW.trod_array hu hy
          have hce := flatT_cells hl'
          refine repL_ok (by rw [hlen, hcl, repL_length]) fun i hi => ?_
          have := hall i hi
          rw [List.getElem?_eq_getElem (by omega), hce] at this
          exact leaves_ok hl' this
        · cases h
      · cases h
    · rename_i dd hns hna hu
      split at h
      · rename_i hb _
        simp only [Option.some.injEq] at h
        subst h
        have hlen : cs.length = 1 := trod_one hu hb hy
        match cs, hlen with
        | [v], _ => exact ⟨rfl, fun j u hj => by
            match j with
            | 0 => cases hj; exact ⟨v, _, _, rfl, hy⟩
            | j + 1 => simp at hj⟩
      · cases h
    · cases h
theorem leaf_int {ts : List TypeId} {cs : List Value} (h : LeavesOK enc P w base sp held ts cs) {j : Nat} {t : TypeId} (hj : ts[j]? = some t) (ht : P.underlying t = some (.int .i64)) : ∃ z, cs[j]? = some (.int .i64 z) := by
  obtain ⟨v, n, y, h1, h2⟩ := h.2 j t hj
  obtain ⟨z, e, _, _⟩ := DataW.trod_int ht h2
  simp only [List.cons.injEq, and_true] at e
  exact ⟨z, by rw [h1, e]⟩
theorem leaf_bool {ts : List TypeId} {cs : List Value} (h : LeavesOK enc P w base sp held ts cs) {j : Nat} {t : TypeId} (hj : ts[j]? = some t) (ht : P.underlying t = some .bool) : ∃ z, cs[j]? = some (.bool z) := by
  obtain ⟨v, n, y, h1, h2⟩ := h.2 j t hj
  obtain ⟨z, e, _⟩ := DataW.trod_bool ht h2
  simp only [List.cons.injEq, and_true] at e
  exact ⟨z, by rw [h1, e]⟩
theorem leaf_str {ts : List TypeId} {cs : List Value} (h : LeavesOK enc P w base sp held ts cs) {j : Nat} {t : TypeId} (hj : ts[j]? = some t) (ht : P.underlying t = some .string) : ∃ z, cs[j]? = some (.string z) := by
  obtain ⟨v, n, y, h1, h2⟩ := h.2 j t hj
  obtain ⟨z, e, _, _⟩ := DataW.trod_string ht h2
  simp only [List.cons.injEq, and_true] at e
  exact ⟨z, by rw [h1, e]⟩
def leafs (P : Program) (ts : List TypeId) : Bool := ts.all fun u => match P.underlying u with
  | some d => isLeafD d
  | none => false
theorem leaf_one {ts : List TypeId} {cs : List Value} (h : LeavesOK enc P w base sp held ts cs) (hl : leafs P ts = true) : ∀ v ∈ cs, v.oneCell' = true := by
  intro v hv
  obtain ⟨j, hj, rfl⟩ := List.getElem_of_mem hv
  have hj' : j < ts.length := by rw [← h.1]; exact hj
  obtain ⟨v, n, y, h1, h2⟩ := h.2 j ts[j] (List.getElem?_eq_getElem hj')
  rw [List.getElem?_eq_getElem hj] at h1
  injection h1 with h1
  rw [h1]
  have := List.all_eq_true.1 hl ts[j] (List.getElem_mem hj')
  split at this
  · rename_i d hu
    cases d <;> simp [isLeafD] at this
    · obtain ⟨z, e, _⟩ := DataW.trod_bool hu h2
      simp only [List.cons.injEq, and_true] at e
      rw [e]; rfl
    · obtain ⟨z, e, _⟩ := DataW.trod_int hu h2
      simp only [List.cons.injEq, and_true] at e
      rw [e]; rfl
    · obtain ⟨z, e, _⟩ := DataW.trod_string hu h2
      simp only [List.cons.injEq, and_true] at e
      rw [e]; rfl
    · rcases DataW.trod_slice hu h2 with ⟨e, _⟩ | ⟨_, _, _, _, _, _, _, e, _⟩
      · simp only [List.cons.injEq, and_true] at e
        rw [e]; rfl
      · simp only [List.cons.injEq, and_true] at e
        rw [e]; rfl
  · cases this
end
section
variable {H : Type} {enc : TypeId × Value → H} {P : Program} {w : World}
/-- A slice that came in: its elements, leaf by leaf. -/
theorem rows_of {t e : TypeId} {ts : List TypeId} {n : Nat} {v : Value} {y : DataW H × List MemPlace} (ht : P.underlying t = some (.slice e)) (hf : flatT P 9 e = some ts) (hp : 0 < ts.length) (h : DataW.trod enc P w 0 (fun _ => true) true n t [v] = some y) :
    ∃ a len cap, ∃ X : Nat → List Value, v = .slice a len cap ∧ len ≤ cap ∧ (∀ i, i < len → LeavesOK enc P w 0 (fun _ => true) true ts (X i)) ∧ Rows w a ts.length ((List.range len).map fun i => (X i).toArray) := by
  have hce := flatT_cells hf
  rcases Go.Deep.open_slice ht h with ⟨hs, _⟩ | ⟨ad, len, cap, m, n', DD, Pl, hs, _, hl, hc, hmm, _, hall⟩
  · simp only [List.cons.injEq, and_true] at hs
    exact ⟨none, 0, 0, fun _ => [], hs, Nat.le_refl _, fun i hi => by omega, .inl rfl⟩
  · simp only [List.cons.injEq, and_true] at hs
    simp only [if_true] at hmm
    subst hmm
    have each : ∀ i, ∃ X : List Value, i < len → LeavesOK enc P w 0 (fun _ => true) true ts X ∧ ∀ j, j < ts.length → w.cell? ((ad.add (i * ts.length)).add j) = X[j]? := fun i => by
      by_cases hi : i < len
      · obtain ⟨cs', h1, h2⟩ := hall i (Nat.lt_of_lt_of_le hi hl)
        obtain ⟨_, c2, c3⟩ := World.cells?_some h1
        rw [hce] at c3
        exact ⟨cs', fun _ => ⟨leaves_ok hf h2, c3⟩⟩
      · exact ⟨[], fun h => absurd h hi⟩
    obtain ⟨X, hX⟩ := Classical.skolem.1 each
    refine ⟨some ad, len, m, X, hs, hl, fun i hi => (hX i hi).1, ?_⟩
    rcases Nat.eq_zero_or_pos len with h0 | h0
    · subst h0
      exact .inl rfl
    · obtain ⟨k1, k2⟩ := hX 0 h0
      have hcell := k2 0 hp
      rw [List.getElem?_eq_getElem (by rw [k1.1]; exact hp)] at hcell
      have hsp := World.cell?_spot hcell
      obtain ⟨B, O, spot⟩ := ad
      have hspot : spot = none := by simpa [Addr.add] using hsp
      subst hspot
      have hB : B < w.heap.size := by
        rw [Addr.add_lit, Addr.add_lit] at hcell
        exact World.block_lt_of_cell? w _ hcell
      refine .inr ⟨B, O, rfl, hB, fun i x hx j v hv => ?_⟩
      obtain ⟨hi, rfl⟩ := List.getElem?_eq_some_iff.1 hx
      simp only [List.length_map, List.length_range] at hi
      simp only [List.getElem_map, List.getElem_range] at hv
      have hv' : (X i)[j]? = some v := by simpa using hv
      obtain ⟨q1, q2⟩ := hX i hi
      have hj : j < ts.length := by rw [← q1.1]; exact (List.getElem?_eq_some_iff.1 hv').1
      have := q2 j hj
      rw [Addr.add_lit, Addr.add_lit, hv'] at this
      exact this
theorem leaf_sl {ts : List TypeId} {cs : List Value} (h : LeavesOK enc P w 0 (fun _ => true) true ts cs) {j : Nat} {t e : TypeId} {us : List TypeId} (hj : ts[j]? = some t) (ht : P.underlying t = some (.slice e)) (hf : flatT P 9 e = some us) (hp : 0 < us.length) : ∃ a len cap, ∃ X : Nat → List Value, cs[j]? = some (.slice a len cap) ∧ len ≤ cap ∧ (∀ i, i < len → LeavesOK enc P w 0 (fun _ => true) true us (X i)) ∧ Rows w a us.length ((List.range len).map fun i => (X i).toArray) := by
  obtain ⟨v, n, y, h1, h2⟩ := h.2 j t hj
  obtain ⟨a, len, cap, X, rfl, k1, k2, k3⟩ := rows_of ht hf hp h2
  exact ⟨a, len, cap, X, h1, k1, k2, k3⟩
theorem map_range {α β : Type} {f : Nat → α} {g : β → α} : ∀ {n : Nat}, (∀ i, i < n → ∃ b, f i = g b) → ∃ l : List β, l.length = n ∧ (List.range n).map f = l.map g ∧ ∀ i (hi : i < l.length), f i = g l[i]
  | 0, _ => ⟨[], rfl, rfl, fun i hi => by simp at hi⟩
  | n + 1, h => by
    obtain ⟨l, h1, h2, h3⟩ := map_range (f := f) (g := g) (n := n) fun i hi => h i (by omega)
    obtain ⟨b, hb⟩ := h n (by omega)
    refine ⟨l ++ [b], by simp [h1], by rw [List.range_succ, List.map_append, h2, List.map_append]; simp [hb], fun i hi => ?_⟩
    rcases Nat.lt_or_ge i l.length with hi' | hi'
    · rw [List.getElem_append_left hi']
      exact h3 i hi'
    · simp only [List.length_append, List.length_singleton] at hi
      obtain rfl : i = n := by omega
      rw [List.getElem_append_right hi']
      simpa using hb
end
end
end Go.Proofs.Ytgbhmkdldfhamaa.charsOf
/-
  Chapter 14: cards and a state that came in.
-/
namespace Go.Proofs.Ytgbhmkdldfhamaa.charsOf
open Go.Shelf Go.RowKit Go.Lib Go.Sort
noncomputable section
theorem split4 {X : List Value} (h : X.length = 4) : ∃ x0 x1 x2 x3, X = [x0, x1, x2, x3] := by
  match X, h with
  | [x0, x1, x2, x3], _ => exact ⟨x0, x1, x2, x3, rfl⟩
theorem split11 {X : List Value} (h : X.length = 11) : ∃ x0 x1 x2 x3 x4 x5 x6 x7 x8 x9 x10, X = [x0, x1, x2, x3, x4, x5, x6, x7, x8, x9, x10] := by
  match X, h with
  | [x0, x1, x2, x3, x4, x5, x6, x7, x8, x9, x10], _ => exact ⟨x0, x1, x2, x3, x4, x5, x6, x7, x8, x9, x10, rfl⟩
theorem split13 {X : List Value} (h : X.length = 13) : ∃ x0 x1 x2 x3 x4 x5 x6 x7 x8 x9 x10 x11 x12, X = [x0, x1, x2, x3, x4, x5, x6, x7, x8, x9, x10, x11, x12] := by
  match X, h with
  | [x0, x1, x2, x3, x4, x5, x6, x7, x8, x9, x10, x11, x12], _ => exact ⟨x0, x1, x2, x3, x4, x5, x6, x7, x8, x9, x10, x11, x12, rfl⟩
theorem split14 {X : List Value} (h : X.length = 14) : ∃ x0 x1 x2 x3 x4 x5 x6 x7 x8 x9 x10 x11 x12 x13, X = [x0, x1, x2, x3, x4, x5, x6, x7, x8, x9, x10, x11, x12, x13] := by
  match X, h with
  | [x0, x1, x2, x3, x4, x5, x6, x7, x8, x9, x10, x11, x12, x13], _ => exact ⟨x0, x1, x2, x3, x4, x5, x6, x7, x8, x9, x10, x11, x12, x13, rfl⟩
theorem split25 {X : List Value} (h : X.length = 25) : ∃ x0 x1 x2 x3 x4 x5 x6 x7 x8 x9 x10 x11 x12 x13 x14 x15 x16 x17 x18 x19 x20 x21 x22 x23 x24, X = [x0, x1, x2, x3, x4, x5, x6, x7, x8, x9, x10, x11, x12, x13, x14, x15, x16, x17, x18, x19, x20, x21, x22, x23, x24] := by
  match X, h with
  | [x0, x1, x2, x3, x4, x5, x6, x7, x8, x9, x10, x11, x12, x13, x14, x15, x16, x17, x18, x19, x20, x21, x22, x23, x24], _ => exact ⟨x0, x1, x2, x3, x4, x5, x6, x7, x8, x9, x10, x11, x12, x13, x14, x15, x16, x17, x18, x19, x20, x21, x22, x23, x24, rfl⟩
theorem split1 {X : List Value} (h : X.length = 1) : ∃ x0, X = [x0] := by
  match X, h with
  | [x0], _ => exact ⟨x0, rfl⟩
def ts54 : List TypeId := [9, 3, 3, 3, 3, 3, 3, 3, 3, 3, 52]
def ts56 : List TypeId := [3, 3, 3, 3, 3, 4, 4, 4, 3, 3, 3, 3, 4, 40]
def ts58 : List TypeId := [3, 3, 3, 3]
def ts74 : List TypeId := [3, 3, 3, 3, 3, 3, 3, 4, 26, 72, 3, 3, 3]
theorem f54 : flatT Try.prog 9 54 = some ts54 := by kernel_rfl
theorem f56 : flatT Try.prog 9 56 = some ts56 := by kernel_rfl
theorem f58 : flatT Try.prog 9 58 = some ts58 := by kernel_rfl
theorem f74 : flatT Try.prog 9 74 = some ts74 := by kernel_rfl
theorem f3 : flatT Try.prog 9 3 = some [3] := by kernel_rfl
theorem f32 : ∃ ts, flatT Try.prog 9 32 = some ts ∧ ts.length = 25 ∧ ts[1]? = some 24 ∧ ts[6]? = some 26 ∧ leafs Try.prog ts = true := by
  have h : (flatT Try.prog 9 32).map (fun ts => (ts.length, ts[1]?, ts[6]?, leafs Try.prog ts)) = some (25, some 24, some 26, true) := by kernel_rfl
  cases hf : flatT Try.prog 9 32 with
  | none => rw [hf] at h; cases h
  | some ts =>
    rw [hf] at h
    injection h with h
    injection h with h1 h
    injection h with h2 h
    injection h with h3 h4
    exact ⟨ts, rfl, h1, h2, h3, h4⟩
theorem l74 : leafs Try.prog ts74 = true := by kernel_rfl
theorem getD_mem {l : List Value} (k : Nat) {d : Value} (hd : d ∈ l) : l.getD k d ∈ l := by
  unfold List.getD
  cases h : l[k]? with
  | none => exact hd
  | some v => exact List.mem_of_getElem? h
theorem Cv.arr_inj {a b : Cv} (h : a.arr = b.arr) : a = b := by
  cases a; cases b
  simp only [Cv.arr, Array.mk.injEq, List.cons.injEq, Value.string.injEq, Value.int.injEq, Value.slice.injEq, true_and, and_true] at h
  simp only [Cv.mk.injEq]
  exact h
theorem Ov.arr_inj {a b : Ov} (h : a.arr = b.arr) : a = b := by
  cases a; cases b
  simp only [Ov.arr, Array.mk.injEq, List.cons.injEq, Value.bool.injEq, Value.int.injEq, Value.slice.injEq, true_and, and_true] at h
  simp only [Ov.mk.injEq]
  exact h
section
variable {H : Type} {enc : TypeId × Value → H} {w : World}
theorem eff_of {X : List Value} (h : LeavesOK enc Try.prog w 0 (fun _ => true) true ts58 X) : ∃ x : Ef, X = encE x := by
  obtain ⟨x0, x1, x2, x3, rfl⟩ := split4 h.1
  obtain ⟨z0, h0⟩ := leaf_int h (j := 0) rfl Try.underlying3
  simp only [List.getElem?_cons_zero, Option.some.injEq] at h0
  subst h0
  obtain ⟨z1, h1⟩ := leaf_int h (j := 1) rfl Try.underlying3
  simp only [List.getElem?_cons_zero, List.getElem?_cons_succ, Option.some.injEq] at h1
  subst h1
  obtain ⟨z2, h2⟩ := leaf_int h (j := 2) rfl Try.underlying3
  simp only [List.getElem?_cons_zero, List.getElem?_cons_succ, Option.some.injEq] at h2
  subst h2
  obtain ⟨z3, h3⟩ := leaf_int h (j := 3) rfl Try.underlying3
  simp only [List.getElem?_cons_zero, List.getElem?_cons_succ, Option.some.injEq] at h3
  subst h3
  exact ⟨(z0, z1, z2, z3), rfl⟩
theorem abil_of {X : List Value} (h : LeavesOK enc Try.prog w 0 (fun _ => true) true ts74 X) : ∃ a : Av, X = a.arr.toList ∧ ∀ v ∈ a.arr.toList, v.oneCell' = true := by
  have ho := leaf_one h l74
  obtain ⟨x0, x1, x2, x3, x4, x5, x6, x7, x8, x9, x10, x11, x12, rfl⟩ := split13 h.1
  obtain ⟨z0, h0⟩ := leaf_int h (j := 0) rfl Try.underlying3
  simp only [List.getElem?_cons_zero, Option.some.injEq] at h0
  subst h0
  obtain ⟨z2, h2⟩ := leaf_int h (j := 2) rfl Try.underlying3
  simp only [List.getElem?_cons_zero, List.getElem?_cons_succ, Option.some.injEq] at h2
  subst h2
  obtain ⟨z10, h10⟩ := leaf_int h (j := 10) rfl Try.underlying3
  simp only [List.getElem?_cons_zero, List.getElem?_cons_succ, Option.some.injEq] at h10
  subst h10
  obtain ⟨z11, h11⟩ := leaf_int h (j := 11) rfl Try.underlying3
  simp only [List.getElem?_cons_zero, List.getElem?_cons_succ, Option.some.injEq] at h11
  subst h11
  obtain ⟨z12, h12⟩ := leaf_int h (j := 12) rfl Try.underlying3
  simp only [List.getElem?_cons_zero, List.getElem?_cons_succ, Option.some.injEq] at h12
  subst h12
  refine ⟨⟨z0, z2, z10, z11, z12, fun k => [x1, x1, x1, x3, x4, x5, x6, x7, x8, x9].getD k x1⟩, rfl, ho⟩
theorem obj_of {X : List Value} (h : LeavesOK enc Try.prog w 0 (fun _ => true) true ts56 X) : ∃ o : Ov, X = o.arr.toList ∧ o.en ≤ o.ec ∧ ∃ E : List Ef, E.length = o.en ∧ Rows w o.ea 4 (E.map fun x => (encE x).toArray) := by
  obtain ⟨x0, x1, x2, x3, x4, x5, x6, x7, x8, x9, x10, x11, x12, x13, rfl⟩ := split14 h.1
  obtain ⟨z0, h0⟩ := leaf_int h (j := 0) rfl Try.underlying3
  simp only [List.getElem?_cons_zero, Option.some.injEq] at h0
  subst h0
  obtain ⟨z1, h1⟩ := leaf_int h (j := 1) rfl Try.underlying3
  simp only [List.getElem?_cons_zero, List.getElem?_cons_succ, Option.some.injEq] at h1
  subst h1
  obtain ⟨z2, h2⟩ := leaf_int h (j := 2) rfl Try.underlying3
  simp only [List.getElem?_cons_zero, List.getElem?_cons_succ, Option.some.injEq] at h2
  subst h2
  obtain ⟨z3, h3⟩ := leaf_int h (j := 3) rfl Try.underlying3
  simp only [List.getElem?_cons_zero, List.getElem?_cons_succ, Option.some.injEq] at h3
  subst h3
  obtain ⟨z4, h4⟩ := leaf_int h (j := 4) rfl Try.underlying3
  simp only [List.getElem?_cons_zero, List.getElem?_cons_succ, Option.some.injEq] at h4
  subst h4
  obtain ⟨z8, h8⟩ := leaf_int h (j := 8) rfl Try.underlying3
  simp only [List.getElem?_cons_zero, List.getElem?_cons_succ, Option.some.injEq] at h8
  subst h8
  obtain ⟨z9, h9⟩ := leaf_int h (j := 9) rfl Try.underlying3
  simp only [List.getElem?_cons_zero, List.getElem?_cons_succ, Option.some.injEq] at h9
  subst h9
  obtain ⟨z10, h10⟩ := leaf_int h (j := 10) rfl Try.underlying3
  simp only [List.getElem?_cons_zero, List.getElem?_cons_succ, Option.some.injEq] at h10
  subst h10
  obtain ⟨z11, h11⟩ := leaf_int h (j := 11) rfl Try.underlying3
  simp only [List.getElem?_cons_zero, List.getElem?_cons_succ, Option.some.injEq] at h11
  subst h11
  obtain ⟨z5, h5⟩ := leaf_bool h (j := 5) rfl Try.underlying4
  simp only [List.getElem?_cons_zero, List.getElem?_cons_succ, Option.some.injEq] at h5
  subst h5
  obtain ⟨z6, h6⟩ := leaf_bool h (j := 6) rfl Try.underlying4
  simp only [List.getElem?_cons_zero, List.getElem?_cons_succ, Option.some.injEq] at h6
  subst h6
  obtain ⟨z7, h7⟩ := leaf_bool h (j := 7) rfl Try.underlying4
  simp only [List.getElem?_cons_zero, List.getElem?_cons_succ, Option.some.injEq] at h7
  subst h7
  obtain ⟨z12, h12⟩ := leaf_bool h (j := 12) rfl Try.underlying4
  simp only [List.getElem?_cons_zero, List.getElem?_cons_succ, Option.some.injEq] at h12
  subst h12
  obtain ⟨a, len, cap, Y, h13, hc, hl, hr⟩ := leaf_sl h (j := 13) rfl Try.underlying40 f58 (by decide)
  simp only [List.getElem?_cons_zero, List.getElem?_cons_succ, Option.some.injEq] at h13
  subst h13
  obtain ⟨E, e1, e2, _⟩ := map_range (f := fun i => (Y i).toArray) (g := fun x : Ef => (encE x).toArray) (n := len) fun i hi => by
    obtain ⟨x, hx⟩ := eff_of (hl i hi)
    exact ⟨x, by rw [hx]⟩
  rw [e2] at hr
  exact ⟨⟨z0, z1, z2, z3, z4, z5, z6, z7, z8, z9, z10, z11, z12, a, len, cap⟩, rfl, hc, E, e1, hr⟩
theorem card_of {X : List Value} (h : LeavesOK enc Try.prog w 0 (fun _ => true) true ts54 X) : ∃ c : Cv, X = c.arr.toList ∧ c.an ≤ c.ac ∧ ∃ A : List Av, A.length = c.an ∧ Rows w c.aa 13 (A.map Av.arr) ∧ ∀ a ∈ A, ∀ v ∈ a.arr.toList, v.oneCell' = true := by
  obtain ⟨x0, x1, x2, x3, x4, x5, x6, x7, x8, x9, x10, rfl⟩ := split11 h.1
  obtain ⟨z0, h0⟩ := leaf_str h (j := 0) rfl Try.underlying9
  simp only [List.getElem?_cons_zero, Option.some.injEq] at h0
  subst h0
  obtain ⟨z1, h1⟩ := leaf_int h (j := 1) rfl Try.underlying3
  simp only [List.getElem?_cons_zero, List.getElem?_cons_succ, Option.some.injEq] at h1
  subst h1
  obtain ⟨z2, h2⟩ := leaf_int h (j := 2) rfl Try.underlying3
  simp only [List.getElem?_cons_zero, List.getElem?_cons_succ, Option.some.injEq] at h2
  subst h2
  obtain ⟨z3, h3⟩ := leaf_int h (j := 3) rfl Try.underlying3
  simp only [List.getElem?_cons_zero, List.getElem?_cons_succ, Option.some.injEq] at h3
  subst h3
  obtain ⟨z4, h4⟩ := leaf_int h (j := 4) rfl Try.underlying3
  simp only [List.getElem?_cons_zero, List.getElem?_cons_succ, Option.some.injEq] at h4
  subst h4
  obtain ⟨z5, h5⟩ := leaf_int h (j := 5) rfl Try.underlying3
  simp only [List.getElem?_cons_zero, List.getElem?_cons_succ, Option.some.injEq] at h5
  subst h5
  obtain ⟨z6, h6⟩ := leaf_int h (j := 6) rfl Try.underlying3
  simp only [List.getElem?_cons_zero, List.getElem?_cons_succ, Option.some.injEq] at h6
  subst h6
  obtain ⟨z7, h7⟩ := leaf_int h (j := 7) rfl Try.underlying3
  simp only [List.getElem?_cons_zero, List.getElem?_cons_succ, Option.some.injEq] at h7
  subst h7
  obtain ⟨z8, h8⟩ := leaf_int h (j := 8) rfl Try.underlying3
  simp only [List.getElem?_cons_zero, List.getElem?_cons_succ, Option.some.injEq] at h8
  subst h8
  obtain ⟨z9, h9⟩ := leaf_int h (j := 9) rfl Try.underlying3
  simp only [List.getElem?_cons_zero, List.getElem?_cons_succ, Option.some.injEq] at h9
  subst h9
  obtain ⟨a, len, cap, Y, h10, hc, hl, hr⟩ := leaf_sl h (j := 10) rfl Try.underlying52 f74 (by decide)
  simp only [List.getElem?_cons_zero, List.getElem?_cons_succ, Option.some.injEq] at h10
  subst h10
  obtain ⟨A, e1, e2, e3⟩ := map_range (f := fun i => (Y i).toArray) (g := Av.arr) (n := len) fun i hi => by
    obtain ⟨x, hx, _⟩ := abil_of (hl i hi)
    exact ⟨x, by rw [hx]⟩
  rw [e2] at hr
  refine ⟨⟨z0, z1, z2, z3, z4, z5, z6, z7, z8, z9, a, len, cap⟩, rfl, hc, A, e1, hr, fun b hb v hv => ?_⟩
  obtain ⟨i, hi, rfl⟩ := List.getElem_of_mem hb
  have := e3 i hi
  have hv' : v ∈ Y i := by
    rw [← this] at hv
    simpa using hv
  exact leaf_one (hl i (by omega)) l74 v hv'
/-- What came in, as data. -/
theorem dr_of {n0 n1 : Nat} {v0 : Value} {cs1 : List Value} {y0 y1 : DataW H × List MemPlace} (h0 : DataW.trod enc Try.prog w 0 (fun _ => true) true n0 22 [v0] = some y0) (h1 : DataW.trod enc Try.prog w 0 (fun _ => true) true n1 32 cs1 = some y1) :
    ∃ (cs : List Cv) (ca : Option Addr) (cc : Nat) (s : Sv) (A : Nat → List Av) (E : Nat → List Ef), v0 = .slice ca cs.length cc ∧ cs1 = s.arr.toList ∧ Dr w cs ca s A E := by
  obtain ⟨ca, cn, cc, X, rfl, _, hX, rX⟩ := rows_of Try.underlying22 f54 (by decide) h0
  obtain ⟨ts, t1, t2, t3, t4, t5⟩ := f32
  have hS := leaves_ok t1 h1
  have oS := leaf_one hS t5
  obtain ⟨oa, on, oc, Z, z1, zc, hZ, rZ⟩ := leaf_sl hS t3 Try.underlying24 f56 (by decide)
  obtain ⟨fa, fn, fc, F, z6, fcc, hF, rF⟩ := leaf_sl hS t4 Try.underlying26 f3 (by decide)
  obtain ⟨x0, x1, x2, x3, x4, x5, x6, x7, x8, x9, x10, x11, x12, x13, x14, x15, x16, x17, x18, x19, x20, x21, x22, x23, x24, rfl⟩ := split25 (hS.1.trans t2)
  simp only [List.getElem?_cons_zero, List.getElem?_cons_succ, Option.some.injEq] at z1 z6
  subst z1 z6
  obtain ⟨cs, c1, c2, c3⟩ := map_range (f := fun i => (X i).toArray) (g := Cv.arr) (n := cn) fun i hi => by
    obtain ⟨x, hx, _⟩ := card_of (hX i hi)
    exact ⟨x, by rw [hx]⟩
  obtain ⟨os, o1, o2, o3⟩ := map_range (f := fun i => (Z i).toArray) (g := Ov.arr) (n := on) fun i hi => by
    obtain ⟨x, hx, _⟩ := obj_of (hZ i hi)
    exact ⟨x, by rw [hx]⟩
  obtain ⟨fs, g1, g2, _⟩ := map_range (f := fun i => (F i).toArray) (g := fun n : Int => #[Value.int .i64 n]) (n := fn) fun i hi => by
    have h := hF i hi
    obtain ⟨x, hx⟩ := split1 h.1
    rw [hx] at h ⊢
    obtain ⟨z, hz⟩ := leaf_int h (j := 0) rfl Try.underlying3
    simp only [List.getElem?_cons_zero, Option.some.injEq] at hz
    exact ⟨z, by rw [hz]⟩
  rw [c2] at rX
  rw [o2] at rZ
  rw [g2] at rF
  subst c1 o1 g1
  have cA : ∀ i, ∃ A : List Av, ∀ h : i < cs.length, A.length = cs[i].an ∧ cs[i].an ≤ cs[i].ac ∧ Rows w cs[i].aa 13 (A.map Av.arr) ∧ ∀ a ∈ A, ∀ v ∈ a.arr.toList, v.oneCell' = true := fun i => by
    by_cases hi : i < cs.length
    · obtain ⟨c, k1, k2, A, k3, k4, k5⟩ := card_of (hX i hi)
      have e : c = cs[i] := by
        have := c3 i hi
        rw [k1] at this
        have this : c.arr = cs[i].arr := by simpa using this
        exact Cv.arr_inj this
      subst e
      exact ⟨A, fun _ => ⟨k3, k2, k4, k5⟩⟩
    · exact ⟨[], fun h => absurd h hi⟩
  have cE : ∀ i, ∃ E : List Ef, ∀ h : i < os.length, E.length = os[i].en ∧ os[i].en ≤ os[i].ec ∧ Rows w os[i].ea 4 (E.map fun x => (encE x).toArray) := fun i => by
    by_cases hi : i < os.length
    · obtain ⟨o, k1, k2, E, k3, k4⟩ := obj_of (hZ i hi)
      have e : o = os[i] := by
        have := o3 i hi
        rw [k1] at this
        have this : o.arr = os[i].arr := by simpa using this
        exact Ov.arr_inj this
      subst e
      exact ⟨E, fun _ => ⟨k3, k2, k4⟩⟩
    · exact ⟨[], fun h => absurd h hi⟩
  obtain ⟨A, hA⟩ := Classical.skolem.1 cA
  obtain ⟨E, hE⟩ := Classical.skolem.1 cE
  refine ⟨cs, ca, cc, ⟨os, oa, oc, fs, fa, fc, fun k => [x0, x0, x2, x3, x4, x5, x0, x7, x8, x9, x10, x11, x12, x13, x14, x15, x16, x17, x18, x19, x20, x21, x22, x23, x24].getD k x0⟩, A, E, rfl, rfl, ⟨rZ, rF, rX, hA, hE, fcc, fun k => ?_⟩⟩
  have hm := getD_mem (l := [x0, x0, x2, x3, x4, x5, x0, x7, x8, x9, x10, x11, x12, x13, x14, x15, x16, x17, x18, x19, x20, x21, x22, x23, x24]) k (d := x0) (by simp)
  refine oS _ ?_
  show [x0, x0, x2, x3, x4, x5, x0, x7, x8, x9, x10, x11, x12, x13, x14, x15, x16, x17, x18, x19, x20, x21, x22, x23, x24].getD k x0 ∈ _
  generalize [x0, x0, x2, x3, x4, x5, x0, x7, x8, x9, x10, x11, x12, x13, x14, x15, x16, x17, x18, x19, x20, x21, x22, x23, x24].getD k x0 = v at hm ⊢
  simp only [List.mem_cons, List.not_mem_nil, or_false] at hm ⊢
  rcases hm with rfl | rfl | rfl | rfl | rfl | rfl | rfl | rfl | rfl | rfl | rfl | rfl | rfl | rfl | rfl | rfl | rfl | rfl | rfl | rfl | rfl | rfl | rfl | rfl | rfl
  all_goals simp
end
end
end Go.Proofs.Ytgbhmkdldfhamaa.charsOf
/-
  Chapter 14: CharsOf, of whatever came in.
-/
namespace Go.Proofs.Ytgbhmkdldfhamaa.charsOf
open Go.Shelf Go.RowKit Go.Lib Go.Sort
theorem layF : LayF Try.prog where
  f3 := Try.func3
  e9 := enters_of Try.func9 (by kernel_rfl) rfl
  e10 := enters_of Try.func10 (by kernel_rfl) rfl
  e11 := enters_of Try.func11 (by kernel_rfl) rfl
  e12 := enters_of Try.func12 (by kernel_rfl) rfl
  e15 := enters_of Try.func15 (by kernel_rfl) rfl
  t33 := Try.underlying33
  t37 := Try.underlying37
  i3 := by
    have h : (Try.prog.info? 3).map (fun i => (i.zero, i.size, i.bytes)) = some (some (.int .i64 0), 1, 8) := by kernel_rfl
    cases hi : Try.prog.info? 3 with
    | none => rw [hi] at h; cases h
    | some i =>
      rw [hi] at h
      injection h with h
      injection h with h1 h2
      injection h2 with h2 h3
      exact ⟨i, rfl, h1, h2, h3⟩
  g36 := fun s t xs ys W => run_eqGuard_agg W .neq 36 s t xs ys (by kernel_rfl)
  n36 := neq36
theorem Dr.below {w w' : World} {cs : List Cv} {ca : Option Addr} {s : Sv} {A : Nat → List Av} {E : Nat → List Ef} (D : Dr w cs ca s A E) (b : Below w.heap.size w w') : Dr w' cs ca s A E :=
  ⟨D.o.below b, D.f.below b, D.hC.below b, fun i h => ⟨(D.hA i h).1, (D.hA i h).2.1, (D.hA i h).2.2.1.below b, (D.hA i h).2.2.2⟩, fun i h => ⟨(D.hE i h).1, (D.hE i h).2.1, (D.hE i h).2.2.below b⟩, D.hf, D.hr⟩
theorem Sv.one {s : Sv} (h : ∀ k, (s.r k).oneCell' = true) : ∀ v ∈ s.arr.toList, v.oneCell' = true := by
  intro v hv
  simp only [Sv.arr, List.mem_cons, List.not_mem_nil, or_false] at hv
  rcases hv with rfl | rfl | rfl | rfl | rfl | rfl | rfl | rfl | rfl | rfl | rfl | rfl | rfl | rfl | rfl | rfl | rfl | rfl | rfl | rfl | rfl | rfl | rfl | rfl | rfl
  all_goals first | exact h _ | rfl
theorem cut_arr (s : Sv) (oa : Option Addr) (oc : Nat) : (cutS s oa oc).arr.toList = (s.arr.toList.set 1 (.slice oa (min s.os.length 20) oc)).set 6 (.slice s.fa (min s.fs.length 20) s.fc) := by
  have h1 : (cutS s oa oc).os.length = min s.os.length 20 := by
    show ((s.os.take 20).map cutO).length = _
    rw [List.length_map, List.length_take, Nat.min_comm]
  have h2 : (cutS s oa oc).fs.length = min s.fs.length 20 := by
    show (s.fs.take 20).length = _
    rw [List.length_take, Nat.min_comm]
  unfold Sv.arr
  rw [h1, h2]
  rfl
theorem cut_of {w : World} {cs : List Cv} {ca : Option Addr} {s : Sv} {A : Nat → List Av} {E : Nat → List Ef} (D : Dr w cs ca s A E) (cc : Nat) :
    Calls Try.prog 9 #[.slice ca cs.length cc, .agg s.arr] w fun e w' => ∃ n1 la lc S2 fa fs fc, e = .returned (.tuple #[.slice la n1 lc, .agg (List.toArray S2)]) ∧ S2.length = 25 ∧ (∀ v ∈ S2, v.oneCell' = true) ∧ S2[6]? = some (.slice fa (List.length fs) fc) ∧ fs.length ≤ 20 ∧ Rows w' fa 1 (fs.map fun n => #[.int .i64 n]) ∧ Below w.heap.size w w' ∧ ∀ id, Both Try.prog w' (.slice la n1 lc) (.agg S2.toArray) id := by
  have := cut_calls layD layK rfl rfl rfl ca cs.length cc s.arr.toList rfl (Sv.one D.hr) w (fun i => (cs[i]!).arr.toList) (fun i => (cutC cs[i]!).arr.toList) (fun i => (cs[i]!).aa) (fun i => (cs[i]!).an) (fun i => (cs[i]!).ac)
    (fun i hi => ⟨rfl, Cv.one _, rfl, by rw [getElem!_pos cs i hi]; exact (D.hA i hi).2.1, rfl⟩)
    (fun i hi => by
      obtain ⟨B, O, e, _, _⟩ := D.hC.card hi
      refine ⟨B, O, e, fun W k => ?_⟩
      have hr := (D.below k).hC
      rw [e] at hr
      have := hr.ld Try.prog (i := i) (x := cs[i].arr) (by simp [hi]) rfl
      rw [Addr.add_lit] at this
      rw [getElem!_pos cs i hi]
      simpa using this)
    s.oa s.os.length s.oc rfl (fun i => (s.os[i]!).arr.toList) (fun i => (cutO s.os[i]!).arr.toList) (fun i => (s.os[i]!).ea) (fun i => (s.os[i]!).en) (fun i => (s.os[i]!).ec)
    (fun i hi => ⟨rfl, Ov.one _, rfl, by rw [getElem!_pos s.os i hi]; exact (D.hE i hi).2.1, rfl⟩)
    (fun i hi => by
      obtain ⟨B, O, e, _, _⟩ := D.o.obj hi
      refine ⟨B, O, e, fun W k => ?_⟩
      have hr := (D.below k).o
      rw [e] at hr
      have := hr.ld Try.prog (i := i) (x := s.os[i].arr) (by simp [hi]) rfl
      rw [Addr.add_lit] at this
      rw [getElem!_pos s.os i hi]
      simpa using this)
    s.fa s.fs.length s.fc rfl D.hf
  refine this.mono ?_
  rintro e w' ⟨la, lc, oa', oc', rfl, hb, h1, h2⟩
  have D2 := cut_Dw D hb lc oc' oa' h1 h2
  have hn : ((cs.take 12).map cutC).length = min cs.length 12 := by rw [List.length_map, List.length_take, Nat.min_comm]
  refine ⟨min cs.length 12, la, lc, (cutS s oa' oc').arr.toList, s.fa, s.fs.take 20, s.fc, ?_, rfl, ?_, rfl, ?_, D2.ok.f, hb, fun id => ?_⟩
  · rw [cut_arr]
  · exact Sv.one D.hr
  · rw [List.length_take]
    omega
  · have := both D2 lc id
    rw [hn] at this
    exact this
theorem charsOf_calls {w : World} {cs : List Cv} {ca : Option Addr} {s : Sv} {A : Nat → List Av} {E : Nat → List Ef} (D : Dr w cs ca s A E) (cc : Nat) (id : Int) (h15 : ∀ W, Calls Try.prog 15 #[] W fun e w' => e = .returned (.bool true) ∧ Below W.heap.size W w') :
    Calls Try.prog 3 #[.slice ca cs.length cc, .agg s.arr, .int .i64 id] w fun e w' => e = .returned (.bool true) ∧ Below w.heap.size w w' :=
  law_calls layD layE layR layK layF rfl ca cs.length cc s.arr.toList rfl id w (fun W k => by
    have := cut_of (D.below (gr_below (.refl _ _) (Nat.le_refl _) k)) cc
    exact this) effs_calls h15
end Go.Proofs.Ytgbhmkdldfhamaa.charsOf
