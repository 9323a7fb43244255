/- Engine, part Pf: ranges over maps: whichever entry comes next. -/
import Derived.Test.YticgadnmlbfmfaaEvU
import Derived.Laws.IdiomRangeMap
namespace Go.Ev
noncomputable section
theorem ERs_mem {φ : Phi} : ∀ (xs : List (VV × VV × Nat)) (es : List MapEntry), ERs φ xs es → ∀ e ∈ es, ∃ x ∈ xs, VR φ x.1 e.key ∧ VR φ x.2.1 e.val ∧ x.2.2 = e.born
  | [], es, h, e, he => by simp only [ERs] at h; subst h; cases he
  | x :: xs, es, h, e, he => by
    obtain ⟨z, zs, rfl, k1, k2, k3, k4⟩ := h
    rcases List.mem_cons.1 he with rfl | he
    · exact ⟨x, by simp, k1, k2, k3⟩
    · obtain ⟨y, hy, r⟩ := ERs_mem xs zs k4 e he
      exact ⟨y, by simp [hy], r⟩
theorem ERs_mem' {φ : Phi} : ∀ (xs : List (VV × VV × Nat)) (es : List MapEntry), ERs φ xs es → ∀ x ∈ xs, ∃ e ∈ es, x.2.2 = e.born
  | [], es, h, x, hx => by cases hx
  | y :: xs, es, h, x, hx => by
    obtain ⟨z, zs, rfl, k1, k2, k3, k4⟩ := h
    rcases List.mem_cons.1 hx with rfl | hx
    · exact ⟨z, by simp, k3⟩
    · obtain ⟨e, he, r⟩ := ERs_mem' xs zs k4 x hx
      exact ⟨e, by simp [he], r⟩
/-- The next entry, the iterator wherever it lies. -/
theorem run_next_at {P : Program} (w : World) (ty : TypeId) (r bm since c0 : Nat) (seen : Array Nat) (es : Array MapEntry) (clock : Nat) (hr : w.heap[r]? = some (.mapIter (some bm) since seen c0)) (hb : w.heap[bm]? = some (.map es clock)) (hold : ∀ x ∈ es.toList, x.born < since) (hsc : since ≤ c0) (sp : Option Nat) :
    ((leftOf es seen).size = 0 ∧ (Instr.next (.pointer (some ⟨r, 0, sp⟩)) false ty).run P w = .ok (.tuple #[.bool false]) w) ∨
    ∃ e ∈ (leftOf es seen).toList, ∃ w1 : World, Upd w w1 r (.mapIter (some bm) since (seen.push e.born) clock) ∧ (Instr.next (.pointer (some ⟨r, 0, sp⟩)) false ty).run P w = .ok (.tuple #[.bool true, e.key, e.val]) w1 := by
  simp only [Instr.next, getObj, Sem.run_bind, Sem.run, hr, hb, Result.andThen, next_test_false seen es since c0 hold hsc, Bool.false_eq_true, if_false]
  unfold leftOf
  have hmem : ∀ x ∈ (Array.filter (fun e => !seen.contains e.born) es).toList, x.born < since := fun x hx => hold x (by simp at hx ⊢; exact hx.1)
  generalize Array.filter (fun e => !seen.contains e.born) es = L at hmem ⊢
  have e1 : L.filter (fun x => decide (x.born < since)) = L := Array.filter_eq_self.2 (fun x hx => by simpa using hmem x (by simpa using hx))
  have e2 : L.filter (fun x => decide (x.born ≥ since)) = #[] := by
    rw [Array.filter_eq_empty_iff]
    intro x hx
    have := hmem x (by simpa using hx)
    simp
    omega
  simp only [e1, e2, Array.append_empty]
  by_cases h0 : L.size = 0
  · left
    have : L = #[] := Array.eq_empty_of_size_eq_zero h0
    subst this
    refine ⟨rfl, ?_⟩
    simp [choose, Sem.run, Question.forced]
  · right
    have hne : L.isEmpty = false := by simp [Array.isEmpty, h0]
    simp only [hne, Bool.false_eq_true, if_false, Array.empty_append, Array.size_map]
    have hch : ∃ (j : Nat) (w1 : World), j < L.size ∧ w1.heap = w.heap ∧ w1.os = w.os ∧ w1.tape = w.tape ∧ w1.output = w.output ∧ (choose (Question.mapNext L.size)).run P w = .ok j w1 := by
      by_cases hf : L.size ≤ 1
      · exact ⟨0, w, by omega, rfl, rfl, rfl, rfl, by simp [choose, Sem.run, Question.forced, hf]⟩
      · exact ⟨_, { w with drawn := w.drawn + 1 }, Nat.mod_lt _ (by omega), rfl, rfl, rfl, rfl, by
          simp only [choose, Sem.run, Question.forced, decide_eq_true_eq, hf, if_false, Question.cut]
          rfl⟩
    obtain ⟨j, w1, hj, g1, g2, g3, g4, hrun⟩ := hch
    obtain ⟨s1, s2⟩ := run_setObj (P := P) (w := w1) (r := r) (o₁ := .mapIter (some bm) since (seen.push L[j].born) clock) (by rw [g1]; exact hr) (by simp)
    refine ⟨L[j], by simp, _, ⟨by rw [s2.os, g2], by rw [s2.tape, g3], by rw [s2.output, g4], by rw [s2.size, g1], s2.here, fun k hk => by rw [s2.there k hk, g1]⟩, ?_⟩
    simp only [hrun, Array.getElem?_map, Array.getElem?_eq_getElem hj, Option.map_some, Sem.run_bind, s1, Result.andThen]
    rfl
def bornLt (n : Nat) : List (VV × VV × Nat) → Bool
  | [] => true
  | e :: l => match Nat.blt e.2.2 n with | true => bornLt n l | false => false
def leftE (seen : List Nat) : List (VV × VV × Nat) → List (VV × VV × Nat)
  | [] => []
  | e :: l => match memN e.2.2 seen with | true => leftE seen l | false => e :: leftE seen l
def nextOuts (H : VH) (j i since : Nat) (seen : List Nat) (c : Nat) : List (VV × VV × Nat) → List (VV × VH)
  | [] => []
  | e :: l => (.tuple [.bool true, e.1, e.2.1], { H with locs := H.locs.put j (.miter i since (seen ++ [e.2.2]) c) }) :: nextOuts H j i since seen c l
/-- The next entry: any that is left. -/
def nextX (p : VV) (H : VH) : Option (List (VV × VH)) := match p with
  | .ptr (some ⟨.loc j, 0⟩) => match H.locs.get j with
    | some (.miter i since seen last) => match H.locs.get i with
      | some (.map es c) => match Nat.ble since last, bornLt since es with
        | true, true => match leftE seen es with
          | [] => some [(.tuple [.bool false], H)]
          | e :: l => some (nextOuts H j i since seen c (e :: l))
        | _, _ => none
      | _ => none
    | _ => none
  | _ => none
theorem bornLt_of {n : Nat} : ∀ {l : List (VV × VV × Nat)}, bornLt n l = true → ∀ e ∈ l, e.2.2 < n
  | [], _, e, he => by cases he
  | x :: l, h, e, he => by
    simp only [bornLt] at h
    split at h
    · rename_i h1
      rcases List.mem_cons.1 he with rfl | he
      · exact lt_of_blt h1
      · exact bornLt_of h e he
    · cases h
theorem leftE_mem {seen : List Nat} : ∀ {l : List (VV × VV × Nat)} {e : VV × VV × Nat}, e ∈ leftE seen l ↔ e ∈ l ∧ memN e.2.2 seen = false
  | [], e => by simp [leftE]
  | x :: l, e => by
    simp only [leftE]
    cases hx : memN x.2.2 seen with
    | true =>
      simp only [leftE_mem, List.mem_cons]
      constructor
      · exact fun h => ⟨.inr h.1, h.2⟩
      · rintro ⟨rfl | h1, h2⟩
        · rw [hx] at h2; cases h2
        · exact ⟨h1, h2⟩
    | false =>
      simp only [List.mem_cons, leftE_mem]
      constructor
      · rintro (rfl | ⟨h1, h2⟩)
        · exact ⟨.inl rfl, hx⟩
        · exact ⟨.inr h1, h2⟩
      · rintro ⟨rfl | h1, h2⟩
        · exact .inl rfl
        · exact .inr ⟨h1, h2⟩
theorem nextOuts_mem {H : VH} {j i since : Nat} {seen : List Nat} {c : Nat} : ∀ {l : List (VV × VV × Nat)} {e : VV × VV × Nat}, e ∈ l → ((VV.tuple [.bool true, e.1, e.2.1], { H with locs := H.locs.put j (.miter i since (seen ++ [e.2.2]) c) }) : VV × VH) ∈ nextOuts H j i since seen c l
  | x :: l, e, h => by
    simp only [nextOuts, List.mem_cons]
    rcases List.mem_cons.1 h with rfl | h
    · exact .inl rfl
    · exact .inr (nextOuts_mem h)
theorem nextX_sound [Ext] {P : Program} {w0 : World} {φ : Phi} {H : VH} {w : World} (hs : HSim w0 φ H w) {p : VV} {p' : Value} (hp : VR φ p p') {outs : List (VV × VH)} (h : nextX p H = some outs) (ty : TypeId) :
    ∃ v H₁ v' w₁, (v, H₁) ∈ outs ∧ (Instr.next p' false ty).run P w = .ok v' w₁ ∧ St φ w φ w₁ ∧ VR φ v v' ∧ HSim w0 φ H₁ w₁ ∧ H₁.base = H.base := by
  unfold nextX at h
  split at h
  · rename_i j
    split at h
    · rename_i i since seen last hj
      split at h
      · rename_i es c hi
        split at h
        · rename_i hsl hbl
          simp only [VR] at hp
          obtain ⟨a', s, ha, rfl⟩ := hp
          unfold AR at ha
          obtain ⟨inf, hφ, h1, h2⟩ := ha
          obtain ⟨inf1, o1, q1, q2, ⟨q0, inf2, q3, rfl⟩, q4⟩ := hs.live j _ hj
          rw [hφ] at q1; cases q1
          obtain ⟨inf3, o3, r1, r2, ⟨es', rfl, r3⟩, r4⟩ := hs.live i _ hi
          rw [q3] at r1; cases r1
          have ha' : a' = ⟨inf.blk, 0, none⟩ := by rw [h1, q0]; rfl
          subst ha'
          have hold : ∀ x ∈ (⟨es'⟩ : Array MapEntry).toList, x.born < since := by
            intro x hx
            obtain ⟨y, hy, _, _, hb⟩ := ERs_mem es es' r3 x hx
            rw [← hb]
            exact bornLt_of hbl y hy
          have hleft : ∀ e : MapEntry, e ∈ (leftOf ⟨es'⟩ ⟨seen⟩).toList ↔ e ∈ es' ∧ e.born ∉ seen := by
            intro e
            simp [leftOf]
          rcases run_next_at (P := P) w ty inf.blk inf2.blk since last ⟨seen⟩ ⟨es'⟩ c q2 r2 hold (Nat.le_of_ble_eq_true hsl) none with ⟨g1, g2⟩ | ⟨e, g1, w1, g2, g3⟩
          · have hnil : leftE seen es = [] := by
              cases hl : leftE seen es with
              | nil => rfl
              | cons x l =>
                have hx : x ∈ leftE seen es := by rw [hl]; simp
                obtain ⟨hx1, hx2⟩ := leftE_mem.1 hx
                obtain ⟨e, he, hb⟩ := ERs_mem' es es' r3 x hx1
                have : e ∈ (leftOf ⟨es'⟩ ⟨seen⟩).toList := (hleft e).2 ⟨he, by rw [← hb]; exact memN_false.1 hx2⟩
                have hz : (leftOf ⟨es'⟩ ⟨seen⟩).toList = [] := List.eq_nil_of_length_eq_zero (by simpa using g1)
                rw [hz] at this
                cases this
            rw [hnil] at h
            simp only [Option.some.injEq] at h
            subst h
            have hv : VR φ (.tuple [.bool false]) (.tuple #[.bool false]) := by
              simp only [VR]
              exact ⟨[.bool false], by simp [VRs, VR], rfl⟩
            exact ⟨.tuple [.bool false], H, _, w, List.mem_singleton.2 rfl, g2, .refl φ w, hv, hs, rfl⟩
          · obtain ⟨he1, he2⟩ := (hleft e).1 g1
            obtain ⟨x, hx, k1, k2, k3⟩ := ERs_mem es es' r3 e he1
            have hxl : x ∈ leftE seen es := leftE_mem.2 ⟨hx, memN_false.2 (by rw [k3]; exact he2)⟩
            have hh : outs = nextOuts H j i since seen c (leftE seen es) := by
              cases hl : leftE seen es with
              | nil => rw [hl] at hxl; cases hxl
              | cons y l => rw [hl] at h; simp only [Option.some.injEq] at h; exact h.symm
            subst hh
            refine ⟨_, _, _, w1, nextOuts_mem hxl, g3, St.upd hφ g2, ?_, hs.put hj hφ g2 ⟨q0, inf2, q3, by rw [k3]; simp⟩, rfl⟩
            simp only [VR]
            have hb : VR φ (.bool true) (.bool true) := by simp only [VR]
            refine ⟨[.bool true, e.key, e.val], ?_, rfl⟩
            unfold VRs
            refine ⟨_, _, rfl, hb, ?_⟩
            unfold VRs
            refine ⟨_, _, rfl, k1, ?_⟩
            unfold VRs
            refine ⟨_, _, rfl, k2, ?_⟩
            unfold VRs
            rfl
        · cases h
      · cases h
    · cases h
  · cases h
end
end Go.Ev
