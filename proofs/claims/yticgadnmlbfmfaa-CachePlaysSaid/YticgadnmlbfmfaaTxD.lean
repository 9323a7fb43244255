/-
  Chapter 25: maps from numbers to values, as functions.
-/
import Derived.MapKept
import Derived.Maps.RangeWalk
import Derived.Lib.SlKeysI
import Derived.Test.YticgadnmlbfmfaaTxA
namespace Go.Proofs.Yticgadnmlbfmfaa.cachePlays
open Go.Shelf Go.RowKit Go.Lib Go.Sort
open Go.WideElems (Fit rd rg pl rd_mk rg_of)
/-- A map of n entries, as a function. -/
def MapV (W : World) (b n : Nat) (F : Int → Option Value) : Prop := ∃ es clock, W.heap[b]? = some (.map es clock) ∧ es.size = n ∧ MapKept.Stamped es clock ∧ (∀ x ∈ es.toList, ∃ k, x.key = .int .i64 k ∧ F k = some x.val) ∧ (∀ k v, F k = some v → ∃ x ∈ es.toList, x.key = .int .i64 k ∧ x.val = v)
theorem MapV.lt {W : World} {b n : Nat} {F : Int → Option Value} (h : MapV W b n F) : b < W.heap.size := by
  obtain ⟨es, clock, hb, _⟩ := h
  exact blk_lt hb
theorem MapV.keep {W W' : World} {b n : Nat} {F : Int → Option Value} (h : MapV W b n F) (e : W'.heap[b]? = W.heap[b]?) : MapV W' b n F := by
  obtain ⟨es, clock, hb, r⟩ := h
  exact ⟨es, clock, e.trans hb, r⟩
theorem MapV.congr {W : World} {b n : Nat} {F G : Int → Option Value} (h : MapV W b n F) (e : ∀ k, F k = G k) : MapV W b n G := (funext e : F = G) ▸ h
theorem MapV.made (W : World) : MapV (W.alloc (.map #[] 0)) W.heap.size 0 fun _ => none := ⟨#[], 0, blk_new _ _, rfl, MapKept.stamped_empty 0, (fun x hx => by simp at hx), fun k v h => by cases h⟩
theorem MapV.found {es : Array MapEntry} {clock : Nat} {F : Int → Option Value} (hS : MapKept.Stamped es clock) (h1 : ∀ x ∈ es.toList, ∃ k, x.key = .int .i64 k ∧ F k = some x.val) (h2 : ∀ k v, F k = some v → ∃ x ∈ es.toList, x.key = .int .i64 k ∧ x.val = v) (k : Int) :
    (Instr.findNow (.int .i64) (.int .i64 k) es.toList 0 = some none ∧ F k = none ∧ ∀ x ∈ es.toList, x.key ≠ .int .i64 k) ∨ ∃ j e, Instr.findNow (.int .i64) (.int .i64 k) es.toList 0 = some (some (j, e.val)) ∧ es[j]? = some e ∧ e.key = .int .i64 k ∧ F k = some e.val := by
  have hk : MapKept.IsKey (.int .i64) (.int .i64 k) := rfl
  have hks : ∀ x ∈ es.toList, MapKept.IsKey (.int .i64) x.key := fun x hx => by
    obtain ⟨k', e, _⟩ := h1 x hx
    rw [e]
    rfl
  rcases MapKept.findNow_spec hk es.toList 0 hks with ⟨f1, f2⟩ | ⟨j, e0, f1, f2, f3⟩
  · refine .inl ⟨f1, ?_, f2⟩
    cases hf : F k with
    | none => rfl
    | some v =>
      obtain ⟨x, hx, hxk, _⟩ := h2 k v hf
      exact absurd hxk (f2 x hx)
  · obtain ⟨k', e1, e2⟩ := h1 e0 (List.mem_of_getElem? f2)
    rw [f3] at e1
    injection e1 with _ e1
    subst e1
    exact .inr ⟨j, e0, by simpa using f1, by simpa using f2, f3, e2⟩
section
variable {P : Program} {t e : TypeId} {z : Value} (ht : P.underlying t = some (.map 3 e)) (h3 : P.underlying 3 = some (.int .i64))
section
variable (hz : ∀ w, (zeroValue e).run P w = .ok z w)
include ht h3 hz
theorem MapV.look_ok {W : World} {b n : Nat} {F : Int → Option Value} (h : MapV W b n F) (k : Int) : (Instr.lookup t (.map (some b)) (.int .i64 k) true).run P W = .ok (.tuple #[(F k).getD z, .bool (F k).isSome]) W := by
  obtain ⟨es, clock, hb, hs, hS, h1, h2⟩ := h
  have hk : MapKept.IsKey (.int .i64) (.int .i64 k) := rfl
  rcases MapV.found hS h1 h2 k with ⟨f1, f2, _⟩ | ⟨j, e0, f1, f2, f3, f4⟩
  · rw [f2]
    simp [Instr.lookup, run_underlying ht, MapKept.run_getObj_map hb, MapKept.run_checkKey h3 hk, MapKept.run_findKey h3 f1, hz, Result.andThen]
  · rw [f4]
    simp [Instr.lookup, run_underlying ht, MapKept.run_getObj_map hb, MapKept.run_checkKey h3 hk, MapKept.run_findKey h3 f1, hz, Result.andThen]
theorem MapV.look {W : World} {b n : Nat} {F : Int → Option Value} (h : MapV W b n F) (k : Int) : (Instr.lookup t (.map (some b)) (.int .i64 k) false).run P W = .ok ((F k).getD z) W := by
  obtain ⟨es, clock, hb, hs, hS, h1, h2⟩ := h
  have hk : MapKept.IsKey (.int .i64) (.int .i64 k) := rfl
  rcases MapV.found hS h1 h2 k with ⟨f1, f2, _⟩ | ⟨j, e0, f1, f2, f3, f4⟩
  · rw [f2]
    simp [Instr.lookup, run_underlying ht, MapKept.run_getObj_map hb, MapKept.run_checkKey h3 hk, MapKept.run_findKey h3 f1, hz, Result.andThen]
  · rw [f4]
    simp [Instr.lookup, run_underlying ht, MapKept.run_getObj_map hb, MapKept.run_checkKey h3 hk, MapKept.run_findKey h3 f1, hz, Result.andThen]
end
include ht h3
/-- A store. -/
theorem MapV.put {W : World} {b n : Nat} {F : Int → Option Value} (h : MapV W b n F) (hn : n < maxLen) (k : Int) (v : Value) : ∃ W', (Instr.mapUpdate t (.map (some b)) (.int .i64 k) v).run P W = .ok () W' ∧ MapV W' b (if (F k).isSome then n else n + 1) (fun j => if j = k then some v else F j) ∧ W.grownBy W' (some b) ∧ W'.heap.size = W.heap.size := by
  obtain ⟨es, clock, hb, hs, hS, h1, h2⟩ := h
  have hk : MapKept.IsKey (.int .i64) (.int .i64 k) := rfl
  rcases MapV.found hS h1 h2 k with ⟨f1, f2, f3⟩ | ⟨j, e0, f1, f2, f3, f4⟩
  · refine ⟨{ W with heap := W.heap.setIfInBounds b (.map (es.push ⟨.int .i64 k, v, clock⟩) (clock + 1)) }, ?_, ⟨_, _, (MapKept.heap_set hb).1, ?_, MapKept.stamped_push hS f3, ?_, ?_⟩, ⟨rfl, rfl, rfl, by simp, fun i _ hi => (MapKept.heap_set hb).2 i (fun e => hi (by rw [e]))⟩, by simp⟩
    · simp [Instr.mapUpdate, run_underlying ht, MapKept.run_getObj_map hb, MapKept.run_checkKey h3 hk, MapKept.run_findKey h3 f1, MapKept.run_setObj_map _ hb, Result.andThen]
    · rw [f2]
      simp [hs]
    · intro x hx
      simp only [Array.toList_push, List.mem_append, List.mem_singleton] at hx
      rcases hx with hx | rfl
      · obtain ⟨k', e1, e2⟩ := h1 x hx
        refine ⟨k', e1, ?_⟩
        have : k' ≠ k := fun e => f3 x hx (by rw [e1, e])
        simp only [if_neg this, e2]
      · exact ⟨k, rfl, by simp⟩
    · intro k' v' hf
      have hf : (if k' = k then some v else F k') = some v' := hf
      simp only [Array.toList_push, List.mem_append, List.mem_singleton]
      by_cases hkk : k' = k
      · subst hkk
        rw [if_pos rfl] at hf
        cases hf
        exact ⟨_, .inr rfl, rfl, rfl⟩
      · rw [if_neg hkk] at hf
        obtain ⟨x, hx, e⟩ := h2 k' v' hf
        exact ⟨x, .inl hx, e⟩
  · have he : e0 ∈ es.toList := by
      have : e0 ∈ es := Array.mem_of_getElem? f2
      simpa using this
    refine ⟨{ W with heap := W.heap.setIfInBounds b (.map (es.modify j fun e' => { e' with key := .int .i64 k, val := v }) clock) }, ?_, ⟨_, _, (MapKept.heap_set hb).1, ?_, MapKept.stamped_modify hS j _ (fun _ _ => rfl) (fun e' _ he' => by rw [f2] at he'; cases he'; exact f3.symm), ?_, ?_⟩, ⟨rfl, rfl, rfl, by simp, fun i _ hi => (MapKept.heap_set hb).2 i (fun e => hi (by rw [e]))⟩, by simp⟩
    · simp [Instr.mapUpdate, run_underlying ht, MapKept.run_getObj_map hb, MapKept.run_checkKey h3 hk, MapKept.run_findKey h3 f1, f2, f3, MapKept.run_keyThatStays hk, MapKept.run_setObj_map _ hb, Result.andThen]
    · rw [f4]
      simp [hs]
    · intro x hx
      obtain ⟨i, hi, rfl⟩ := List.getElem_of_mem hx
      simp only [Array.getElem_toList, Array.getElem_modify]
      have hi' : i < es.size := by simpa using hi
      split
      · exact ⟨k, rfl, by simp⟩
      · rename_i hne
        obtain ⟨k', a1, a2⟩ := h1 es[i] (by simp)
        refine ⟨k', a1, ?_⟩
        by_cases hkk : k' = k
        · exfalso
          subst hkk
          have hjs : j < es.size := (Array.getElem?_eq_some_iff.1 f2).1
          have ej : es[j] = e0 := (Array.getElem?_eq_some_iff.1 f2).2
          refine hne ((List.getElem_inj (h₀ := by simpa using hjs) (h₁ := by simpa using hi') hS.2.2).1 ?_)
          simp only [List.getElem_map, Array.getElem_toList]
          rw [ej, f3, a1]
        · simp only [if_neg hkk, a2]
    · intro k' v2 hf
      have hf : (if k' = k then some v else F k') = some v2 := hf
      by_cases hkk : k' = k
      · subst hkk
        rw [if_pos rfl] at hf
        cases hf
        have hjs : j < es.size := (Array.getElem?_eq_some_iff.1 f2).1
        refine ⟨{ e0 with key := .int .i64 k', val := v }, ?_, rfl, rfl⟩
        have : (es.modify j fun e' => { e' with key := .int .i64 k', val := v })[j]? = some { e0 with key := .int .i64 k', val := v } := by
          rw [Array.getElem?_modify, if_pos rfl, f2]
          rfl
        exact Array.mem_toList_iff.2 (Array.mem_of_getElem? this)
      · rw [if_neg hkk] at hf
        obtain ⟨x, hx, e1, e2⟩ := h2 k' v2 hf
        obtain ⟨i, hi, rfl⟩ := List.getElem_of_mem hx
        have hij : j ≠ i := fun e3 => by
          subst e3
          have : es[j]? = some (es[j]'(by simpa using hi)) := Array.getElem?_eq_getElem _
          rw [f2] at this
          injection this with this
          simp only [Array.getElem_toList] at e1
          rw [← this, f3] at e1
          injection e1 with _ e1
          exact hkk e1.symm
        refine ⟨es.toList[i], ?_, e1, e2⟩
        have : (es.modify j fun e' => { e' with key := .int .i64 k, val := v })[i]? = some es.toList[i] := by
          rw [Array.getElem?_modify, if_neg hij]
          simp only [Array.getElem_toList]
          exact Array.getElem?_eq_getElem _
        exact Array.mem_toList_iff.2 (Array.mem_of_getElem? this)
/-- Taken out. -/
theorem MapV.del {W : World} {b n : Nat} {F : Int → Option Value} (h : MapV W b n F) (k : Int) (ty : TypeId) : ∃ W' n', (Builtin.delete_ #[t, 3] ty #[.map (some b), .int .i64 k]).run P W = .ok (.tuple #[]) W' ∧ MapV W' b n' (fun j => if j = k then none else F j) ∧ n' ≤ n ∧ W.grownBy W' (some b) ∧ W'.heap.size = W.heap.size := by
  obtain ⟨es, clock, hb, hs, hS, h1, h2⟩ := h
  have hk : MapKept.IsKey (.int .i64) (.int .i64 k) := rfl
  rcases MapV.found hS h1 h2 k with ⟨f1, f2, f3⟩ | ⟨j, e0, f1, f2, f3, f4⟩
  · refine ⟨{ W with heap := W.heap.setIfInBounds b (.map es clock) }, n, ?_, ⟨_, _, (MapKept.heap_set hb).1, hs, hS, ?_, ?_⟩, Nat.le_refl _, ⟨rfl, rfl, rfl, by simp, fun i _ hi => (MapKept.heap_set hb).2 i (fun e => hi (by rw [e]))⟩, by simp⟩
    · simp [Builtin.delete_, run_underlying ht, MapKept.run_getObj_map hb, MapKept.run_checkKey h3 hk, MapKept.run_findKey h3 f1, MapKept.run_setObj_map _ hb, Result.andThen]
    · intro x hx
      obtain ⟨k', e1, e2⟩ := h1 x hx
      refine ⟨k', e1, ?_⟩
      have : k' ≠ k := fun e => f3 x hx (by rw [e1, e])
      simp only [if_neg this, e2]
    · intro k' v hf
      have hf : (if k' = k then none else F k') = some v := hf
      split at hf
      · cases hf
      · exact h2 k' v hf
  · have hjs : j < es.size := (Array.getElem?_eq_some_iff.1 f2).1
    have ej : es[j] = e0 := (Array.getElem?_eq_some_iff.1 f2).2
    have hsub : (es.eraseIdxIfInBounds j).toList = es.toList.eraseIdx j := by
      unfold Array.eraseIdxIfInBounds
      rw [dif_pos hjs]
      simp
    have who : ∀ x, x ∈ (es.eraseIdxIfInBounds j).toList ↔ (x ∈ es.toList ∧ x.key ≠ .int .i64 k) := fun x => by
      rw [hsub, List.mem_eraseIdx_iff_getElem?]
      constructor
      · rintro ⟨i, hne, hi⟩
        refine ⟨List.mem_of_getElem? hi, fun e => hne ?_⟩
        have hil : i < es.toList.length := (List.getElem?_eq_some_iff.1 hi).1
        have hie : es.toList[i] = x := (List.getElem?_eq_some_iff.1 hi).2
        refine ((List.getElem_inj (h₀ := by simpa using hil) (h₁ := by simpa using hjs) hS.2.2).1 ?_)
        simp only [List.getElem_map, hie, Array.getElem_toList]
        rw [ej, f3, e]
      · rintro ⟨hx, hne⟩
        obtain ⟨i, hi, rfl⟩ := List.getElem_of_mem hx
        refine ⟨i, fun e1 => hne ?_, List.getElem?_eq_getElem hi⟩
        subst e1
        simp only [Array.getElem_toList, ej, f3]
    refine ⟨{ W with heap := W.heap.setIfInBounds b (.map (es.eraseIdxIfInBounds j) clock) }, (es.eraseIdxIfInBounds j).size, ?_, ⟨_, _, (MapKept.heap_set hb).1, rfl, MapKept.stamped_erase hS j, ?_, ?_⟩, by rw [← hs]; exact MapFrom.size_erase es j, ⟨rfl, rfl, rfl, by simp, fun i _ hi => (MapKept.heap_set hb).2 i (fun e => hi (by rw [e]))⟩, by simp⟩
    · simp [Builtin.delete_, run_underlying ht, MapKept.run_getObj_map hb, MapKept.run_checkKey h3 hk, MapKept.run_findKey h3 f1, MapKept.run_setObj_map _ hb, Result.andThen]
    · intro x hx
      obtain ⟨hx1, hx2⟩ := (who x).1 hx
      obtain ⟨k', e1, e2⟩ := h1 x hx1
      refine ⟨k', e1, ?_⟩
      have : k' ≠ k := fun e => hx2 (by rw [e1, e])
      simp only [if_neg this, e2]
    · intro k' v hf
      have hf : (if k' = k then none else F k') = some v := hf
      split at hf
      · cases hf
      · rename_i hne
        obtain ⟨x, hx, e1, e2⟩ := h2 k' v hf
        exact ⟨x, (who x).2 ⟨hx, fun e => hne (by rw [e1] at e; injection e)⟩, e1, e2⟩
end
/-- How an element reads where nobody asks what it is. -/
def anyR : Value → Option (DataW Unit × List MemPlace) := fun _ => some (.lit (.bool true), [])
/-- The numbers of a map whose keys are slots. -/
def keysF (F : Int → Option Value) : List Int := ((List.range 256).map Int.ofNat).filter fun k => (F k).isSome
theorem mem_keysF {F : Int → Option Value} (hF : ∀ k, (F k).isSome = true → 0 ≤ k ∧ k < 256) (k : Int) : k ∈ keysF F ↔ (F k).isSome = true := by
  unfold keysF
  rw [List.mem_filter, List.mem_map]
  constructor
  · exact fun h => h.2
  · intro h
    obtain ⟨h0, h1⟩ := hF k h
    exact ⟨⟨k.toNat, List.mem_range.2 (by omega), by simp only [Int.ofNat_eq_natCast]; omega⟩, h⟩
theorem keysF_sorted (F : Int → Option Value) : (keysF F).Pairwise (· < ·) := by
  refine List.Pairwise.filter _ ?_
  rw [List.pairwise_map]
  exact List.pairwise_lt_range.imp fun h => by simpa using h
theorem keysF_len (F : Int → Option Value) : (keysF F).length ≤ 256 := by
  refine Nat.le_trans (List.length_filter_le _ _) ?_
  simp
/-- As the kit holds a map. -/
theorem MapV.own {P : Program} (h3 : P.underlying 3 = some (.int .i64)) {W : World} {b n : Nat} {F : Int → Option Value} (h : MapV W b n F) (hn : n ≤ maxLen) (hF : ∀ k, (F k).isSome = true → 0 ≤ k ∧ k < 256) :
    ∃ D, W.ownsMap P 3 anyR b n D ∧ (∀ k, Maps.has D (.int .i64 k) = (F k).isSome) ∧ (keysF F).Perm (intKeys D) ∧ Maps.size D ≤ 256 := by
  obtain ⟨es, clock, hb, hs, hS, h1, h2⟩ := h
  have rdx : ∀ x ∈ es.toList, ∃ k, x.key = .int .i64 k ∧ F k = some x.val ∧ rd P 3 anyR x = some (.int .i64 k, .lit (.bool true)) := fun x hx => by
    obtain ⟨k, e1, e2⟩ := h1 x hx
    have := hF k (by rw [e2]; rfl)
    refine ⟨k, e1, e2, ?_⟩
    have hw : (Lit.int .i64 k).wf = true := by
      show (decide (IntKind.i64.min ≤ k) && decide (k ≤ IntKind.i64.max)) = true
      have e1 : IntKind.i64.min = -9223372036854775808 := by decide
      have e2 : IntKind.i64.max = 9223372036854775807 := by decide
      rw [Bool.and_eq_true, decide_eq_true_iff, decide_eq_true_iff, e1, e2]
      omega
    simp [rd, e1, keyOf, h3, mapKey, anyR, hw]
  have FT : Fit P 3 anyR es clock := ⟨by omega, hS, fun x hx => by
    obtain ⟨k, _, _, e⟩ := rdx x hx
    exact ⟨_, e⟩⟩
  have own : W.ownsMap P 3 anyR b n (.map ((es.toList.map (rg P 3 anyR)).foldr DataW.insert [])) := ⟨es, clock, hb, FT, by omega, rfl⟩
  have hh : ∀ k, Maps.has (DataW.map ((es.toList.map (rg P 3 anyR)).foldr DataW.insert [])) (.int .i64 k) = (F k).isSome := fun k => by
    rw [Bool.eq_iff_iff]
    show List.any _ _ = true ↔ _
    rw [List.any_eq_true]
    constructor
    · rintro ⟨p, hp, hk⟩
      obtain ⟨x, hx, rfl⟩ := List.mem_map.1 (mem_sorted.1 hp)
      obtain ⟨k', _, e2, e3⟩ := rdx x hx
      rw [rg_of e3] at hk
      have := WideAt.sameKey_eq hk
      injection this with _ this
      rw [← this, e2]
      rfl
    · intro hk
      obtain ⟨v, hv⟩ := Option.isSome_iff_exists.1 hk
      obtain ⟨x, hx, e1, _⟩ := h2 k v hv
      obtain ⟨k', e4, _, e3⟩ := rdx x hx
      refine ⟨_, mem_sorted.2 (List.mem_map.2 ⟨x, hx, rfl⟩), ?_⟩
      rw [rg_of e3]
      rw [e1] at e4
      injection e4 with _ e4
      subst e4
      simp [Lit.sameKey]
  have hp : (keysF F).Perm (intKeys (DataW.map ((es.toList.map (rg P 3 anyR)).foldr DataW.insert []))) := by
    obtain ⟨es', e, hpw, _⟩ := own.entries (Maps.int_keyed h3)
    rw [e]
    refine perm_intKeys hpw (fun p hp => ?_) ((keysF_sorted F).imp (fun h => by omega)) (fun x => by rw [← e, hh x]; exact mem_keysF hF x)
    injection e with e
    rw [← e] at hp
    obtain ⟨x, hx, rfl⟩ := List.mem_map.1 (mem_sorted.1 hp)
    obtain ⟨k', _, _, e3⟩ := rdx x hx
    exact ⟨k', by rw [rg_of e3]⟩
  refine ⟨_, own, hh, hp, ?_⟩
  have := hp.length_eq
  have hl := keysF_len F
  rw [this] at hl
  simpa [intKeys, Maps.size] using hl
theorem sorted_keys {F : Int → Option Value} {ss : List Int} (h : ss.Perm (keysF F)) : ss.mergeSort (fun x y => decide (x ≤ y)) = keysF F := by
  rw [mergeSort_of_perm_i h]
  exact List.mergeSort_of_pairwise ((keysF_sorted F).imp fun h => by simp; omega)
theorem MapV.le {W : World} {b n : Nat} {F : Int → Option Value} (h : MapV W b n F) (hF : ∀ k, (F k).isSome = true → 0 ≤ k ∧ k < 256) : n ≤ 256 := by
  obtain ⟨es, clock, hb, hs, hS, h1, h2⟩ := h
  have hp : ((keysF F).map fun k => Value.int .i64 k).Perm (es.toList.map (·.key)) := by
    refine (List.perm_ext_iff_of_nodup ?_ hS.2.2).2 fun v => ?_
    · exact List.pairwise_map.2 ((keysF_sorted F).imp fun h e => by injection e; omega)
    · rw [List.mem_map, List.mem_map]
      constructor
      · rintro ⟨k, hk, rfl⟩
        obtain ⟨v, hv⟩ := Option.isSome_iff_exists.1 ((mem_keysF hF k).1 hk)
        obtain ⟨x, hx, e, _⟩ := h2 k v hv
        exact ⟨x, hx, e⟩
      · rintro ⟨x, hx, rfl⟩
        obtain ⟨k, e1, e2⟩ := h1 x hx
        exact ⟨k, (mem_keysF hF k).2 (by rw [e2]; rfl), e1.symm⟩
  have := hp.length_eq
  have hl := keysF_len F
  simp only [List.length_map, Array.length_toList] at this
  omega
end Go.Proofs.Yticgadnmlbfmfaa.cachePlays
/-
  Chapter 25: what the walks need of the program.
-/
namespace Go.Proofs.Yticgadnmlbfmfaa.cachePlays
open Go.Shelf Go.RowKit Go.Lib Go.Sort
/-- The types, their sizes and zeros. -/
structure LayQ (P : Program) (k30 k82 k89 k92 : Nat) (y30 y82 y89 y92 : List Value) : Prop where
  mixed : P.follows .mixedOrders = true
  t3 : P.underlying 3 = some (TypeDesc.int IntKind.i64)
  a3 : ∀ w, (isAgg 3).run P w = .ok false w
  z3 : ∀ w, (Go.sizeOf 3).run P w = .ok 1 w
  v3 : ∀ w, (zeroValue 3).run P w = .ok (Value.int IntKind.i64 0) w
  t4 : P.underlying 4 = some TypeDesc.bool
  a4 : ∀ w, (isAgg 4).run P w = .ok false w
  z4 : ∀ w, (Go.sizeOf 4).run P w = .ok 1 w
  v4 : ∀ w, (zeroValue 4).run P w = .ok (Value.bool false) w
  t24 : P.underlying 24 = some (TypeDesc.pointer 86)
  a24 : ∀ w, (isAgg 24).run P w = .ok false w
  z24 : ∀ w, (Go.sizeOf 24).run P w = .ok 1 w
  v24 : ∀ w, (zeroValue 24).run P w = .ok (Value.pointer none) w
  t26 : P.underlying 26 = some (TypeDesc.slice 82)
  a26 : ∀ w, (isAgg 26).run P w = .ok false w
  z26 : ∀ w, (Go.sizeOf 26).run P w = .ok 1 w
  v26 : ∀ w, (zeroValue 26).run P w = .ok (Value.slice none 0 0) w
  t28 : P.underlying 28 = some (TypeDesc.slice 49)
  a28 : ∀ w, (isAgg 28).run P w = .ok false w
  z28 : ∀ w, (Go.sizeOf 28).run P w = .ok 1 w
  v28 : ∀ w, (zeroValue 28).run P w = .ok (Value.slice none 0 0) w
  t51 : P.underlying 51 = some (TypeDesc.int IntKind.u64)
  a51 : ∀ w, (isAgg 51).run P w = .ok false w
  z51 : ∀ w, (Go.sizeOf 51).run P w = .ok 1 w
  v51 : ∀ w, (zeroValue 51).run P w = .ok (Value.int IntKind.u64 0) w
  t69 : P.underlying 69 = some (TypeDesc.slice 3)
  a69 : ∀ w, (isAgg 69).run P w = .ok false w
  z69 : ∀ w, (Go.sizeOf 69).run P w = .ok 1 w
  v69 : ∀ w, (zeroValue 69).run P w = .ok (Value.slice none 0 0) w
  t80 : P.underlying 80 = some (TypeDesc.slice 89)
  a80 : ∀ w, (isAgg 80).run P w = .ok false w
  z80 : ∀ w, (Go.sizeOf 80).run P w = .ok 1 w
  v80 : ∀ w, (zeroValue 80).run P w = .ok (Value.slice none 0 0) w
  t83 : P.underlying 83 = some (TypeDesc.map 3 92)
  a83 : ∀ w, (isAgg 83).run P w = .ok false w
  z83 : ∀ w, (Go.sizeOf 83).run P w = .ok 1 w
  v83 : ∀ w, (zeroValue 83).run P w = .ok (Value.map none) w
  t84 : P.underlying 84 = some (TypeDesc.map 3 36)
  a84 : ∀ w, (isAgg 84).run P w = .ok false w
  z84 : ∀ w, (Go.sizeOf 84).run P w = .ok 1 w
  v84 : ∀ w, (zeroValue 84).run P w = .ok (Value.map none) w
  t30 : P.underlying 30 = some (TypeDesc.struct #[{ name := "Id", type := 3, offset := 0, embedded := false, tag := "", pkgPath := "", byteOffset := 0 }, { name := "Card", type := 3, offset := 1, embedded := false, tag := "", pkgPath := "", byteOffset := 8 }, { name := "Owner", type := 3, offset := 2, embedded := false, tag := "", pkgPath := "", byteOffset := 16 }, { name := "Ctrl", type := 3, offset := 3, embedded := false, tag := "", pkgPath := "", byteOffset := 24 }, { name := "Zone", type := 3, offset := 4, embedded := false, tag := "", pkgPath := "", byteOffset := 32 }, { name := "Tapped", type := 4, offset := 5, embedded := false, tag := "", pkgPath := "", byteOffset := 40 }, { name := "Sick", type := 4, offset := 6, embedded := false, tag := "", pkgPath := "", byteOffset := 41 }, { name := "Token", type := 4, offset := 7, embedded := false, tag := "", pkgPath := "", byteOffset := 42 }, { name := "Hurt", type := 3, offset := 8, embedded := false, tag := "", pkgPath := "", byteOffset := 48 }, { name := "Stamp", type := 3, offset := 9, embedded := false, tag := "", pkgPath := "", byteOffset := 56 }, { name := "Attack", type := 3, offset := 10, embedded := false, tag := "", pkgPath := "", byteOffset := 64 }, { name := "Block", type := 3, offset := 11, embedded := false, tag := "", pkgPath := "", byteOffset := 72 }, { name := "Stopped", type := 4, offset := 12, embedded := false, tag := "", pkgPath := "", byteOffset := 80 }, { name := "Effects", type := 28, offset := 13, embedded := false, tag := "", pkgPath := "", byteOffset := 88 }])
  a30 : ∀ w, (isAgg 30).run P w = .ok true w
  z30 : ∀ w, (Go.sizeOf 30).run P w = .ok k30 w
  v30 : ∀ w, (zeroValue 30).run P w = .ok (.agg y30.toArray) w
  t82 : P.underlying 82 = some (TypeDesc.struct #[{ name := "Name", type := 9, offset := 0, embedded := false, tag := "", pkgPath := "", byteOffset := 0 }, { name := "Kind", type := 3, offset := 1, embedded := false, tag := "", pkgPath := "", byteOffset := 16 }, { name := "Cost", type := 79, offset := 2, embedded := false, tag := "", pkgPath := "", byteOffset := 24 }, { name := "Color", type := 3, offset := 6, embedded := false, tag := "", pkgPath := "", byteOffset := 56 }, { name := "Power", type := 3, offset := 7, embedded := false, tag := "", pkgPath := "", byteOffset := 64 }, { name := "Tough", type := 3, offset := 8, embedded := false, tag := "", pkgPath := "", byteOffset := 72 }, { name := "Keys", type := 3, offset := 9, embedded := false, tag := "", pkgPath := "", byteOffset := 80 }, { name := "Abils", type := 80, offset := 10, embedded := false, tag := "", pkgPath := "", byteOffset := 88 }])
  a82 : ∀ w, (isAgg 82).run P w = .ok true w
  z82 : ∀ w, (Go.sizeOf 82).run P w = .ok k82 w
  v82 : ∀ w, (zeroValue 82).run P w = .ok (.agg y82.toArray) w
  t89 : P.underlying 89 = some (TypeDesc.struct #[{ name := "Kind", type := 3, offset := 0, embedded := false, tag := "", pkgPath := "", byteOffset := 0 }, { name := "Event", type := 3, offset := 1, embedded := false, tag := "", pkgPath := "", byteOffset := 8 }, { name := "Who", type := 3, offset := 2, embedded := false, tag := "", pkgPath := "", byteOffset := 16 }, { name := "Cost", type := 79, offset := 3, embedded := false, tag := "", pkgPath := "", byteOffset := 24 }, { name := "Tap", type := 4, offset := 7, embedded := false, tag := "", pkgPath := "", byteOffset := 56 }, { name := "Targets", type := 69, offset := 8, embedded := false, tag := "", pkgPath := "", byteOffset := 64 }, { name := "Code", type := 87, offset := 9, embedded := false, tag := "", pkgPath := "", byteOffset := 88 }, { name := "Op", type := 3, offset := 10, embedded := false, tag := "", pkgPath := "", byteOffset := 112 }, { name := "A", type := 3, offset := 11, embedded := false, tag := "", pkgPath := "", byteOffset := 120 }, { name := "B", type := 3, offset := 12, embedded := false, tag := "", pkgPath := "", byteOffset := 128 }])
  a89 : ∀ w, (isAgg 89).run P w = .ok true w
  z89 : ∀ w, (Go.sizeOf 89).run P w = .ok k89 w
  v89 : ∀ w, (zeroValue 89).run P w = .ok (.agg y89.toArray) w
  t92 : P.underlying 92 = some (TypeDesc.struct #[{ name := "Obj", type := 30, offset := 0, embedded := true, tag := "", pkgPath := "", byteOffset := 0 }, { name := "card", type := 82, offset := 14, embedded := false, tag := "", pkgPath := "trefoil/cache", byteOffset := 112 }])
  a92 : ∀ w, (isAgg 92).run P w = .ok true w
  z92 : ∀ w, (Go.sizeOf 92).run P w = .ok k92 w
  v92 : ∀ w, (zeroValue 92).run P w = .ok (.agg y92.toArray) w
  t36 : P.underlying 36 = some (TypeDesc.struct #[{ name := "Power", type := 3, offset := 0, embedded := false, tag := "", pkgPath := "", byteOffset := 0 }, { name := "Tough", type := 3, offset := 1, embedded := false, tag := "", pkgPath := "", byteOffset := 8 }, { name := "Keys", type := 3, offset := 2, embedded := false, tag := "", pkgPath := "", byteOffset := 16 }])
  a36 : ∀ w, (isAgg 36).run P w = .ok true w
  z36 : ∀ w, (Go.sizeOf 36).run P w = .ok 3 w
  v36 : ∀ w, (zeroValue 36).run P w = .ok (Value.agg #[Value.int IntKind.i64 0, Value.int IntKind.i64 0, Value.int IntKind.i64 0]) w
  t49 : P.underlying 49 = some (TypeDesc.struct #[{ name := "Op", type := 3, offset := 0, embedded := false, tag := "", pkgPath := "", byteOffset := 0 }, { name := "A", type := 3, offset := 1, embedded := false, tag := "", pkgPath := "", byteOffset := 8 }, { name := "B", type := 3, offset := 2, embedded := false, tag := "", pkgPath := "", byteOffset := 16 }, { name := "Stamp", type := 3, offset := 3, embedded := false, tag := "", pkgPath := "", byteOffset := 24 }])
  a49 : ∀ w, (isAgg 49).run P w = .ok true w
  z49 : ∀ w, (Go.sizeOf 49).run P w = .ok 4 w
  v49 : ∀ w, (zeroValue 49).run P w = .ok (Value.agg #[Value.int IntKind.i64 0, Value.int IntKind.i64 0, Value.int IntKind.i64 0, Value.int IntKind.i64 0]) w
  t53 : P.underlying 53 = some (TypeDesc.array 4 51)
  a53 : ∀ w, (isAgg 53).run P w = .ok true w
  z53 : ∀ w, (Go.sizeOf 53).run P w = .ok 4 w
  v53 : ∀ w, (zeroValue 53).run P w = .ok (Value.agg #[Value.int IntKind.u64 0, Value.int IntKind.u64 0, Value.int IntKind.u64 0, Value.int IntKind.u64 0]) w
  t86 : P.underlying 86 = some (TypeDesc.struct #[{ name := "cards", type := 26, offset := 0, embedded := false, tag := "", pkgPath := "trefoil/cache", byteOffset := 0 }, { name := "slots", type := 83, offset := 1, embedded := false, tag := "", pkgPath := "trefoil/cache", byteOffset := 24 }, { name := "told", type := 84, offset := 2, embedded := false, tag := "", pkgPath := "trefoil/cache", byteOffset := 32 }, { name := "dirty", type := 53, offset := 3, embedded := false, tag := "", pkgPath := "trefoil/cache", byteOffset := 40 }])
  a86 : ∀ w, (isAgg 86).run P w = .ok true w
  z86 : ∀ w, (Go.sizeOf 86).run P w = .ok 7 w
  v86 : ∀ w, (zeroValue 86).run P w = .ok (Value.agg #[Value.slice none 0 0, Value.map none, Value.map none, Value.int IntKind.u64 0, Value.int IntKind.u64 0, Value.int IntKind.u64 0, Value.int IntKind.u64 0]) w
def zv30 : List Value := [Value.int IntKind.i64 0, Value.int IntKind.i64 0, Value.int IntKind.i64 0, Value.int IntKind.i64 0, Value.int IntKind.i64 0, Value.bool false, Value.bool false, Value.bool false, Value.int IntKind.i64 0, Value.int IntKind.i64 0, Value.int IntKind.i64 0, Value.int IntKind.i64 0, Value.bool false, Value.slice none 0 0]
def zv82 : List Value := [Value.string { data := #[] }, Value.int IntKind.i64 0, Value.int IntKind.i64 0, Value.int IntKind.i64 0, Value.int IntKind.i64 0, Value.int IntKind.i64 0, Value.int IntKind.i64 0, Value.int IntKind.i64 0, Value.int IntKind.i64 0, Value.int IntKind.i64 0, Value.slice none 0 0]
def zv89 : List Value := [Value.int IntKind.i64 0, Value.int IntKind.i64 0, Value.int IntKind.i64 0, Value.int IntKind.i64 0, Value.int IntKind.i64 0, Value.int IntKind.i64 0, Value.int IntKind.i64 0, Value.bool false, Value.slice none 0 0, Value.slice none 0 0, Value.int IntKind.i64 0, Value.int IntKind.i64 0, Value.int IntKind.i64 0]
def zv92 : List Value := [Value.int IntKind.i64 0, Value.int IntKind.i64 0, Value.int IntKind.i64 0, Value.int IntKind.i64 0, Value.int IntKind.i64 0, Value.bool false, Value.bool false, Value.bool false, Value.int IntKind.i64 0, Value.int IntKind.i64 0, Value.int IntKind.i64 0, Value.int IntKind.i64 0, Value.bool false, Value.slice none 0 0, Value.string { data := #[] }, Value.int IntKind.i64 0, Value.int IntKind.i64 0, Value.int IntKind.i64 0, Value.int IntKind.i64 0, Value.int IntKind.i64 0, Value.int IntKind.i64 0, Value.int IntKind.i64 0, Value.int IntKind.i64 0, Value.int IntKind.i64 0, Value.slice none 0 0]
theorem layQ : LayQ Try.prog 14 11 13 25 zv30 zv82 zv89 zv92 where
  mixed := by kernel_rfl
  t3 := Try.underlying3
  a3 := Try.isAgg3
  z3 := Try.sizeOf3
  v3 := Try.zeroValue3
  t4 := Try.underlying4
  a4 := Try.isAgg4
  z4 := Try.sizeOf4
  v4 := Try.zeroValue4
  t24 := Try.underlying24
  a24 := Try.isAgg24
  z24 := Try.sizeOf24
  v24 := Try.zeroValue24
  t26 := Try.underlying26
  a26 := Try.isAgg26
  z26 := Try.sizeOf26
  v26 := Try.zeroValue26
  t28 := Try.underlying28
  a28 := Try.isAgg28
  z28 := Try.sizeOf28
  v28 := Try.zeroValue28
  t51 := Try.underlying51
  a51 := Try.isAgg51
  z51 := Try.sizeOf51
  v51 := Try.zeroValue51
  t69 := Try.underlying69
  a69 := Try.isAgg69
  z69 := Try.sizeOf69
  v69 := Try.zeroValue69
  t80 := Try.underlying80
  a80 := Try.isAgg80
  z80 := Try.sizeOf80
  v80 := Try.zeroValue80
  t83 := Try.underlying83
  a83 := Try.isAgg83
  z83 := Try.sizeOf83
  v83 := Try.zeroValue83
  t84 := Try.underlying84
  a84 := Try.isAgg84
  z84 := Try.sizeOf84
  v84 := Try.zeroValue84
  t30 := Try.underlying30
  a30 := Try.isAgg30
  z30 := Try.sizeOf30
  v30 := Try.zeroValue30
  t82 := Try.underlying82
  a82 := Try.isAgg82
  z82 := Try.sizeOf82
  v82 := Try.zeroValue82
  t89 := Try.underlying89
  a89 := Try.isAgg89
  z89 := Try.sizeOf89
  v89 := Try.zeroValue89
  t92 := Try.underlying92
  a92 := Try.isAgg92
  z92 := Try.sizeOf92
  v92 := Try.zeroValue92
  t36 := Try.underlying36
  a36 := Try.isAgg36
  z36 := Try.sizeOf36
  v36 := Try.zeroValue36
  t49 := Try.underlying49
  a49 := Try.isAgg49
  z49 := Try.sizeOf49
  v49 := Try.zeroValue49
  t53 := Try.underlying53
  a53 := Try.isAgg53
  z53 := Try.sizeOf53
  v53 := Try.zeroValue53
  t86 := Try.underlying86
  a86 := Try.isAgg86
  z86 := Try.sizeOf86
  v86 := Try.zeroValue86
end Go.Proofs.Yticgadnmlbfmfaa.cachePlays
