/-
  Chapter 25: what a cache tells hangs on what its slots hold: plain laws; Of's whole contract.
-/
import Derived.Test.YticgadnmlbfmfaaTxK
namespace Go.Proofs.Yticgadnmlbfmfaa.cachePlays
open Go.Shelf Go.RowKit Go.Lib Go.Sort Go.Maps
/-- All that was told is so. -/
def Inv (K : Ca) : Prop := ∀ k v, K.tl k = some v → Chr K k v
def slots : List Int := (List.range 256).map Int.ofNat
theorem statE_none (K : Ca) (on b : Int) {l : List Ab} (h : (l.any fun x => x.kind == 4) = false) : statE K on b l = [] := by
  unfold statE
  rw [List.filterMap_eq_nil_iff]
  intro a ha
  rw [List.any_eq_false] at h
  have := h a ha
  rw [if_neg (fun hh => this (by simpa using hh.1))]
theorem flat_filter {α β : Type} (p : α → Bool) (f : α → List β) : ∀ (l : List α), (∀ x ∈ l, p x = false → f x = []) → (l.filter p).flatMap f = l.flatMap f
  | [], _ => rfl
  | x :: l, h => by
    have ih := flat_filter p f l (fun y hy => h y (List.mem_cons_of_mem _ hy))
    rw [List.flatMap_cons]
    cases hp : p x with
    | true => rw [List.filter_cons_of_pos hp, List.flatMap_cons, ih]
    | false => rw [List.filter_cons_of_neg (by rw [hp]; simp), ih, h x (List.mem_cons_self ..) hp, List.nil_append]
theorem flat_congr {α β : Type} {f g : α → List β} : ∀ (l : List α), (∀ x ∈ l, f x = g x) → l.flatMap f = l.flatMap g
  | [], _ => rfl
  | x :: l, h => by rw [List.flatMap_cons, List.flatMap_cons, h x (List.mem_cons_self ..), flat_congr l (fun y hy => h y (List.mem_cons_of_mem _ hy))]
theorem actE_all (K : Ca) (on : Int) : actE K on = slots.flatMap (fun b => statE K on b (K.at b).cd.abs) ++ (K.at on).effs := by
  unfold actE keysK
  rw [flat_filter]
  · rfl
  · intro b _ hb
    have : K.at b = zHd := by
      unfold Ca.at
      cases h : K.sl b with
      | none => rfl
      | some v => rw [h] at hb; cases hb
    rw [this]
    rfl
/-- The same slots tell the same. -/
theorem at_of {K L : Ca} (h : K.sl = L.sl) (k : Int) : K.at k = L.at k := by
  unfold Ca.at
  rw [h]
theorem actE_of {K L : Ca} (h : K.sl = L.sl) (on : Int) : actE K on = actE L on := by
  rw [actE_all, actE_all]
  simp only [at_of h, statE]
theorem Chr.of {K L : Ca} (h : K.sl = L.sl) {k : Int} {v : Int × Int × Int} (c : Chr K k v) : Chr L k v := by
  obtain ⟨R, h1, h2⟩ := c
  rw [actE_of h, at_of h] at *
  exact ⟨R, h1, h2⟩
theorem Chr.uniq {K : Ca} {k : Int} {v u : Int × Int × Int} (c : Chr K k v) (d : Chr K k u) : v = u := by
  obtain ⟨R, h1, rfl⟩ := c
  obtain ⟨T, h3, rfl⟩ := d
  rw [h1.uniq h3]
theorem set_at (K : Ca) (i : Int) (h : Hd) (k : Int) : (K.set i h).at k = if k = i then h else K.at k := by
  show ((if k = i then some h else K.sl k).getD zHd) = _
  split <;> rfl
theorem Inv.put {K : Ca} (h : Inv K) (i : Int) (x : Hd) : Inv (K.put i x) := by
  intro k v hv
  unfold Ca.put at hv ⊢
  cases hs : (stat (K.at i).cd || stat x.cd) with
  | true =>
    rw [hs, if_pos rfl] at hv
    cases hv
  | false =>
    rw [hs, if_neg (by simp)] at hv
    rw [if_neg (by simp)]
    rw [Bool.or_eq_false_iff] at hs
    have hv : (if k = i then none else K.tl k) = some v := hv
    split at hv
    · cases hv
    · rename_i hk
      obtain ⟨R, h1, h2⟩ := h k v hv
      have ha : ∀ b, ((K.set i x).soil i).at b = if b = i then x else K.at b := fun b => set_at K i x b
      have e : actE ((K.set i x).soil i) k = actE K k := by
        rw [actE_all, actE_all]
        rw [ha k, if_neg hk]
        congr 1
        refine flat_congr _ fun b _ => ?_
        by_cases hb : b = i
        · subst hb
          rw [ha, if_pos rfl, statE_none _ _ _ hs.2, statE_none _ _ _ hs.1]
        · rw [ha b, if_neg hb]
          unfold statE
          simp only [ha, if_neg hb, if_neg hk]
      refine ⟨R, by rw [e]; exact h1, ?_⟩
      rw [ha, if_neg hk]
      exact h2
theorem Inv.same {K L : Ca} (h : Inv K) (hs : K.sl = L.sl) (ht : ∀ k v, L.tl k = some v → K.tl k = some v ∨ Chr K k v) : Inv L := fun k v hv => by
  rcases ht k v hv with h1 | h1
  · exact (h k v h1).of hs
  · exact h1.of hs
theorem put_sl (K : Ca) (i : Int) (x : Hd) : (K.put i x).sl = fun k => if k = i then some x else K.sl k := by
  unfold Ca.put
  split <;> rfl
theorem put_cards (K : Ca) (i : Int) (x : Hd) : (K.put i x).cards = K.cards := by
  unfold Ca.put
  split <;> rfl
/-- What Of answers. -/
def OfV (K : Ca) (i : Int) : Option (Int × Int × Int) → Prop
  | none => K.sl i = none ∨ (K.at i).cd.kind ≠ 2
  | some v => (K.sl i).isSome = true ∧ (K.at i).cd.kind = 2 ∧ Chr K i v
def encR : Option (Int × Int × Int) → Value
  | none => .tuple #[.agg (encV (0, 0, 0)).toArray, .bool false]
  | some v => .tuple #[.agg (encV v).toArray, .bool true]
/-- A cache that holds the same, and tells the truth. -/
def Same (Z : Nat → Prop) (w : World) (cb sb tb : Nat) (K : Ca) (w' : World) : Prop := ∃ K', CaAt Z w' cb sb tb K' ∧ K'.sl = K.sl ∧ K'.cards = K.cards ∧ Inv K' ∧ K3 cb sb tb w w'
def OfOK (Z : Nat → Prop) (w : World) (cb sb tb : Nat) (K : Ca) (i : Int) (e : Ending) (w' : World) : Prop := ∃ r, e = .returned (encR r) ∧ OfV K i r ∧ Same Z w cb sb tb K w'
theorem ofs_calls {Z : Nat → Prop} {w : World} {cb sb tb : Nat} {K : Ca} (h : CaAt Z w cb sb tb K) (hI : Inv K) (i : Int) : Calls Try.prog 11 #[.pointer (some ⟨cb, 0, none⟩), .int .i64 i] w (OfOK Z w cb sb tb K i) := by
  have oy9 : ∀ v ∈ zv92, v.oneCell' = true := by
    intro v hv
    have e : zv92 = zv30 ++ zv82 := rfl
    rw [e] at hv
    rcases List.mem_append.1 hv with h | h
    · exact (zHdR Z w).one v h
    · exact (zHdR Z w).c.one v h
  cases hs : K.sl i with
  | none =>
    refine (of_none layQ fsT ⟨rfl, rfl, rfl, rfl⟩ rfl oy9 h hs).mono ?_
    rintro e w' ⟨rfl, hc, hk⟩
    exact ⟨none, rfl, .inl hs, K, hc, rfl, rfl, hI, hk⟩
  | some hd =>
    have hi : (K.sl i).isSome = true := by rw [hs]; rfl
    by_cases hk : (K.at i).cd.kind = 2
    · cases hv : K.tl i with
      | none =>
        refine (of_new layQ fsT ⟨rfl, rfl, rfl, rfl⟩ rfl oy9 delT ofT h hi hk hv).mono ?_
        rintro e w' ⟨v, hcv, rfl, hc, hk3⟩
        refine ⟨some v, rfl, ⟨hi, hk, hcv⟩, _, hc, rfl, rfl, hI.same rfl (fun k u hu => ?_), hk3⟩
        have hu : (if k = i then some v else K.tl k) = some u := hu
        by_cases e : k = i
        · subst e
          rw [if_pos rfl] at hu
          cases hu
          exact .inr hcv
        · rw [if_neg e] at hu
          exact .inl hu
      | some v =>
        refine (of_told layQ fsT ⟨rfl, rfl, rfl, rfl⟩ rfl oy9 delT h hi hk hv).mono ?_
        rintro e w' ⟨rfl, hc, hk3⟩
        exact ⟨some v, rfl, ⟨hi, hk, hI i v hv⟩, _, hc, rfl, rfl, hI.same rfl (fun k u hu => .inl hu), hk3⟩
    · refine (of_bare layQ fsT ⟨rfl, rfl, rfl, rfl⟩ rfl oy9 delT h hi hk).mono ?_
      rintro e w' ⟨rfl, hc, hk3⟩
      exact ⟨none, rfl, .inr hk, _, hc, rfl, rfl, hI.same rfl (fun k u hu => .inl hu), hk3⟩
/-- Put, told. -/
def PutOK (Z : Nat → Prop) (w : World) (cb sb tb : Nat) (K : Ca) (i : Int) (h : Hd) (e : Ending) (w' : World) : Prop := e = .returned (.tuple #[]) ∧ ∃ Z', CaAt Z' w' cb sb tb (K.put i h) ∧ K3 cb sb tb w w' ∧ (∀ b, Z' b → Z b ∨ w.heap.size ≤ b)
theorem put_calls {Z Zo : Nat → Prop} {w : World} {cb sb tb : Nat} {K : Ca} (h : CaAt Z w cb sb tb K) {i : Int} (hi : 0 ≤ i) (hi2 : i < 256) {ob : List Value} {card ctrl stamp : Int} {effs : List Ef} (hO : ObR Zo w ob card ctrl stamp effs) : Calls Try.prog 10 #[.pointer (some ⟨cb, 0, none⟩), .int .i64 i, .agg ob.toArray] w (PutOK Z w cb sb tb K i ⟨card, ctrl, stamp, effs, cdOf K.cards card⟩) :=
  put_in layQ fsT ⟨rfl, rfl, rfl, rfl⟩ putT zcT h hi hi2 hO
end Go.Proofs.Yticgadnmlbfmfaa.cachePlays
/-
  Chapter 25: the cards, walked.
-/
namespace Go.Proofs.Yticgadnmlbfmfaa.cachePlays
open Go.Shelf Go.RowKit Go.Lib Go.Sort Go.Maps
def abL (who op a b : Int) : List Value := [.int .i64 4, .int .i64 0, .int .i64 who, .int .i64 0, .int .i64 0, .int .i64 0, .int .i64 0, .bool false, .slice none 0 0, .slice none 0 0, .int .i64 op, .int .i64 a, .int .i64 b]
set_option maxHeartbeats 4000000 in
set_option maxRecDepth 100000 in
theorem one_calls (who op a b : Int) (w : World) : Calls Try.prog 25 #[.int .i64 who, .int .i64 op, .int .i64 a, .int .i64 b] w fun e w' => e = .returned (.slice (some ⟨w.heap.size, 0, none⟩) 1 1) ∧ w' = w.alloc (.cells (abL who op a b).toArray 89) := by
  go_enter Try.func25, Try.ntmps25
  go_wp2
  go_returns
  exact ⟨rfl, rfl⟩
theorem abR (who op a b : Int) : AbR (abL who op a b) ⟨4, who, op, a, b⟩ := by
  refine ⟨rfl, fun v hv => ?_, rfl, rfl, rfl, rfl, rfl⟩
  simp only [abL, List.mem_cons, List.not_mem_nil, or_false] at hv
  rcases hv with rfl | rfl | rfl | rfl | rfl | rfl | rfl | rfl | rfl | rfl | rfl | rfl | rfl <;> rfl
theorem blk_rowsZ {Z : Nat → Prop} {W : World} {b t k : Nat} {l : List (List Value)} (h : W.heap[b]? = some (.cells l.flatten.toArray t)) (hl : ∀ x ∈ l, x.length = k) (hz : Z b) : RowsZ Z W (some ⟨b, 0, none⟩) k l := by
  refine .inr ⟨b, 0, rfl, hz, blk_lt h, fun i x hx j v hv => ?_⟩
  have hj : j < k := by
    rw [← hl x (List.mem_of_getElem? hx)]
    exact (List.getElem?_eq_some_iff.1 hv).1
  rw [Nat.zero_add]
  exact hold_cell (blk_hold h) ((flatten_at hl i j x hx hj).trans hv)
def cdL (name : ByteArray) (kind pow tou : Int) (ab : Value) : List Value := [.string name, .int .i64 kind, .int .i64 0, .int .i64 0, .int .i64 0, .int .i64 0, .int .i64 0, .int .i64 pow, .int .i64 tou, .int .i64 0, ab]
theorem cdR {Z : Nat → Prop} {w : World} (name : ByteArray) (kind pow tou : Int) {ab : Value} {l : List Ab} (h : ∃ (ad : Option Addr) (cp : Nat) (rs : List (List Value)), ab = .slice ad l.length cp ∧ RowsZ Z w ad 13 rs ∧ rs.length = l.length ∧ ∀ (i : Nat) (r : List Value) (x : Ab), rs[i]? = some r → l[i]? = some x → AbR r x) (hl : l.length ≤ 1000) : CdR Z w (cdL name kind pow tou ab) ⟨kind, pow, tou, 0, l⟩ := by
  obtain ⟨ad, cp, rs, rfl, h2, h3, h4⟩ := h
  refine ⟨rfl, fun v hv => ?_, rfl, rfl, rfl, rfl, ⟨ad, cp, rs, rfl, h2, h3, h4⟩, hl⟩
  simp only [cdL, List.mem_cons, List.not_mem_nil, or_false] at hv
  rcases hv with rfl | rfl | rfl | rfl | rfl | rfl | rfl | rfl | rfl | rfl | rfl <;> rfl
theorem cdR_one {Z : Nat → Prop} {w : World} (name : ByteArray) (kind pow tou : Int) {b : Nat} {who op x y : Int} (hb : w.heap[b]? = some (.cells (abL who op x y).toArray 89)) (hz : Z b) : CdR Z w (cdL name kind pow tou (.slice (some ⟨b, 0, none⟩) 1 1)) ⟨kind, pow, tou, 0, [⟨4, who, op, x, y⟩]⟩ := by
  refine cdR name kind pow tou ⟨_, 1, [abL who op x y], rfl, blk_rowsZ (by simpa using hb) (fun x hx => by rw [List.mem_singleton.1 hx]; rfl) hz, rfl, fun i r z hr hx => ?_⟩ (by simp)
  match i, hr, hx with
  | 0, hr, hx =>
    cases hr
    cases hx
    exact abR _ _ _ _
theorem cdR_nil {Z : Nat → Prop} {w : World} (name : ByteArray) (kind pow tou : Int) : CdR Z w (cdL name kind pow tou (.slice none 0 0)) ⟨kind, pow, tou, 0, []⟩ :=
  cdR name kind pow tou ⟨none, 0, [], rfl, .inl rfl, rfl, fun i r x h => by simp at h⟩ (by simp)
/-- The five cards. -/
def fewC : List Cd := [⟨2, 2, 2, 0, []⟩, ⟨2, 1, 1, 0, [⟨4, 3, 4, 1, 1⟩]⟩, ⟨4, 0, 0, 0, [⟨4, 2, 3, 0, 1⟩]⟩, ⟨2, 1, 1, 0, [⟨4, 0, 1, 1, 0⟩]⟩, ⟨1, 0, 0, 0, []⟩]
def FewOK (w : World) (e : Ending) (w' : World) : Prop := ∃ ca c, e = .returned (.slice ca 5 c) ∧ Cs (fun b => w.heap.size ≤ b ∧ b < w'.heap.size) w' ca fewC ∧ Gr w w'
def fewL (s : Nat) : List (List Value) := [cdL ⟨#[98, 101, 97, 114]⟩ 2 2 2 (.slice none 0 0), cdL ⟨#[108, 111, 114, 100]⟩ 2 1 1 (.slice (some ⟨s, 0, none⟩) 1 1), cdL ⟨#[109, 105, 116, 101]⟩ 4 0 0 (.slice (some ⟨s + 1, 0, none⟩) 1 1), cdL ⟨#[98, 105, 114, 100]⟩ 2 1 1 (.slice (some ⟨s + 2, 0, none⟩) 1 1), cdL ⟨#[104, 105, 108, 108]⟩ 1 0 0 (.slice none 0 0)]
set_option maxHeartbeats 8000000 in
set_option maxRecDepth 100000 in
theorem few_calls (w : World) : Calls Try.prog 8 #[] w (FewOK w) := by
  go_enter Try.func8, Try.ntmps8
  go_wp2_with (first | (go_at_call 25; refine (one_calls _ _ _ _ _).mono ?_; rintro e w' ⟨rfl, rfl⟩))
  go_returns
  show FewOK w _ ((((w.alloc (.cells (abL 3 4 1 1).toArray 89)).alloc (.cells (abL 2 3 0 1).toArray 89)).alloc (.cells (abL 0 1 1 0).toArray 89)).alloc (.cells (fewL w.heap.size).flatten.toArray 82))
  have g : Gr w ((((w.alloc (.cells (abL 3 4 1 1).toArray 89)).alloc (.cells (abL 2 3 0 1).toArray 89)).alloc (.cells (abL 0 1 1 0).toArray 89)).alloc (.cells (fewL w.heap.size).flatten.toArray 82)) := ((((Gr.refl _).alloc _).alloc _).alloc _).alloc _
  have b0 : ((((w.alloc (.cells (abL 3 4 1 1).toArray 89)).alloc (.cells (abL 2 3 0 1).toArray 89)).alloc (.cells (abL 0 1 1 0).toArray 89)).alloc (.cells (fewL w.heap.size).flatten.toArray 82)).heap[w.heap.size]? = some (.cells (abL 3 4 1 1).toArray 89) := blk_old (blk_old (blk_old (blk_new _ _) _) _) _
  have b1 : ((((w.alloc (.cells (abL 3 4 1 1).toArray 89)).alloc (.cells (abL 2 3 0 1).toArray 89)).alloc (.cells (abL 0 1 1 0).toArray 89)).alloc (.cells (fewL w.heap.size).flatten.toArray 82)).heap[w.heap.size + 1]? = some (.cells (abL 2 3 0 1).toArray 89) := by
    have := blk_new (w.alloc (.cells (abL 3 4 1 1).toArray 89)) (.cells (abL 2 3 0 1).toArray 89)
    rw [World.size_alloc] at this
    exact blk_old (blk_old this _) _
  have b2 : ((((w.alloc (.cells (abL 3 4 1 1).toArray 89)).alloc (.cells (abL 2 3 0 1).toArray 89)).alloc (.cells (abL 0 1 1 0).toArray 89)).alloc (.cells (fewL w.heap.size).flatten.toArray 82)).heap[w.heap.size + 2]? = some (.cells (abL 0 1 1 0).toArray 89) := by
    have := blk_new ((w.alloc (.cells (abL 3 4 1 1).toArray 89)).alloc (.cells (abL 2 3 0 1).toArray 89)) (.cells (abL 0 1 1 0).toArray 89)
    rw [World.size_alloc, World.size_alloc] at this
    exact blk_old this _
  have b3 : ((((w.alloc (.cells (abL 3 4 1 1).toArray 89)).alloc (.cells (abL 2 3 0 1).toArray 89)).alloc (.cells (abL 0 1 1 0).toArray 89)).alloc (.cells (fewL w.heap.size).flatten.toArray 82)).heap[w.heap.size + 3]? = some (.cells (fewL w.heap.size).flatten.toArray 82) := by
    have := blk_new (((w.alloc (.cells (abL 3 4 1 1).toArray 89)).alloc (.cells (abL 2 3 0 1).toArray 89)).alloc (.cells (abL 0 1 1 0).toArray 89)) (.cells (fewL w.heap.size).flatten.toArray 82)
    rw [World.size_alloc, World.size_alloc, World.size_alloc] at this
    exact this
  have sz : ((((w.alloc (.cells (abL 3 4 1 1).toArray 89)).alloc (.cells (abL 2 3 0 1).toArray 89)).alloc (.cells (abL 0 1 1 0).toArray 89)).alloc (.cells (fewL w.heap.size).flatten.toArray 82)).heap.size = w.heap.size + 4 := by simp
  generalize ((((w.alloc (.cells (abL 3 4 1 1).toArray 89)).alloc (.cells (abL 2 3 0 1).toArray 89)).alloc (.cells (abL 0 1 1 0).toArray 89)).alloc (.cells (fewL w.heap.size).flatten.toArray 82)) = W at g b0 b1 b2 b3 sz ⊢
  refine ⟨_, 5, rfl, ⟨⟨fewL w.heap.size, blk_rowsZ b3 (fun x hx => ?_) ⟨by omega, by omega⟩, rfl, fun i r x hr hx => ?_⟩, by decide, fun b hb => hb.2⟩, g⟩
  · simp only [fewL, List.mem_cons, List.not_mem_nil, or_false] at hx
    rcases hx with rfl | rfl | rfl | rfl | rfl <;> rfl
  · match i, hr, hx with
    | 0, hr, hx =>
      cases hr
      cases hx
      exact cdR_nil _ _ _ _
    | 1, hr, hx =>
      cases hr
      cases hx
      exact cdR_one _ _ _ _ b0 ⟨by omega, by omega⟩
    | 2, hr, hx =>
      cases hr
      cases hx
      exact cdR_one _ _ _ _ b1 ⟨by omega, by omega⟩
    | 3, hr, hx =>
      cases hr
      cases hx
      exact cdR_one _ _ _ _ b2 ⟨by omega, by omega⟩
    | 4, hr, hx =>
      cases hr
      cases hx
      exact cdR_nil _ _ _ _
end Go.Proofs.Yticgadnmlbfmfaa.cachePlays
/-
  Chapter 25: a cache held by a law.
-/
namespace Go.Proofs.Yticgadnmlbfmfaa.cachePlays
open Go.Shelf Go.RowKit Go.Lib Go.Sort Go.Maps
/-- Nothing outside Y has changed. -/
structure OutK (Y : Nat → Prop) (w w' : World) : Prop where
  os : w'.os = w.os
  tape : w'.tape = w.tape
  output : w'.output = w.output
  size : w.heap.size ≤ w'.heap.size
  k : ∀ b, b < w.heap.size → ¬ Y b → w'.heap[b]? = w.heap[b]?
theorem OutK.trans {Y X : Nat → Prop} {a b c : World} (h : OutK Y a b) (g : OutK X b c) : OutK (fun k => Y k ∨ X k) a c := ⟨g.os.trans h.os, g.tape.trans h.tape, g.output.trans h.output, Nat.le_trans h.size g.size, fun k hk hn => (g.k k (Nat.lt_of_lt_of_le hk h.size) (fun h => hn (.inr h))).trans (h.k k hk (fun h => hn (.inl h)))⟩
theorem OutK.below {Y : Nat → Prop} {B : Nat} {a b c : World} (h : Below B a b) (g : OutK Y b c) (hY : ∀ k, Y k → B ≤ k) (hB : B ≤ b.heap.size) : Below B a c := ⟨g.os.trans h.os, g.tape.trans h.tape, g.output.trans h.output, Nat.le_trans h.size g.size, fun k hk => (g.k k (by omega) (fun h => by have := hY k h; omega)).trans (h.block k hk)⟩
/-- Blocks of Y, and new ones. -/
def YN (Y : Nat → Prop) (w w' : World) : Nat → Prop := fun b => Y b ∨ (w.heap.size ≤ b ∧ b < w'.heap.size)
/-- A cache of the five cards, in blocks of Y. -/
structure Hold (Y : Nat → Prop) (sl : Int → Option Hd) (D : Int → Prop) (cb : Nat) (W : World) : Prop where
  x : ∃ (Z : Nat → Prop) (sb tb : Nat) (K : Ca), CaAt Z W cb sb tb K ∧ K.sl = sl ∧ K.cards = fewC ∧ Inv K ∧ (∀ k, D k → K.dt k = true) ∧ (Y cb ∧ Y sb ∧ Y tb ∧ ∀ b, Z b → Y b) ∧ ∀ b, Y b → b < W.heap.size
theorem Hold.keep {Y : Nat → Prop} {sl : Int → Option Hd} {D : Int → Prop} {cb : Nat} {W W' : World} (h : Hold Y sl D cb W) (hs : W.heap.size ≤ W'.heap.size) (hk : ∀ k, Y k → W'.heap[k]? = W.heap[k]?) : Hold Y sl D cb W' := by
  obtain ⟨Z, sb, tb, K, h1, h2, h3, h4, h5, ⟨y1, y2, y3, y4⟩, h7⟩ := h.x
  exact ⟨⟨Z, sb, tb, K, h1.keep ⟨hs, fun b hb _ => hk b (y4 b hb)⟩ (hk _ y1) (hk _ y2) (hk _ y3), h2, h3, h4, h5, ⟨y1, y2, y3, y4⟩, fun b hb => Nat.lt_of_lt_of_le (h7 b hb) hs⟩⟩
theorem Hold.out {Y X : Nat → Prop} {sl : Int → Option Hd} {D : Int → Prop} {cb : Nat} {W W' : World} (h : Hold Y sl D cb W) (g : OutK X W W') (hd : ∀ k, Y k → ¬ X k) : Hold Y sl D cb W' := by
  obtain ⟨Z, sb, tb, K, h1, h2, h3, h4, h5, h6, h7⟩ := h.x
  exact h.keep g.size (fun k hk => g.k k (h7 k hk) (hd k hk))
theorem Hold.gr {Y : Nat → Prop} {sl : Int → Option Hd} {D : Int → Prop} {cb : Nat} {W W' : World} (h : Hold Y sl D cb W) (g : Gr W W') : Hold Y sl D cb W' := by
  obtain ⟨Z, sb, tb, K, _, _, _, _, _, _, h7⟩ := h.x
  exact h.keep (Gr.le g) (fun k hk => (gr_grown g).block k (h7 k hk) (by simp))
theorem Hold.less {Y : Nat → Prop} {sl : Int → Option Hd} {D D' : Int → Prop} {cb : Nat} {W : World} (h : Hold Y sl D cb W) (hd : ∀ k, D' k → D k) : Hold Y sl D' cb W := by
  obtain ⟨Z, sb, tb, K, h1, h2, h3, h4, h5, h6, h7⟩ := h.x
  exact ⟨⟨Z, sb, tb, K, h1, h2, h3, h4, fun k hk => h5 k (hd k hk), h6, h7⟩⟩
theorem K3.out {cb sb tb : Nat} {w w' : World} {Y : Nat → Prop} (h : K3 cb sb tb w w') (hy : Y cb ∧ Y sb ∧ Y tb) : OutK Y w w' := ⟨h.os, h.tape, h.output, h.size, fun k hk hn => h.k k hk (fun e => hn (e ▸ hy.1)) (fun e => hn (e ▸ hy.2.1)) (fun e => hn (e ▸ hy.2.2))⟩
/-- What Of answers, of what slots hold. -/
def K0 (sl : Int → Option Hd) : Ca := ⟨fewC, sl, fun _ => none, fun _ => false⟩
def OfS (sl : Int → Option Hd) (i : Int) (r : Option (Int × Int × Int)) : Prop := OfV (K0 sl) i r
theorem ofS_of {K : Ca} {i : Int} {r : Option (Int × Int × Int)} (h : OfV K i r) : OfS K.sl i r := by
  cases r with
  | none => exact h
  | some v => exact ⟨h.1, h.2.1, h.2.2.of rfl⟩
theorem OfS.uniq {sl : Int → Option Hd} {i : Int} {r q : Option (Int × Int × Int)} (h : OfS sl i r) (k : OfS sl i q) : r = q := by
  match r, q, h, k with
  | none, none, _, _ => rfl
  | some v, some u, h, k => rw [h.2.2.uniq k.2.2]
  | none, some u, h, k =>
    rcases h with h | h
    · have := k.1
      rw [show (K0 sl).sl i = none from h] at this
      cases this
    · exact absurd k.2.1 h
  | some u, none, k, h =>
    rcases h with h | h
    · have := k.1
      rw [show (K0 sl).sl i = none from h] at this
      cases this
    · exact absurd k.2.1 h
/-- One step of a law with a cache. -/
structure Step (Y : Nat → Prop) (sl : Int → Option Hd) (D : Int → Prop) (cb : Nat) (w w' : World) : Prop where
  h : Hold (YN Y w w') sl D cb w'
  o : OutK Y w w'
theorem cache_of {Y : Nat → Prop} {sl : Int → Option Hd} {D : Int → Prop} {cb : Nat} {W : World} (h : Hold Y sl D cb W) (i : Int) : Calls Try.prog 11 #[.pointer (some ⟨cb, 0, none⟩), .int .i64 i] W fun e w' => ∃ r, e = .returned (encR r) ∧ OfS sl i r ∧ Step Y sl (fun _ => False) cb W w' := by
  obtain ⟨Z, sb, tb, K, h1, rfl, h3, h4, h5, ⟨y1, y2, y3, y4⟩, h7⟩ := h.x
  refine (ofs_calls h1 h4 i).mono ?_
  rintro e w' ⟨r, rfl, hv, K', c1, c2, c3, c4, c5⟩
  exact ⟨r, rfl, ofS_of hv, ⟨⟨Z, sb, tb, K', c1, c2, c3.trans h3, c4, fun k hk => hk.elim, ⟨.inl y1, .inl y2, .inl y3, fun b hb => .inl (y4 b hb)⟩, fun b hb => hb.elim (fun h => Nat.lt_of_lt_of_le (h7 b h) c5.size) (fun h => h.2)⟩⟩, c5.out ⟨y1, y2, y3⟩⟩
theorem cache_put {Y Zo : Nat → Prop} {sl : Int → Option Hd} {D : Int → Prop} {cb : Nat} {W : World} (h : Hold Y sl D cb W) {i : Int} (hi : 0 ≤ i) (hi2 : i < 256) {ob : List Value} {card ctrl stamp : Int} {effs : List Ef} (hO : ObR Zo W ob card ctrl stamp effs) :
    Calls Try.prog 10 #[.pointer (some ⟨cb, 0, none⟩), .int .i64 i, .agg ob.toArray] W fun e w' => e = .returned (.tuple #[]) ∧ Step Y (fun k => if k = i then some ⟨card, ctrl, stamp, effs, cdOf fewC card⟩ else sl k) (fun k => stat (cdOf fewC card) = true ∧ (k = i ∨ (sl k).isSome = true)) cb W w' := by
  obtain ⟨Z, sb, tb, K, h1, rfl, h3, h4, h5, ⟨y1, y2, y3, y4⟩, h7⟩ := h.x
  refine (put_calls h1 hi hi2 hO).mono ?_
  rintro e w' ⟨rfl, Z', c1, c2, c3⟩
  rw [h3] at c1
  refine ⟨rfl, ⟨⟨Z', sb, tb, _, c1, put_sl _ _ _, (put_cards _ _ _).trans h3, h4.put i _, fun k hk => ?_, ⟨.inl y1, .inl y2, .inl y3, fun b hb => ?_⟩, fun b hb => hb.elim (fun h => Nat.lt_of_lt_of_le (h7 b h) c2.size) (fun h => h.2)⟩⟩, c2.out ⟨y1, y2, y3⟩⟩
  · obtain ⟨hs, hk⟩ := hk
    unfold Ca.put
    rw [if_pos (by simp only [hs, Bool.or_true])]
    show ((if k = i then some _ else K.sl k).isSome || _) = true
    rw [Bool.or_eq_true]
    left
    split
    · rfl
    · rename_i hne
      exact hk.resolve_left hne
  · rcases c3 b hb with h | h
    · exact .inl (y4 b h)
    · exact .inr ⟨h, c1.zl b hb⟩
theorem cache_new {W : World} {B : Nat} {ca : Option Addr} (hB : B ≤ W.heap.size) (h : Cs (fun b => B ≤ b ∧ b < W.heap.size) W ca fewC) (cc : Nat) : Calls Try.prog 7 #[.slice ca 5 cc] W fun e w' => ∃ cb, e = .returned (.pointer (some ⟨cb, 0, none⟩)) ∧ Hold (fun b => B ≤ b ∧ b < w'.heap.size) (fun _ => none) (fun _ => False) cb w' ∧ Below W.heap.size W w' := by
  refine (new_calls h cc).mono ?_
  rintro e w' ⟨cb, sb, tb, rfl, p1, p2, p3, hc, hb⟩
  have l := hc.lt
  exact ⟨cb, rfl, ⟨⟨_, sb, tb, _, hc, rfl, rfl, (fun k v hv => by cases hv), (fun k hk => hk.elim), ⟨⟨by omega, l.1⟩, ⟨by omega, l.2.1⟩, ⟨by omega, l.2.2⟩, fun b hb => ⟨by rcases hb with h | h <;> omega, hc.zl b hb⟩⟩, fun b hb => hb.2⟩⟩, hb⟩
end Go.Proofs.Yticgadnmlbfmfaa.cachePlays
/-
  Chapter 25: of, works, walked.
-/
namespace Go.Proofs.Yticgadnmlbfmfaa.cachePlays
open Go.Shelf Go.RowKit Go.Lib Go.Sort Go.Maps
theorem IsS.one {x : Ef} {R : List Ef} (h : IsS [x] R) : R = [x] := h.uniq ⟨.refl _, List.pairwise_singleton _ _, rfl⟩
theorem IsS.zero {R : List Ef} (h : IsS [] R) : R = [] := h.uniq ⟨.refl _, .nil, rfl⟩
def optR (b : Bool) (v : Int × Int × Int) : Option (Int × Int × Int) := if b then some v else none
/-- Of's answer, written out. -/
theorem cache_of' {Y : Nat → Prop} {sl : Int → Option Hd} {D : Int → Prop} {cb : Nat} {W : World} (h : Hold Y sl D cb W) (i : Int) : Calls Try.prog 11 #[.pointer (some ⟨cb, 0, none⟩), .int .i64 i] W fun e w' => ∃ (v0 v1 v2 : Int) (b : Bool), e = .returned (.tuple #[.agg #[.int .i64 v0, .int .i64 v1, .int .i64 v2], .bool b]) ∧ OfS sl i (optR b (v0, v1, v2)) ∧ (b = false → v0 = 0 ∧ v1 = 0 ∧ v2 = 0) ∧ Step Y sl (fun _ => False) cb W w' := by
  refine (cache_of h i).mono ?_
  rintro e w' ⟨r, rfl, hr, hs⟩
  match r, hr with
  | none, hr => exact ⟨0, 0, 0, false, rfl, hr, fun _ => ⟨rfl, rfl, rfl⟩, hs⟩
  | some (v0, v1, v2), hr => exact ⟨v0, v1, v2, true, rfl, hr, (fun h => by cases h), hs⟩
theorem Step.gr {Y : Nat → Prop} {sl : Int → Option Hd} {D : Int → Prop} {cb : Nat} {w w1 w2 : World} (h : Step Y sl D cb w w1) (g : Gr w1 w2) : Step Y sl D cb w w2 := by
  have h2 := h.o
  have gg := gr_grown g
  obtain ⟨Z, sb, tb, K, c1, c2, c3, c4, c5, ⟨y1, y2, y3, y4⟩, h7⟩ := h.h.x
  have up : ∀ b, YN Y w w1 b → YN Y w w2 b := fun b hb => hb.imp id (fun h => ⟨h.1, Nat.lt_of_lt_of_le h.2 gg.size⟩)
  have hlt : ∀ b, Y b → b < w2.heap.size := fun b hb => Nat.lt_of_lt_of_le (h7 b (.inl hb)) gg.size
  exact ⟨⟨⟨Z, sb, tb, K, c1.gr g, c2, c3, c4, c5, ⟨up _ y1, up _ y2, up _ y3, fun b hb => up b (y4 b hb)⟩, fun b hb => hb.elim (hlt b) (fun h => h.2)⟩⟩, ⟨gg.os.trans h2.os, gg.tape.trans h2.tape, gg.output.trans h2.output, Nat.le_trans h2.size gg.size, fun k hk hn => (gg.block k (Nat.lt_of_lt_of_le hk h2.size) (by simp)).trans (h2.k k hk hn)⟩⟩
def Of22OK (Y : Nat → Prop) (sl : Int → Option Hd) (cb : Nat) (W : World) (i p t : Int) (e : Ending) (w' : World) : Prop := ∃ (v0 v1 v2 : Int) (b : Bool), OfS sl i (optR b (v0, v1, v2)) ∧ e = .returned (.bool (b && v0 == p && v1 == t)) ∧ Step Y sl (fun _ => False) cb W w'
set_option maxHeartbeats 4000000 in
set_option maxRecDepth 100000 in
theorem of22_calls {Y : Nat → Prop} {sl : Int → Option Hd} {D : Int → Prop} {cb : Nat} {W : World} (h : Hold Y sl D cb W) (i p t : Int) : Calls Try.prog 22 #[.pointer (some ⟨cb, 0, none⟩), .int .i64 i, .int .i64 p, .int .i64 t] W (Of22OK Y sl cb W i p t) := by
  have mixed := mixedT
  have hc := cache_of' h i
  clear h
  go_enter Try.func22, Try.ntmps22
  go_upto_region 2 with (first | (go_at_call 11; refine hc.mono ?_; rintro e w1 ⟨v0, v1, v2, b, rfl, hr, hz0, hs⟩; have HS : Aside _ := hs; clear hs hz0))
  have b1 := blk_new w1 (.cells (encV (v0, v1, v2)).toArray 36)
  have S2 : Aside _ := HS.out.gr ((Gr.refl _).alloc (.cells #[.int .i64 v0, .int .i64 v1, .int .i64 v2] 36))
  have c0 := hold_cell (blk_hold b1) (j := 0) (v := .int .i64 v0) rfl
  have c1 := hold_cell (blk_hold b1) (j := 1) (v := .int .i64 v1) rfl
  simp only [encV] at c0 c1
  clear b1 HS
  cases b with
  | false =>
    go_wp2
    go_returns
    exact ⟨v0, v1, v2, false, hr, by simp, S2.out⟩
  | true =>
    cases h0 : (v0 == p) with
    | false =>
      go_wp2
      go_returns
      exact ⟨v0, v1, v2, true, hr, by simp [h0], S2.out⟩
    | true =>
      go_wp2
      go_returns
      exact ⟨v0, v1, v2, true, hr, by simp [h0], S2.out⟩
end Go.Proofs.Yticgadnmlbfmfaa.cachePlays
