/-
  Chapter 25: a cache held by a law: what it tells was told.
-/
import Derived.Test.YticgadnmlbfmfaaTxU
namespace Go.Proofs.Yticgadnmlbfmfaa.cachePlays
open Go.Shelf Go.RowKit Go.Lib Go.Sort Go.Maps
theorem delB_ne {i k : Int} {dt : Int → Bool} (h : k ≠ i) : delB i dt k = dt k := by
  unfold delB
  rw [decide_eq_false h]
  rfl
theorem addB_ne {i k : Int} {dt : Int → Bool} (h : k ≠ i) : addB i dt k = dt k := by
  unfold addB
  rw [decide_eq_false h]
  rfl
theorem addB_self {i : Int} {dt : Int → Bool} : addB i dt i = true := by
  unfold addB
  rw [decide_eq_true rfl]
  rfl
/-- What is told of clean slots, was told. -/
structure Tld (K : Ca) (told : Int → Int × Int × Int) : Prop where
  a : ∀ k, (K.sl k).isSome = true → (K.at k).cd.kind = 2 → K.dt k = false → (K.tl k).isSome = true
  b : ∀ k v, K.tl k = some v → told k = v ∧ (K.at k).cd.kind = 2
/-- A cache of the five cards, in blocks of Y. -/
structure HoldK (Y : Nat → Prop) (K : Ca) (cb : Nat) (W : World) : Prop where
  x : ∃ (Z : Nat → Prop) (sb tb : Nat), CaAt Z W cb sb tb K ∧ Y cb ∧ Y sb ∧ Y tb ∧ ∀ b, Z b → Y b
  y : ∀ b, Y b → b < W.heap.size
  c : K.cards = fewC
  i : Inv K
theorem HoldK.keep {Y : Nat → Prop} {K : Ca} {cb : Nat} {W W' : World} (h : HoldK Y K cb W) (hs : W.heap.size ≤ W'.heap.size) (hk : ∀ k, Y k → W'.heap[k]? = W.heap[k]?) : HoldK Y K cb W' := by
  obtain ⟨Z, sb, tb, h1, y1, y2, y3, y4⟩ := h.x
  exact ⟨⟨Z, sb, tb, h1.keep ⟨hs, fun b hb _ => hk b (y4 b hb)⟩ (hk _ y1) (hk _ y2) (hk _ y3), y1, y2, y3, y4⟩, fun b hb => Nat.lt_of_lt_of_le (h.y b hb) hs, h.c, h.i⟩
theorem HoldK.gr {Y : Nat → Prop} {K : Ca} {cb : Nat} {W W' : World} (h : HoldK Y K cb W) (g : Gr W W') : HoldK Y K cb W' :=
  h.keep (Gr.le g) (fun k hk => (gr_grown g).block k (h.y k hk) (by simp))
theorem Tld.of_sl {K L : Ca} {told : Int → Int × Int × Int} (h : Tld K told) (hs : L.sl = K.sl) (hd : ∀ k, (K.sl k).isSome = true → (K.at k).cd.kind = 2 → L.dt k = false → K.dt k = false ∨ (L.tl k).isSome = true) (ht : ∀ k, (K.tl k).isSome = true → (L.tl k).isSome = true) {told' : Int → Int × Int × Int} (hb : ∀ k v, L.tl k = some v → told' k = v ∧ (K.at k).cd.kind = 2) : Tld L told' := by
  have ha : ∀ k, L.at k = K.at k := fun k => at_of hs k
  refine ⟨fun k h1 h2 h3 => ?_, fun k v hv => ?_⟩
  · rw [hs] at h1
    rw [ha] at h2
    rcases hd k h1 h2 h3 with h4 | h4
    · exact ht k (h.a k h1 h2 h4)
    · exact h4
  · rw [ha]
    exact hb k v hv
/-- Of, of such a cache. -/
def OfK (Y : Nat → Prop) (K : Ca) (cb : Nat) (w : World) (i : Int) (e : Ending) (w' : World) : Prop := ∃ r K', e = .returned (encR r) ∧ OfV K i r ∧ HoldK (YN Y w w') K' cb w' ∧ OutK Y w w' ∧ K'.sl = K.sl ∧ (∀ k, k ≠ i → K'.dt k = K.dt k ∧ K'.tl k = K.tl k) ∧ ∀ told, Tld K told → Tld K' (fun k => if k = i then r.getD (0, 0, 0) else told k)
theorem HoldK.next {Y : Nat → Prop} {cb sb tb : Nat} {Z : Nat → Prop} {K : Ca} {w w' : World} (hy : ∀ b, Y b → b < w.heap.size) (y1 : Y cb) (y2 : Y sb) (y3 : Y tb) (y4 : ∀ b, Z b → Y b ∨ w.heap.size ≤ b) (hc : CaAt Z w' cb sb tb K) (c : K.cards = fewC) (i : Inv K) (hs : w.heap.size ≤ w'.heap.size) : HoldK (YN Y w w') K cb w' :=
  ⟨⟨Z, sb, tb, hc, .inl y1, .inl y2, .inl y3, fun b hb => (y4 b hb).imp id fun h => ⟨h, hc.zl b hb⟩⟩, fun b hb => hb.elim (fun h => Nat.lt_of_lt_of_le (hy b h) hs) fun h => h.2, c, i⟩
theorem holdk_of {Y : Nat → Prop} {K : Ca} {cb : Nat} {w : World} (h : HoldK Y K cb w) (i : Int) : Calls Try.prog 11 #[.pointer (some ⟨cb, 0, none⟩), .int .i64 i] w (OfK Y K cb w i) := by
  obtain ⟨Z, sb, tb, hc, y1, y2, y3, y4⟩ := h.x
  have y5 : ∀ b, Z b → Y b ∨ w.heap.size ≤ b := fun b hb => .inl (y4 b hb)
  have oy9 : ∀ v ∈ zv92, v.oneCell' = true := by
    intro v hv
    have e : zv92 = zv30 ++ zv82 := rfl
    rw [e] at hv
    rcases List.mem_append.1 hv with h | h
    · exact (zHdR Z w).one v h
    · exact (zHdR Z w).c.one v h
  cases hs : K.sl i with
  | none =>
    refine (of_none layQ fsT ⟨rfl, rfl, rfl, rfl⟩ rfl oy9 hc hs).mono ?_
    rintro e w' ⟨rfl, hc', hk⟩
    refine ⟨none, K, rfl, .inl hs, HoldK.next h.y y1 y2 y3 y5 hc' h.c h.i hk.size, hk.out ⟨y1, y2, y3⟩, rfl, fun _ _ => ⟨rfl, rfl⟩, fun told ht => ⟨ht.a, fun k v hv => ?_⟩⟩
    have hne : k ≠ i := fun e => by
      have := hc.tr k (by rw [hv]; rfl)
      rw [e, hs] at this
      cases this
    rw [if_neg hne]
    exact ht.b k v hv
  | some hd =>
    have hi : (K.sl i).isSome = true := by rw [hs]; rfl
    by_cases hk : (K.at i).cd.kind = 2
    · cases hv : K.tl i with
      | none =>
        refine (of_new layQ fsT ⟨rfl, rfl, rfl, rfl⟩ rfl oy9 delT ofT hc hi hk hv).mono ?_
        rintro e w' ⟨v, hcv, rfl, hc', hk3⟩
        refine ⟨some v, _, rfl, ⟨hi, hk, hcv⟩, HoldK.next h.y y1 y2 y3 y5 hc' h.c (h.i.same rfl (fun k u hu => ?_)) hk3.size, hk3.out ⟨y1, y2, y3⟩, rfl, fun k hki => ⟨delB_ne hki, if_neg hki⟩, fun told ht => ht.of_sl (L := { K.clean i with tl := fun k => if k = i then some v else K.tl k }) rfl (fun k h1 h2 h3 => ?_) (fun k hk' => ?_) (fun k u hu => ?_)⟩
        · have hu : (if k = i then some v else K.tl k) = some u := hu
          by_cases e : k = i
          · subst e
            rw [if_pos rfl] at hu
            cases hu
            exact .inr hcv
          · rw [if_neg e] at hu
            exact .inl hu
        · by_cases e : k = i
          · right
            show (if k = i then some v else K.tl k).isSome = true
            rw [if_pos e]
            rfl
          · left
            have h3 : delB i K.dt k = false := h3
            rwa [delB_ne e] at h3
        · show (if k = i then some v else K.tl k).isSome = true
          split
          · rfl
          · exact hk'
        · have hu : (if k = i then some v else K.tl k) = some u := hu
          by_cases e : k = i
          · rw [if_pos e] at hu
            cases hu
            rw [if_pos e, e]
            exact ⟨rfl, hk⟩
          · rw [if_neg e] at hu
            rw [if_neg e]
            exact ht.b k u hu
      | some v =>
        refine (of_told layQ fsT ⟨rfl, rfl, rfl, rfl⟩ rfl oy9 delT hc hi hk hv).mono ?_
        rintro e w' ⟨rfl, hc', hk3⟩
        refine ⟨some v, _, rfl, ⟨hi, hk, h.i i v hv⟩, HoldK.next h.y y1 y2 y3 y5 hc' h.c (h.i.same rfl (fun k u hu => .inl hu)) hk3.size, hk3.out ⟨y1, y2, y3⟩, rfl, fun k hki => ⟨delB_ne hki, rfl⟩, fun told ht => ht.of_sl (L := K.clean i) rfl (fun k h1 h2 h3 => ?_) (fun k hk' => hk') (fun k u hu => ?_)⟩
        · by_cases e : k = i
          · right
            show (K.tl k).isSome = true
            rw [e, hv]
            rfl
          · left
            have h3 : delB i K.dt k = false := h3
            rwa [delB_ne e] at h3
        · have hu : K.tl k = some u := hu
          by_cases e : k = i
          · rw [if_pos e, e]
            rw [e, hv] at hu
            cases hu
            exact ⟨rfl, hk⟩
          · rw [if_neg e]
            exact ht.b k u hu
    · refine (of_bare layQ fsT ⟨rfl, rfl, rfl, rfl⟩ rfl oy9 delT hc hi hk).mono ?_
      rintro e w' ⟨rfl, hc', hk3⟩
      refine ⟨none, _, rfl, .inr hk, HoldK.next h.y y1 y2 y3 y5 hc' h.c (h.i.same rfl (fun k u hu => .inl hu)) hk3.size, hk3.out ⟨y1, y2, y3⟩, rfl, fun k hki => ⟨delB_ne hki, rfl⟩, fun told ht => ht.of_sl (L := K.clean i) rfl (fun k h1 h2 h3 => ?_) (fun k hk' => hk') (fun k u hu => ?_)⟩
      · by_cases e : k = i
        · exact absurd (e ▸ h2) hk
        · left
          have h3 : delB i K.dt k = false := h3
          rwa [delB_ne e] at h3
      · have hu : K.tl k = some u := hu
        by_cases e : k = i
        · exact absurd (e ▸ (ht.b k u hu).2) hk
        · rw [if_neg e]
          exact ht.b k u hu
theorem Tld.soilAll {K : Ca} {told : Int → Int × Int × Int} : Tld K.soilAll told := by
  refine ⟨fun k h1 _ h3 => ?_, fun k v hv => by cases hv⟩
  have h3 : ((K.sl k).isSome || K.dt k) = false := h3
  have h1 : (K.sl k).isSome = true := h1
  rw [h1] at h3
  cases h3
theorem Tld.put {K : Ca} {told : Int → Int × Int × Int} (h : Tld K told) (i : Int) (x : Hd) : Tld (K.put i x) told := by
  unfold Ca.put
  split
  · exact Tld.soilAll
  · have ha : ∀ b, ((K.set i x).soil i).at b = if b = i then x else K.at b := fun b => set_at K i x b
    refine ⟨fun k h1 h2 h3 => ?_, fun k v hv => ?_⟩
    · have h3 : addB i K.dt k = false := h3
      have hne : k ≠ i := fun e => by rw [e, addB_self] at h3; cases h3
      rw [addB_ne hne] at h3
      rw [ha, if_neg hne] at h2
      have h1 : (if k = i then some x else K.sl k).isSome = true := h1
      rw [if_neg hne] at h1
      show (if k = i then none else K.tl k).isSome = true
      rw [if_neg hne]
      exact h.a k h1 h2 h3
    · have hv : (if k = i then none else K.tl k) = some v := hv
      by_cases e : k = i
      · rw [if_pos e] at hv
        cases hv
      · rw [if_neg e] at hv
        rw [ha, if_neg e]
        exact h.b k v hv
theorem Tld.take {K : Ca} {told : Int → Int × Int × Int} (h : Tld K told) (i : Int) : Tld (K.take i) told := by
  unfold Ca.take
  split
  · exact Tld.soilAll
  · refine ⟨fun k h1 h2 h3 => ?_, fun k v hv => ?_⟩
    · have h1 : (if k = i then none else K.sl k).isSome = true := h1
      by_cases e : k = i
      · rw [if_pos e] at h1
        cases h1
      · rw [if_neg e] at h1
        have h3 : delB i K.dt k = false := h3
        rw [delB_ne e] at h3
        rw [drop_at, if_neg e] at h2
        show (if k = i then none else K.tl k).isSome = true
        rw [if_neg e]
        exact h.a k h1 h2 h3
    · have hv : (if k = i then none else K.tl k) = some v := hv
      by_cases e : k = i
      · rw [if_pos e] at hv
        cases hv
      · rw [if_neg e] at hv
        rw [drop_at, if_neg e]
        exact h.b k v hv
/-- Put and Take, of such a cache. -/
def StepK (Y : Nat → Prop) (K' : Ca) (cb : Nat) (w : World) (e : Ending) (w' : World) : Prop := e = .returned (.tuple #[]) ∧ HoldK (YN Y w w') K' cb w' ∧ OutK Y w w'
theorem holdk_put {Y Zo : Nat → Prop} {K : Ca} {cb : Nat} {w : World} (h : HoldK Y K cb w) {i : Int} (hi : 0 ≤ i) (hi2 : i < 256) {ob : List Value} {card ctrl stamp : Int} {effs : List Ef} (hO : ObR Zo w ob card ctrl stamp effs) :
    Calls Try.prog 10 #[.pointer (some ⟨cb, 0, none⟩), .int .i64 i, .agg ob.toArray] w (StepK Y (K.put i ⟨card, ctrl, stamp, effs, cdOf fewC card⟩) cb w) := by
  obtain ⟨Z, sb, tb, hc, y1, y2, y3, y4⟩ := h.x
  refine (put_calls hc hi hi2 hO).mono ?_
  rintro e w' ⟨rfl, Z', c1, c2, c3⟩
  rw [h.c] at c1
  exact ⟨rfl, HoldK.next h.y y1 y2 y3 (fun b hb => (c3 b hb).imp (y4 b) id) c1 ((put_cards _ _ _).trans h.c) (h.i.put i _) c2.size, c2.out ⟨y1, y2, y3⟩⟩
theorem take_cards (K : Ca) (i : Int) : (K.take i).cards = K.cards := by
  unfold Ca.take
  split <;> rfl
theorem take_sl (K : Ca) (i : Int) : (K.take i).sl = fun k => if k = i then none else K.sl k := by
  unfold Ca.take
  split <;> rfl
theorem holdk_take {Y : Nat → Prop} {K : Ca} {cb : Nat} {w : World} (h : HoldK Y K cb w) (i : Int) :
    Calls Try.prog 17 #[.pointer (some ⟨cb, 0, none⟩), .int .i64 i] w (StepK Y (if (K.sl i).isSome = true then K.take i else K) cb w) := by
  obtain ⟨Z, sb, tb, hc, y1, y2, y3, y4⟩ := h.x
  refine (take_calls hc i).mono ?_
  rintro e w' ⟨rfl, c1, c2⟩
  refine ⟨rfl, HoldK.next h.y y1 y2 y3 (fun b hb => .inl (y4 b hb)) c1 ?_ ?_ c2.size, c2.out ⟨y1, y2, y3⟩⟩
  · split
    · exact (take_cards _ _).trans h.c
    · exact h.c
  · split
    · exact h.i.take i
    · exact h.i
theorem holdk_dirty {Y : Nat → Prop} {K : Ca} {cb : Nat} {w : World} (h : HoldK Y K cb w) : Calls Try.prog 20 #[.pointer (some ⟨cb, 0, none⟩)] w (DirOK K w) := by
  obtain ⟨Z, sb, tb, hc, _⟩ := h.x
  exact dirty_calls hc
theorem holdk_new {W : World} {B : Nat} {ca : Option Addr} (hB : B ≤ W.heap.size) (h : Cs (fun b => B ≤ b ∧ b < W.heap.size) W ca fewC) (cc : Nat) : Calls Try.prog 7 #[.slice ca 5 cc] W fun e w' => ∃ cb, e = .returned (.pointer (some ⟨cb, 0, none⟩)) ∧ HoldK (fun b => B ≤ b ∧ b < w'.heap.size) (Ca.new fewC) cb w' ∧ Below W.heap.size W w' := by
  refine (new_calls h cc).mono ?_
  rintro e w' ⟨cb, sb, tb, rfl, p1, p2, p3, hc, hb⟩
  have l := hc.lt
  exact ⟨cb, rfl, ⟨⟨_, sb, tb, hc, ⟨by omega, l.1⟩, ⟨by omega, l.2.1⟩, ⟨by omega, l.2.2⟩, fun b hb => ⟨by rcases hb with h | h <;> omega, hc.zl b hb⟩⟩, fun b hb => hb.2, rfl, fun k v hv => by cases hv⟩, hb⟩
theorem Tld.new (cs : List Cd) (told : Int → Int × Int × Int) : Tld (Ca.new cs) told := ⟨(fun _ h => by cases h), (fun _ _ h => by cases h)⟩
end Go.Proofs.Yticgadnmlbfmfaa.cachePlays
/-
  Chapter 25: what chapter 14 tells of the state that the slots make is what a cache tells: plain.
-/
namespace Go.Proofs.Yticgadnmlbfmfaa.cachePlays
open Go.Shelf Go.RowKit Go.Lib Go.Sort Go.Maps
/-- What the law holds of a slot. -/
structure Sl where
  o : Ov
  e : List Ef
  is : Bool
  t : Int × Int × Int
structure Sl.ok (x : Sl) (k : Nat) : Prop where
  id : x.o.id = (k : Int) + 1
  c0 : 0 ≤ x.o.card
  c5 : x.o.card < 5
  n : x.e.length = x.o.en
  n1 : x.o.en ≤ 1
  l : ∀ y ∈ x.e, lyr y.1 ≠ 0
def hdS (x : Sl) : Hd := ⟨x.o.card, x.o.ctrl, x.o.st, x.e, cdOf fewC x.o.card⟩
def slS (D : Nat → Sl) : Int → Option Hd := fun k => if 0 ≤ k ∧ k < 16 ∧ (D k.toNat).is = true then some (hdS (D k.toNat)) else none
def onS (D : Nat → Sl) (n : Nat) : List Nat := (List.range n).filter fun k => (D k).is
def idS (k : Nat) : Int := (k : Int) + 1
theorem onS_nodup (D : Nat → Sl) (n : Nat) : (onS D n).Nodup := List.nodup_range.filter _
theorem mem_onS {D : Nat → Sl} {n k : Nat} : k ∈ onS D n ↔ k < n ∧ (D k).is = true := by
  unfold onS
  rw [List.mem_filter, List.mem_range]
theorem find_idx {js : List Nat} (hn : js.Nodup) {p j : Nat} (h : js[p]? = some j) : fnd (idS j) (js.map idS) 0 = p := by
  obtain ⟨hp, he⟩ := List.getElem?_eq_some_iff.1 h
  have := fnd_some (n := idS j) (l := js.map idS) (i := 0) (k := p) (by simpa using hp) (by
    rw [getElem!_pos (js.map idS) p (by simpa using hp), List.getElem_map, he]) (fun q hq e => by
    rw [getElem!_pos (js.map idS) q (by simp; omega), List.getElem_map] at e
    have e2 : js[q] = js[p] := by rw [he]; unfold idS at e; omega
    exact List.pairwise_iff_getElem.1 hn q p (by omega) hp hq e2)
  rw [this]
  omega
theorem find_no {js : List Nat} {j : Nat} (h : j ∉ js) : fnd (idS j) (js.map idS) 0 = -1 := by
  refine fnd_none fun q hq e => h ?_
  rw [getElem!_pos (js.map idS) q hq, List.getElem_map] at e
  have e2 : js[q]'(by simpa using hq) = j := by unfold idS at e; omega
  rw [← e2]
  exact List.getElem_mem _
/-- The state that the slots make. -/
def zr (k : Nat) : Value := if k ≤ 8 then .slice none 0 0 else if k = 21 then .slice none 0 0 else if k = 22 then .bool false else .int .i64 0
def stS (D : Nat → Sl) (oa : Option Addr) (oc : Nat) (fa : Option Addr) (fc : Nat) : Sv := ⟨(onS D 16).map fun k => (D k).o, oa, oc, (onS D 16).map idS, fa, fc, zr⟩
def abV (who op a b : Int) : Av := ⟨4, who, op, a, b, fun k => if k = 7 then .bool false else if k = 8 ∨ k = 9 then .slice none 0 0 else .int .i64 0⟩
def fewA : Nat → List Av := fun i => if i = 1 then [abV 3 4 1 1] else if i = 2 then [abV 2 3 0 1] else if i = 3 then [abV 0 1 1 0] else []
def fewV (s : Nat) : List Cv := [⟨⟨#[98, 101, 97, 114]⟩, 2, 0, 0, 0, 0, 0, 2, 2, 0, none, 0, 0⟩, ⟨⟨#[108, 111, 114, 100]⟩, 2, 0, 0, 0, 0, 0, 1, 1, 0, some ⟨s, 0, none⟩, 1, 1⟩, ⟨⟨#[109, 105, 116, 101]⟩, 4, 0, 0, 0, 0, 0, 0, 0, 0, some ⟨s + 1, 0, none⟩, 1, 1⟩, ⟨⟨#[98, 105, 114, 100]⟩, 2, 0, 0, 0, 0, 0, 1, 1, 0, some ⟨s + 2, 0, none⟩, 1, 1⟩, ⟨⟨#[104, 105, 108, 108]⟩, 1, 0, 0, 0, 0, 0, 0, 0, 0, none, 0, 0⟩]
theorem five {c : Int} (h : 0 ≤ c) (k : c < 5) : c = 0 ∨ c = 1 ∨ c = 2 ∨ c = 3 ∨ c = 4 := by omega
theorem fewV_cd (s : Nat) {c : Int} (h : 0 ≤ c) (k : c < 5) : ((fewV s)[c.toNat]!).kind = (cdOf fewC c).kind ∧ ((fewV s)[c.toNat]!).pow = (cdOf fewC c).pow ∧ ((fewV s)[c.toNat]!).tou = (cdOf fewC c).tou ∧ ((fewV s)[c.toNat]!).keys = (cdOf fewC c).keys := by
  rcases five h k with rfl | rfl | rfl | rfl | rfl <;> exact ⟨rfl, rfl, rfl, rfl⟩
theorem lyr_ops (c : Int) : ∀ a ∈ (cdOf fewC c).abs, lyr a.op ≠ 0 := by
  unfold cdOf
  split
  · rename_i h
    rcases five h.1 h.2 with rfl | rfl | rfl | rfl | rfl <;> decide
  · intro a ha
    cases ha
theorem fit_eq (who a b : Int) (q j : Nat) : fitB who (idS q) a (idS j) b = fitC who q j (a == b) := by
  have h : (idS q == idS j) = ((q : Int) == (j : Int)) := by
    rw [Bool.eq_iff_iff, beq_iff_eq, beq_iff_eq]
    unfold idS
    omega
  unfold fitB fitC
  rw [h]
  rfl
section
variable {D : Nat → Sl} {oa fa : Option Addr} {oc fc : Nat} {K : Ca}
theorem at_some (hK : K.sl = slS D) {j : Nat} (hj : j ∈ onS D 16) : K.sl j = some (hdS (D j)) ∧ K.at j = hdS (D j) := by
  obtain ⟨h1, h2⟩ := mem_onS.1 hj
  have e : K.sl j = some (hdS (D j)) := by
    rw [hK]
    unfold slS
    rw [if_pos ⟨by omega, by omega, by simpa using h2⟩]
    rfl
  refine ⟨e, ?_⟩
  unfold Ca.at
  rw [e]
  rfl
theorem at_none (hK : K.sl = slS D) {j : Nat} (hj : j ∉ onS D 16) : K.sl j = none := by
  rw [hK]
  unfold slS
  rw [if_neg]
  rintro ⟨_, h1, h2⟩
  exact hj (mem_onS.2 ⟨by omega, by simpa using h2⟩)
theorem keys_on (hK : K.sl = slS D) : keysK K = (onS D 16).map Int.ofNat := by
  unfold keysK
  rw [hK, List.filter_map]
  congr 1
  rw [show (256 : Nat) = 16 + 240 from rfl, List.range_add, List.filter_append]
  have h2 : (List.map (fun x => 16 + x) (List.range 240)).filter ((fun k => (slS D k).isSome) ∘ Int.ofNat) = [] := by
    rw [List.filter_eq_nil_iff]
    intro a ha
    obtain ⟨b, _, rfl⟩ := List.mem_map.1 ha
    show ¬ (slS D (Int.ofNat (16 + b))).isSome = true
    unfold slS
    rw [if_neg]
    · simp
    · rintro ⟨_, h, _⟩
      have h : ((16 + b : Nat) : Int) < 16 := h
      omega
  rw [h2, List.append_nil]
  unfold onS
  refine List.filter_congr fun k hk => ?_
  have hk := List.mem_range.1 hk
  show (slS D (Int.ofNat k)).isSome = _
  unfold slS
  by_cases h : (D k).is = true
  · rw [if_pos ⟨by simp, by show ((k : Nat) : Int) < 16; omega, by simpa using h⟩, h]
    rfl
  · rw [if_neg (by rintro ⟨_, _, h3⟩; exact h (by simpa using h3))]
    rw [Bool.not_eq_true] at h
    rw [h]
    rfl
theorem os_at {p j : Nat} (h : (onS D 16)[p]? = some j) : ((stS D oa oc fa fc).os[p]!) = (D j).o := by
  show ((onS D 16).map fun k => (D k).o)[p]! = _
  obtain ⟨hp, he⟩ := List.getElem?_eq_some_iff.1 h
  rw [getElem!_pos _ p (by simpa using hp), List.getElem_map, he]
variable (hok : ∀ k, k < 16 → (D k).is = true → (D k).ok k)
include hok
theorem ids_eq : (stS D oa oc fa fc).os.map Ov.id = (onS D 16).map idS := by
  show ((onS D 16).map fun k => (D k).o).map Ov.id = _
  rw [List.map_map]
  refine List.map_congr_left fun k hk => ?_
  obtain ⟨h1, h2⟩ := mem_onS.1 hk
  exact (hok k h1 h2).id
theorem find_at {p j : Nat} (h : (onS D 16)[p]? = some j) : (stS D oa oc fa fc).find (idS j) = p := by
  unfold Sv.find
  rw [ids_eq hok]
  exact find_idx (onS_nodup D 16) h
theorem bst_at (s : Nat) {p j : Nat} (h : (onS D 16)[p]? = some j) : bst (fewV s) (stS D oa oc fa fc) (idS j) = ((D j).o, (fewV s)[(D j).o.card.toNat]!, ((fewV s)[(D j).o.card.toNat]!).kind == 2) := by
  have hj : j ∈ onS D 16 := List.mem_of_getElem? h
  obtain ⟨h1, h2⟩ := mem_onS.1 hj
  have ok := hok j h1 h2
  have c0 := ok.c0
  have c5 := ok.c5
  unfold bst
  rw [find_at hok h, show (stS D oa oc fa fc).fs = (onS D 16).map idS from rfl, find_idx (onS_nodup D 16) h, if_neg (by omega), Int.toNat_natCast, os_at h]
  rw [if_neg (by rw [show (fewV s).length = 5 from rfl]; omega)]
theorem bst_no (s : Nat) {j : Nat} (h : j ∉ onS D 16) : bst (fewV s) (stS D oa oc fa fc) (idS j) = (zO, zC, false) := by
  unfold bst
  rw [if_pos]
  left
  unfold Sv.find
  rw [ids_eq hok, find_no h]
  decide
theorem con_eq (hK : K.sl = slS D) (s : Nat) {p q j : Nat} (h : (onS D 16)[p]? = some q) (hj : j ∈ onS D 16) : conE (fewV s) (stS D oa oc fa fc) fewA (D j).o p = statE K j q (K.at q).cd.abs := by
  have hq : q ∈ onS D 16 := List.mem_of_getElem? h
  obtain ⟨h1, h2⟩ := mem_onS.1 hq
  obtain ⟨h3, h4⟩ := mem_onS.1 hj
  have ok := hok q h1 h2
  have okj := hok j h3 h4
  unfold conE rcon smE cdE
  simp only [os_at h]
  rw [if_pos (by rw [decide_eq_true_eq, show (fewV s).length = 5 from rfl]; exact ⟨ok.c0, ok.c5⟩)]
  unfold statE
  rw [(at_some hK hq).2, (at_some hK hj).2]
  simp only [ok.id, okj.id]
  rw [show ((q : Int) + 1) = idS q from rfl, show ((j : Int) + 1) = idS j from rfl]
  simp only [fit_eq]
  unfold hdS
  simp only []
  rcases five ok.c0 ok.c5 with e | e | e | e | e <;> rw [e]
  · rfl
  · show adds _ 1 = List.filterMap _ [(⟨4, 3, 4, 1, 1⟩ : Ab)]
    rw [adds_succ]
    show (if ((4 : Int) = 4 ∧ fitC 3 q j ((D q).o.ctrl == (D j).o.ctrl) = true) then some _ else none).toList = _
    simp only [List.filterMap_cons, List.filterMap_nil]
    generalize fitC 3 q j ((D q).o.ctrl == (D j).o.ctrl) = b
    cases b <;> rfl
  · show adds _ 1 = List.filterMap _ [(⟨4, 2, 3, 0, 1⟩ : Ab)]
    rw [adds_succ]
    show (if ((4 : Int) = 4 ∧ fitC 2 q j ((D q).o.ctrl == (D j).o.ctrl) = true) then some _ else none).toList = _
    simp only [List.filterMap_cons, List.filterMap_nil]
    generalize fitC 2 q j ((D q).o.ctrl == (D j).o.ctrl) = b
    cases b <;> rfl
  · show adds _ 1 = List.filterMap _ [(⟨4, 0, 1, 1, 0⟩ : Ab)]
    rw [adds_succ]
    show (if ((4 : Int) = 4 ∧ fitC 0 q j ((D q).o.ctrl == (D j).o.ctrl) = true) then some _ else none).toList = _
    simp only [List.filterMap_cons, List.filterMap_nil]
    generalize fitC 0 q j ((D q).o.ctrl == (D j).o.ctrl) = b
    cases b <;> rfl
  · rfl
theorem all_eq (hK : K.sl = slS D) (s : Nat) {j : Nat} (hj : j ∈ onS D 16) : allE (fewV s) (stS D oa oc fa fc) fewA (fun p => (D ((onS D 16)[p]!)).e) (idS j) = actE K j := by
  obtain ⟨p, hp⟩ := List.mem_iff_getElem?.1 hj
  unfold allE actE
  rw [bst_at hok s hp, find_at hok hp, keys_on hK, (at_some hK hj).2]
  congr 1
  · unfold gath
    rw [show (stS D oa oc fa fc).fs = (onS D 16).map idS from rfl, List.flatMap_map, List.flatMap_map]
    refine flat_congr _ fun q hq => ?_
    obtain ⟨r, hr⟩ := List.mem_iff_getElem?.1 hq
    rw [find_at hok hr, if_pos (by omega), Int.toNat_natCast]
    exact con_eq hok hK s hr hj
  · obtain ⟨hp1, hp2⟩ := List.getElem?_eq_some_iff.1 hp
    show (D ((onS D 16)[((p : Int)).toNat]!)).e = (D j).e
    rw [Int.toNat_natCast, getElem!_pos _ p hp1, hp2]
theorem act_lyr (hK : K.sl = slS D) {j : Nat} (hj : j ∈ onS D 16) : ∀ a ∈ actE K j, hasL a = true := by
  intro a ha
  unfold actE at ha
  have hL : lyr a.1 ≠ 0 := by
    rcases List.mem_append.1 ha with h | h
    · obtain ⟨b, _, hb⟩ := List.mem_flatMap.1 h
      unfold statE at hb
      obtain ⟨x, hx, hx2⟩ := List.mem_filterMap.1 hb
      have hop : a.1 = x.op := by
        split at hx2
        · cases hx2; rfl
        · cases hx2
      rw [hop]
      by_cases hs : (K.sl b).isSome = true
      · rw [hK] at hs
        have e : K.at b = hdS (D b.toNat) := by
          unfold Ca.at
          rw [hK]
          unfold slS at hs ⊢
          split at hs
          · rename_i h
            rw [if_pos h]
            rfl
          · cases hs
        rw [e] at hx
        exact lyr_ops _ x hx
      · have e : K.at b = zHd := by
          unfold Ca.at
          cases h : K.sl b with
          | none => rfl
          | some v => rw [h] at hs; exact absurd rfl hs
        rw [e] at hx
        cases hx
    · rw [(at_some hK hj).2] at h
      obtain ⟨h1, h2⟩ := mem_onS.1 hj
      exact (hok j h1 h2).l a h
  unfold hasL
  rw [decide_eq_false hL]
  rfl
end
theorem ltCE : ltOf cmpC = ltOf cmpE := by
  funext x y
  rw [Bool.eq_iff_iff, ltC, ltE]
theorem isS_of {l R : List Ef} (h : Qe l R) (hl : ∀ a ∈ l, hasL a = true) : IsS l R := by
  obtain ⟨h1, h2⟩ := h
  rw [List.filter_eq_self.2 hl] at h1
  exact ⟨by rw [ltCE]; exact h1, by rw [ltCE]; exact h2, h1.len.symm⟩
theorem OfV.uniq {K : Ca} {i : Int} {r q : Option (Int × Int × Int)} (h : OfV K i r) (k : OfV K i q) : r = q := (ofS_of h).uniq (ofS_of k)
end Go.Proofs.Yticgadnmlbfmfaa.cachePlays
/-
  Chapter 25: chapter 14's Of, of the state that the slots make.
-/
namespace Go.Proofs.Yticgadnmlbfmfaa.cachePlays
open Go.Shelf Go.RowKit Go.Lib Go.Sort Go.Maps
/-- The five cards, where they lie. -/
structure FewB (w w' : World) : Prop where
  b0 : w'.heap[w.heap.size]? = some (.cells (abL 3 4 1 1).toArray 89)
  b1 : w'.heap[w.heap.size + 1]? = some (.cells (abL 2 3 0 1).toArray 89)
  b2 : w'.heap[w.heap.size + 2]? = some (.cells (abL 0 1 1 0).toArray 89)
  b3 : w'.heap[w.heap.size + 3]? = some (.cells (fewL w.heap.size).flatten.toArray 82)
  g : Gr w w'
theorem FewB.gr {w w' w2 : World} (h : FewB w w') (g : Gr w' w2) : FewB w w2 := ⟨blk_gr h.b0 g, blk_gr h.b1 g, blk_gr h.b2 g, blk_gr h.b3 g, Gr.trans h.g g⟩
def FewK (w : World) (e : Ending) (w' : World) : Prop := e = .returned (.slice (some ⟨w.heap.size + 3, 0, none⟩) 5 5) ∧ FewB w w'
set_option maxHeartbeats 8000000 in
set_option maxRecDepth 100000 in
theorem few2_calls (w : World) : Calls Try.prog 8 #[] w (FewK w) := by
  go_enter Try.func8, Try.ntmps8
  go_wp2_with (first | (go_at_call 25; refine (one_calls _ _ _ _ _).mono ?_; rintro e w' ⟨rfl, rfl⟩))
  go_returns
  show FewK w _ ((((w.alloc (.cells (abL 3 4 1 1).toArray 89)).alloc (.cells (abL 2 3 0 1).toArray 89)).alloc (.cells (abL 0 1 1 0).toArray 89)).alloc (.cells (fewL w.heap.size).flatten.toArray 82))
  have g : Gr w ((((w.alloc (.cells (abL 3 4 1 1).toArray 89)).alloc (.cells (abL 2 3 0 1).toArray 89)).alloc (.cells (abL 0 1 1 0).toArray 89)).alloc (.cells (fewL w.heap.size).flatten.toArray 82)) := ((((Gr.refl _).alloc _).alloc _).alloc _).alloc _
  have b0 : ((((w.alloc (.cells (abL 3 4 1 1).toArray 89)).alloc (.cells (abL 2 3 0 1).toArray 89)).alloc (.cells (abL 0 1 1 0).toArray 89)).alloc (.cells (fewL w.heap.size).flatten.toArray 82)).heap[w.heap.size]? = some (.cells (abL 3 4 1 1).toArray 89) := blk_old (blk_old (blk_old (blk_new _ _) _) _) _
  have b1 : ((((w.alloc (.cells (abL 3 4 1 1).toArray 89)).alloc (.cells (abL 2 3 0 1).toArray 89)).alloc (.cells (abL 0 1 1 0).toArray 89)).alloc (.cells (fewL w.heap.size).flatten.toArray 82)).heap[w.heap.size + 1]? = some (.cells (abL 2 3 0 1).toArray 89) := by
    have := blk_new (w.alloc (.cells (abL 3 4 1 1).toArray 89)) (.cells (abL 2 3 0 1).toArray 89)
    rw [World.size_alloc] at this
    exact blk_old (blk_old this _) _
  have b2 : ((((w.alloc (.cells (abL 3 4 1 1).toArray 89)).alloc (.cells (abL 2 3 0 1).toArray 89)).alloc (.cells (abL 0 1 1 0).toArray 89)).alloc (.cells (fewL w.heap.size).flatten.toArray 82)).heap[w.heap.size + 2]? = some (.cells (abL 0 1 1 0).toArray 89) := by
    have := blk_new ((w.alloc (.cells (abL 3 4 1 1).toArray 89)).alloc (.cells (abL 2 3 0 1).toArray 89)) (.cells (abL 0 1 1 0).toArray 89)
    rw [World.size_alloc, World.size_alloc] at this
    exact blk_old this _
  have b3 : ((((w.alloc (.cells (abL 3 4 1 1).toArray 89)).alloc (.cells (abL 2 3 0 1).toArray 89)).alloc (.cells (abL 0 1 1 0).toArray 89)).alloc (.cells (fewL w.heap.size).flatten.toArray 82)).heap[w.heap.size + 3]? = some (.cells (fewL w.heap.size).flatten.toArray 82) := by
    have := blk_new (((w.alloc (.cells (abL 3 4 1 1).toArray 89)).alloc (.cells (abL 2 3 0 1).toArray 89)).alloc (.cells (abL 0 1 1 0).toArray 89)) (.cells (fewL w.heap.size).flatten.toArray 82)
    rw [World.size_alloc, World.size_alloc, World.size_alloc] at this
    exact this
  exact ⟨rfl, b0, b1, b2, b3, g⟩
theorem rowsZ_rows {Z : Nat → Prop} {w : World} {a : Option Addr} {k : Nat} {l : List (List Value)} (h : RowsZ Z w a k l) : Rows w a k (l.map List.toArray) := by
  rcases h with h | ⟨B, O, e, _, hb, h⟩
  · left
    rw [h]
    rfl
  · refine .inr ⟨B, O, e, hb, fun i x hx j v hj => ?_⟩
    rw [List.getElem?_map, Option.map_eq_some_iff] at hx
    obtain ⟨y, hy, rfl⟩ := hx
    exact h i y hy j v (by simpa using hj)
theorem FewB.cards {w w' : World} (h : FewB w w') : Rows w' (some ⟨w.heap.size + 3, 0, none⟩) 11 ((fewV w.heap.size).map Cv.arr) := by
  have : RowsZ (fun _ => True) w' (some ⟨w.heap.size + 3, 0, none⟩) 11 (fewL w.heap.size) := blk_rowsZ h.b3 (fun x hx => by
    simp only [fewL, List.mem_cons, List.not_mem_nil, or_false] at hx
    rcases hx with rfl | rfl | rfl | rfl | rfl <;> rfl) trivial
  exact rowsZ_rows this
theorem abV_rows {w : World} {b : Nat} {who op x y : Int} (h : w.heap[b]? = some (.cells (abL who op x y).toArray 89)) : Rows w (some ⟨b, 0, none⟩) 13 ([abV who op x y].map Av.arr) := by
  have : RowsZ (fun _ => True) w (some ⟨b, 0, none⟩) 13 [abL who op x y] := blk_rowsZ (by simpa using h) (fun x hx => by rw [List.mem_singleton.1 hx]; rfl) trivial
  exact rowsZ_rows this
theorem abV_one (who op x y : Int) : ∀ v ∈ (abV who op x y).arr.toList, v.oneCell' = true := (abR who op x y).one
/-- The state's parts, in memory. -/
structure StM (D : Nat → Sl) (oa fa : Option Addr) (W : World) : Prop where
  o : Rows W oa 14 (((onS D 16).map fun k => (D k).o).map Ov.arr)
  f : Rows W fa 1 (((onS D 16).map idS).map fun n => #[.int .i64 n])
  e : ∀ k, k < 16 → (D k).is = true → Rows W (D k).o.ea 4 ((D k).e.map fun x => (encE x).toArray)
theorem StM.gr {D : Nat → Sl} {oa fa : Option Addr} {W W' : World} (h : StM D oa fa W) (g : Gr W W') : StM D oa fa W' := ⟨h.o.gr g, h.f.gr g, fun k hk hi => (h.e k hk hi).gr g⟩
theorem onS_len (D : Nat → Sl) : (onS D 16).length ≤ 16 := by
  have := List.length_filter_le (fun k => (D k).is) (List.range 16)
  rw [List.length_range] at this
  exact this
theorem dw_of {D : Nat → Sl} {oa fa : Option Addr} {oc fc : Nat} {w w' : World} (M : StM D oa fa w') (F : FewB w w') (hok : ∀ k, k < 16 → (D k).is = true → (D k).ok k) : Dw w' (fewV w.heap.size) (some ⟨w.heap.size + 3, 0, none⟩) (stS D oa oc fa fc) fewA (fun p => (D ((onS D 16)[p]!)).e) := by
  have hl := onS_len D
  refine ⟨⟨M.o, M.f, ?_, ?_⟩, F.cards, ?_, fun i hi => ?_, fun i hi => ?_⟩
  · show ((onS D 16).map fun k => (D k).o).length < _
    rw [List.length_map]
    omega
  · show ((onS D 16).map idS).length < _
    rw [List.length_map]
    omega
  · show ((onS D 16).map idS).length ≤ _
    rw [List.length_map]
    omega
  · have hi : i < 5 := hi
    obtain rfl | rfl | rfl | rfl | rfl : i = 0 ∨ i = 1 ∨ i = 2 ∨ i = 3 ∨ i = 4 := by omega
    · exact ⟨rfl, by show (0 : Nat) ≤ 1000; decide, .inl rfl, fun a ha => by cases ha⟩
    · exact ⟨rfl, by show (1 : Nat) ≤ 1000; decide, abV_rows F.b0, fun a ha => by rw [List.mem_singleton.1 ha]; exact abV_one _ _ _ _⟩
    · exact ⟨rfl, by show (1 : Nat) ≤ 1000; decide, abV_rows F.b1, fun a ha => by rw [List.mem_singleton.1 ha]; exact abV_one _ _ _ _⟩
    · exact ⟨rfl, by show (1 : Nat) ≤ 1000; decide, abV_rows F.b2, fun a ha => by rw [List.mem_singleton.1 ha]; exact abV_one _ _ _ _⟩
    · exact ⟨rfl, by show (0 : Nat) ≤ 1000; decide, .inl rfl, fun a ha => by cases ha⟩
  · have hi' : i < (onS D 16).length := by
      have : i < ((onS D 16).map fun k => (D k).o).length := hi
      rwa [List.length_map] at this
    have e1 : (stS D oa oc fa fc).os[i] = (D (onS D 16)[i]).o := by
      show ((onS D 16).map fun k => (D k).o)[i]'(by rwa [List.length_map]) = _
      rw [List.getElem_map]
    rw [e1, getElem!_pos (onS D 16) i hi']
    obtain ⟨h1, h2⟩ := mem_onS.1 (List.getElem_mem hi')
    have ok := hok _ h1 h2
    exact ⟨ok.n, Nat.le_trans ok.n1 (by decide), M.e _ h1 h2⟩
/-- Chapter 14's Of. -/
def ChOK (K : Ca) (j : Nat) (w : World) (e : Ending) (w' : World) : Prop := ∃ r, e = .returned (encR r) ∧ OfV K j r ∧ Below w.heap.size w w'
theorem chof_law {D : Nat → Sl} {oa fa : Option Addr} {oc fc : Nat} {w w' : World} {K : Ca} (M : StM D oa fa w') (F : FewB w w') (hok : ∀ k, k < 16 → (D k).is = true → (D k).ok k) (hK : K.sl = slS D) (cc j : Nat) :
    Calls Try.prog 23 #[.slice (some ⟨w.heap.size + 3, 0, none⟩) 5 cc, .agg (stS D oa oc fa fc).arr, .int .i64 (idS j)] w' (ChOK K j w') := by
  have W := dw_of (oc := oc) (fc := fc) M F hok
  by_cases hj : j ∈ onS D 16
  · obtain ⟨p, hp⟩ := List.mem_iff_getElem?.1 hj
    have hb := bst_at (oa := oa) (fa := fa) (oc := oc) (fc := fc) hok w.heap.size hp
    obtain ⟨h1, h2⟩ := mem_onS.1 hj
    have ok := hok j h1 h2
    obtain ⟨k1, k2, k3, k4⟩ := fewV_cd w.heap.size ok.c0 ok.c5
    obtain ⟨a1, a2⟩ := at_some hK hj
    by_cases hk : (cdOf fewC (D j).o.card).kind = 2
    · refine (of_all W cc (idS j) (by rw [hb]; show (_ == (2 : Int)) = true; rw [k1, hk]; rfl)).mono ?_
      rintro e w2 ⟨R, hR, rfl, hB⟩
      refine ⟨some _, rfl, ⟨by rw [a1]; rfl, by rw [a2]; exact hk, R, ?_, ?_⟩, hB⟩
      · rw [all_eq hok hK _ hj] at hR
        exact isS_of hR (act_lyr hok hK hj)
      · rw [hb, a2]
        show foldE R (((fewV w.heap.size)[(D j).o.card.toNat]!).pow, ((fewV w.heap.size)[(D j).o.card.toNat]!).tou, ((fewV w.heap.size)[(D j).o.card.toNat]!).keys) = _
        rw [k2, k3, k4]
        rfl
    · refine (of_nil W cc (idS j) (by rw [hb]; show (_ == (2 : Int)) = false; rw [k1]; simpa using hk)).mono ?_
      rintro e w2 ⟨rfl, hB⟩
      exact ⟨none, rfl, .inr (by rw [a2]; exact hk), hB⟩
  · refine (of_nil W cc (idS j) (by rw [bst_no hok _ hj])).mono ?_
    rintro e w2 ⟨rfl, hB⟩
    exact ⟨none, rfl, .inl (at_none hK hj), hB⟩
end Go.Proofs.Yticgadnmlbfmfaa.cachePlays
