/-
  Stable sorting, plain: classes of alike, sorted lists, rotations, merging.
-/
import Derived.Sort.LotA
import Derived.WalkKit
import Derived.Handy
import Derived.Deep.RegionWith
import Derived.Deep.Cut
import Derived.Shelf.SlSortCmp.QuietGrown
import Derived.Laws.EntriesVeiled
import Derived.Lib.SliceRun
import Derived.Shelf.RegionOpenPlain
import Derived.Laws.AppendOwn
import Derived.Laws.OwnMore
import Derived.StillTailTactics
import Derived.Deep.RegionHeld
import Derived.Deep.CutBlock
import Derived.Deep.CutRange
import Derived.Deep.DeepBigQuietO
import Derived.Laws.StructEq
import Derived.Maps.Own
import Derived.Test.YticgadnmlbfmfaaProg
import Derived.Shelf.SlSortCmp.KitK
import Derived.KernelRfl
namespace Go.Proofs.Yticgadnmlbfmfaa.cachePlays
open Go.Sort
variable {α : Type} [Inhabited α]
/-- Neither comes first. -/
def eqv (lt : α → α → Bool) (x y : α) : Bool := !lt x y && !lt y x
/-- The same, each class in its order. -/
def Stb (lt : α → α → Bool) (l l' : List α) : Prop := ∀ x, l.filter (eqv lt x) = l'.filter (eqv lt x)
def Srt (lt : α → α → Bool) (l : List α) : Prop := l.Pairwise fun x y => lt y x = false
section
variable {lt : α → α → Bool}
omit [Inhabited α]
theorem eqv_refl (h : ∀ x, lt x x = false) (x : α) : eqv lt x x = true := by simp [eqv, h]
theorem eqv_ok {x y : α} (h : eqv lt x y = true) : lt x y = false ∧ lt y x = false := by
  simpa [eqv] using h
theorem Stb.refl (l : List α) : Stb lt l l := fun _ => rfl
theorem Stb.symm {l m : List α} (h : Stb lt l m) : Stb lt m l := fun x => (h x).symm
theorem Stb.trans {l m n : List α} (h : Stb lt l m) (k : Stb lt m n) : Stb lt l n := fun x => (h x).trans (k x)
theorem Stb.app {l l' m m' : List α} (h : Stb lt l l') (k : Stb lt m m') : Stb lt (l ++ m) (l' ++ m') := fun x => by
  rw [List.filter_append, List.filter_append, h x, k x]
theorem Stb.mem (hi : ∀ x, lt x x = false) {l m : List α} (h : Stb lt l m) {x : α} (hx : x ∈ m) : x ∈ l := by
  have : x ∈ m.filter (eqv lt x) := List.mem_filter.2 ⟨hx, eqv_refl hi x⟩
  rw [← h x] at this
  exact (List.mem_filter.1 this).1
theorem filter_none {p : α → Bool} {l : List α} (h : ∀ x ∈ l, p x = false) : l.filter p = [] := by
  rw [List.filter_eq_nil_iff]
  intro x hx
  simp [h x hx]
theorem Stb.swap (hS : ∀ x y z, lt x y = false → lt y z = false → lt x z = false) {X Y : List α} (h : ∀ x ∈ X, ∀ y ∈ Y, lt y x = true) : Stb lt (X ++ Y) (Y ++ X) := fun z => by
  rw [List.filter_append, List.filter_append]
  by_cases hx : ∃ x ∈ X, eqv lt z x = true
  · obtain ⟨x, h1, h2⟩ := hx
    have : Y.filter (eqv lt z) = [] := filter_none fun y hy => by
      cases he : eqv lt z y with
      | false => rfl
      | true =>
        have a1 := eqv_ok h2
        have a2 := eqv_ok he
        have := hS y z x a2.2 a1.1
        rw [h x h1 y hy] at this
        cases this
    rw [this]
    simp
  · have : X.filter (eqv lt z) = [] := filter_none fun x hx' => by
      cases he : eqv lt z x with
      | false => rfl
      | true => exact absurd ⟨x, hx', he⟩ hx
    rw [this]
    simp
theorem Srt.nil : Srt lt ([] : List α) := List.Pairwise.nil
theorem uniq_stb (hi : ∀ x, lt x x = false) : ∀ {l m : List α}, Srt lt l → Srt lt m → Stb lt l m → l = m
  | [], [], _, _, _ => rfl
  | [], y :: m, _, _, h => by
    have := h.mem hi (x := y) List.mem_cons_self
    cases this
  | x :: l, [], _, _, h => by
    have := h.symm.mem hi (x := x) List.mem_cons_self
    cases this
  | x :: l, y :: m, h1, h2, h => by
    have a1 := List.pairwise_cons.1 h1
    have a2 := List.pairwise_cons.1 h2
    have b1 : lt x y = false := by
      have := h.symm.mem hi (x := x) List.mem_cons_self
      rcases List.mem_cons.1 this with rfl | this
      · exact hi _
      · exact a2.1 x this
    have b2 : lt y x = false := by
      have := h.mem hi (x := y) List.mem_cons_self
      rcases List.mem_cons.1 this with rfl | this
      · exact hi _
      · exact a1.1 y this
    have e1 : eqv lt x y = true := by simp [eqv, b1, b2]
    have := h x
    rw [List.filter_cons, if_pos (eqv_refl hi x), List.filter_cons, if_pos e1] at this
    injection this with e2 e3
    subst e2
    refine congrArg (x :: ·) (uniq_stb hi a1.2 a2.2 fun z => ?_)
    have hz := h z
    rw [List.filter_cons, List.filter_cons] at hz
    split at hz
    · injection hz
    · exact hz
end
/-! ### parts of rows -/
def seg (d : Array α) (a b : Nat) : List α := (List.range' a (b - a)).map fun i => d[i]!
theorem seg_split (d : Array α) {a c b : Nat} (h : a ≤ c) (k : c ≤ b) : seg d a b = seg d a c ++ seg d c b := by
  unfold seg
  rw [← List.map_append]
  congr 1
  have := List.range'_append (s := a) (m := c - a) (n := b - c) (step := 1)
  rw [show a + 1 * (c - a) = c by omega, show c - a + (b - c) = b - a by omega] at this
  exact this.symm
theorem seg_nil (d : Array α) (a : Nat) : seg d a a = [] := by simp [seg]
theorem seg_eq {d d' : Array α} {p r n : Nat} (h : ∀ i, i < n → d'[p + i]! = d[r + i]!) : seg d' p (p + n) = seg d r (r + n) := by
  unfold seg
  rw [show p + n - p = n by omega, show r + n - r = n by omega, List.range'_eq_map_range, List.range'_eq_map_range, List.map_map, List.map_map]
  apply List.map_congr_left
  intro i hi
  have := List.mem_range.1 hi
  simp only [Function.comp]
  exact h i this
theorem mem_seg {d : Array α} {a b : Nat} {x : α} : x ∈ seg d a b ↔ ∃ i, a ≤ i ∧ i < b ∧ d[i]! = x := by
  unfold seg
  rw [List.mem_map]
  constructor
  · rintro ⟨i, hi, rfl⟩
    have := List.mem_range'_1.1 hi
    exact ⟨i, this.1, by omega, rfl⟩
  · rintro ⟨i, h1, h2, rfl⟩
    exact ⟨i, List.mem_range'_1.2 ⟨h1, by omega⟩, rfl⟩
theorem seg_srt {lt : α → α → Bool} {d : Array α} {a b : Nat} (h : SortedIn lt a b d) : Srt lt (seg d a b) := by
  unfold seg Srt
  rw [List.pairwise_map]
  have : ∀ (n a' : Nat), a ≤ a' → a' + n ≤ b → (List.range' a' n).Pairwise fun i j => lt d[j]! d[i]! = false := by
    intro n
    induction n with
    | zero => intro a' _ _; exact List.Pairwise.nil
    | succ n ih =>
      intro a' h1 h2
      rw [List.range'_succ]
      refine List.pairwise_cons.2 ⟨fun j hj => ?_, ih _ (by omega) (by omega)⟩
      have := List.mem_range'_1.1 hj
      exact h a' j h1 (by omega) (by omega)
  rcases Nat.lt_or_ge a b with hab | hab
  · exact this _ a (Nat.le_refl _) (by omega)
  · rw [show b - a = 0 by omega]
    exact List.Pairwise.nil
theorem seg_all (d : Array α) : seg d 0 d.size = d.toList := by
  apply List.ext_getElem
  · simp [seg]
  · intro i h1 h2
    have : i < d.size := by simpa using h2
    simp [seg, getElem!_pos d i this]
/-! ### a part of a row is put in order -/
structure StbIn (lt : α → α → Bool) (a b : Nat) (d d' : Array α) : Prop where
  sz : d'.size = d.size
  out : ∀ i, i < a ∨ b ≤ i → d'[i]! = d[i]!
  st : Stb lt (seg d a b) (seg d' a b)
section
variable {lt : α → α → Bool}
theorem StbIn.refl (a b : Nat) (d : Array α) : StbIn lt a b d d := ⟨rfl, fun _ _ => rfl, .refl _⟩
theorem StbIn.trans {a b : Nat} {d d' d'' : Array α} (h : StbIn lt a b d d') (k : StbIn lt a b d' d'') : StbIn lt a b d d'' :=
  ⟨k.sz.trans h.sz, fun i hi => (k.out i hi).trans (h.out i hi), h.st.trans k.st⟩
theorem seg_same {d d' : Array α} {a b : Nat} (h : ∀ i, a ≤ i → i < b → d'[i]! = d[i]!) : seg d' a b = seg d a b := by
  unfold seg
  apply List.map_congr_left
  intro i hi
  have := List.mem_range'_1.1 hi
  exact h i this.1 (by omega)
theorem StbIn.mono {a b a' b' : Nat} {d d' : Array α} (h : StbIn lt a b d d') (ha : a' ≤ a) (hab : a ≤ b) (hb : b ≤ b') : StbIn lt a' b' d d' :=
  ⟨h.sz, fun i hi => h.out i (by omega), by
    rw [seg_split d ha (Nat.le_trans hab hb), seg_split d hab hb, seg_split d' ha (Nat.le_trans hab hb), seg_split d' hab hb]
    rw [seg_same (d := d) (d' := d') (a := a') (b := a) fun i _ hi => h.out i (.inl hi), seg_same (d := d) (d' := d') (a := b) (b := b') fun i hi _ => h.out i (.inr hi)]
    exact (Stb.refl _).app (h.st.app (.refl _))⟩
theorem StbIn.all (hi : ∀ x, lt x x = false) {a b : Nat} {d d' : Array α} (h : StbIn lt a b d d') {p : α → Prop} (hp : ∀ i, a ≤ i → i < b → p d[i]!) : ∀ i, a ≤ i → i < b → p d'[i]! := fun i h1 h2 => by
  obtain ⟨k, k1, k2, k3⟩ := mem_seg.1 (h.st.mem hi (mem_seg.2 ⟨i, h1, h2, rfl⟩))
  rw [← k3]
  exact hp k k1 k2
theorem swp_stb (hS : SWO lt) {d : Array α} {a b j : Nat} (h1 : a ≤ j) (h2 : j + 1 < b) (h3 : b ≤ d.size) (hl : lt d[j + 1]! d[j]! = true) : StbIn lt a b d (swp d (j + 1) j) := by
  have e : StbIn lt j (j + 2) d (swp d (j + 1) j) := by
    refine ⟨size_swp _ _ _, fun i hi => swp_other _ _ _ _ (by omega) (by omega), ?_⟩
    have e1 : seg d j (j + 2) = [d[j]!, d[j + 1]!] := by simp [seg, List.range']
    have e2 : seg (swp d (j + 1) j) j (j + 2) = [d[j + 1]!, d[j]!] := by
      simp only [seg, show j + 2 - j = 2 by omega, List.range', List.map_cons, List.map_nil, swp_left d (j + 1) j (by omega) (by omega), swp_right d (j + 1) j (by omega)]
    rw [e1, e2]
    exact Stb.swap hS.ntrans (X := [d[j]!]) (Y := [d[j + 1]!]) (by simpa using hl)
  exact e.mono h1 (by omega) (by omega)
theorem insInner_stb (hS : SWO lt) {a b : Nat} : ∀ (j : Nat) (d : Array α), j < b → b ≤ d.size → StbIn lt a b d (insInner lt a j d)
  | 0, d, _, _ => .refl _ _ _
  | j + 1, d, h1, h2 => by
    rw [insInner]
    split
    · rename_i h
      simp only [Bool.and_eq_true, decide_eq_true_eq] at h
      have := swp_stb hS (a := a) (b := b) (j := j) (by omega) h1 h2 h.2
      exact this.trans (insInner_stb hS j _ (by omega) (by rw [size_swp]; exact h2))
    · exact .refl _ _ _
theorem insOuter_stb (hS : SWO lt) {a b : Nat} : ∀ (n i : Nat) (d : Array α), b - i ≤ n → b ≤ d.size → StbIn lt a b d (insOuter lt a b i d)
  | 0, i, d, h1, h2 => by
    rw [insOuter, if_neg (by omega)]
    exact .refl _ _ _
  | n + 1, i, d, h1, h2 => by
    rw [insOuter]
    split
    · rename_i h
      have k := insInner_stb hS (a := a) (b := b) i d h h2
      exact k.trans (insOuter_stb hS n (i + 1) _ (by omega) (by rw [k.sz]; exact h2))
    · exact .refl _ _ _
theorem ins_stb (hS : SWO lt) {a b : Nat} {d : Array α} (hab : a ≤ b) (hb : b ≤ d.size) : StbIn lt a b d (insertionSort lt d a b) ∧ SortedIn lt a b (insertionSort lt d a b) :=
  ⟨insOuter_stb hS _ _ _ (Nat.le_refl _) hb, (insertionSort_holds hS d a b hab hb).2⟩
end
/-! ### rotations -/
/-- Where it comes from, behind an exchange of blocks. -/
def swrI (a b n x : Nat) : Nat := if a ≤ x ∧ x < a + n then b + (x - a) else if b ≤ x ∧ x < b + n then a + (x - b) else x
def rotI (p m q x : Nat) : Nat := if x < p then x else if x < p + (q - m) then m + (x - p) else if x < q then p + (x - (p + (q - m))) else x
structure Rot (p m q : Nat) (d d' : Array α) : Prop where
  sz : d'.size = d.size
  at_ : ∀ x, d'[x]! = d[rotI p m q x]!
/-- Blocks of places are exchanged, one by one. -/
def swr (d : Array α) (a b : Nat) : Nat → Array α
  | 0 => d
  | i + 1 => swp (swr d a b i) (a + i) (b + i)
theorem swr_size (d : Array α) (a b : Nat) : ∀ n, (swr d a b n).size = d.size
  | 0 => rfl
  | n + 1 => by rw [swr, size_swp, swr_size]
theorem swr_get (d : Array α) {a b : Nat} : ∀ {n : Nat}, a + n ≤ b → b + n ≤ d.size → ∀ x, (swr d a b n)[x]! = d[swrI a b n x]!
  | 0, _, _, x => by
    have : swrI a b 0 x = x := by
      unfold swrI
      rw [if_neg (by omega), if_neg (by omega)]
    rw [this]
    rfl
  | n + 1, h, k, x => by
    have ih := swr_get d (a := a) (b := b) (n := n) (by omega) (by omega)
    rw [swr, swp_get _ (by rw [swr_size]; omega) (by rw [swr_size]; omega)]
    rw [ih, ih, ih]
    unfold swrI
    repeat' split
    all_goals first | rfl | (congr 1; omega) | (exfalso; omega)
theorem rot_step1 {i j m : Nat} {d d' : Array α} (hij : j < i) (hi : i ≤ m) (hm : m + j ≤ d.size) (h : Rot (m - i + j) m (m + j) (swr d (m - i) m j) d') : Rot (m - i) m (m + j) d d' := by
  refine ⟨h.sz.trans (swr_size _ _ _ _), fun x => ?_⟩
  rw [h.at_, swr_get d (by omega) (by omega)]
  congr 1
  unfold swrI rotI
  repeat' split
  all_goals omega
theorem rot_step2 {i j m : Nat} {d d' : Array α} (hij : i < j) (hi : i ≤ m) (hm : m + j ≤ d.size) (h : Rot (m - i) m (m + j - i) (swr d (m - i) (m + j - i) i) d') : Rot (m - i) m (m + j) d d' := by
  refine ⟨h.sz.trans (swr_size _ _ _ _), fun x => ?_⟩
  rw [h.at_, swr_get d (by omega) (by omega)]
  congr 1
  unfold swrI rotI
  repeat' split
  all_goals omega
theorem rot_end {i m : Nat} {d : Array α} (hi : i ≤ m) (hm : m + i ≤ d.size) : Rot (m - i) m (m + i) d (swr d (m - i) m i) := by
  refine ⟨swr_size _ _ _ _, fun x => ?_⟩
  rw [swr_get d (by omega) (by omega)]
  congr 1
  unfold swrI rotI
  repeat' split
  all_goals omega
theorem rot_stb {lt : α → α → Bool} (hS : SWO lt) {p m q : Nat} {d d' : Array α} (h : Rot p m q d d') (h1 : p ≤ m) (h2 : m ≤ q) (hl : ∀ i j, p ≤ i → i < m → m ≤ j → j < q → lt d[j]! d[i]! = true) : StbIn lt p q d d' := by
  refine ⟨h.sz, fun x hx => ?_, ?_⟩
  · rw [h.at_]
    congr 1
    unfold rotI
    repeat' split
    all_goals omega
  · rw [seg_split d h1 h2, seg_split d' (c := p + (q - m)) (by omega) (by omega)]
    have e1 : seg d' p (p + (q - m)) = seg d m (m + (q - m)) := seg_eq fun i hi => by
      rw [h.at_]
      congr 1
      unfold rotI
      repeat' split
      all_goals omega
    have e2 : seg d' (p + (q - m)) (p + (q - m) + (m - p)) = seg d p (p + (m - p)) := seg_eq fun i hi => by
      rw [h.at_]
      congr 1
      unfold rotI
      repeat' split
      all_goals omega
    rw [show m + (q - m) = q by omega] at e1
    rw [show p + (q - m) + (m - p) = q by omega, show p + (m - p) = m by omega] at e2
    rw [e1, e2]
    refine Stb.swap hS.ntrans fun x hx y hy => ?_
    obtain ⟨i, a1, a2, rfl⟩ := mem_seg.1 hx
    obtain ⟨j, b1, b2, rfl⟩ := mem_seg.1 hy
    exact hl i j a1 a2 b1 b2
/-! ### merging -/
section
variable {lt : α → α → Bool}
omit [Inhabited α] in
theorem ltn (hS : SWO lt) {x y z : α} (h : lt x y = true) (k : lt z y = false) : lt x z = true := by
  cases e : lt x z with
  | true => rfl
  | false => rw [hS.ntrans x z y e k] at h; cases h
omit [Inhabited α] in
theorem ltn2 (hS : SWO lt) {x y z : α} (h : lt x y = true) (k : lt x z = false) : lt z y = true := by
  cases e : lt z y with
  | true => rfl
  | false => rw [hS.ntrans x z y k e] at h; cases h
omit [Inhabited α] in
theorem asym (hS : SWO lt) {x y : α} (h : lt x y = true) : lt y x = false := by
  cases e : lt y x with
  | false => rfl
  | true => have := hS.trans _ _ _ h e; rw [hS.irrefl] at this; cases this
/-- What the search of symMerge finds. -/
structure Found (lt : α → α → Bool) (a m b st en : Nat) (d : Array α) : Prop where
  h1 : a ≤ st
  h2 : st ≤ m
  h3 : m ≤ en
  h4 : en ≤ b
  hi : a < st → en < b → lt d[en]! d[st - 1]! = false
  lo : st < m → m < en → lt d[en - 1]! d[st]! = true
variable {a m b st en : Nat} {d : Array α}
theorem Found.lt1 (F : Found lt a m b st en d) (hS : SWO lt) (s1 : SortedIn lt a m d) (s2 : SortedIn lt m b d) : ∀ i j, st ≤ i → i < m → m ≤ j → j < en → lt d[j]! d[i]! = true := fun i j h1 h2 h3 h4 => by
  have e := F.lo (by omega) (by omega)
  have k1 : lt d[i]! d[st]! = false := by
    rcases Nat.lt_or_ge st i with h | h
    · exact s1 st i F.h1 h h2
    · rw [show i = st by omega]; exact hS.irrefl _
  have k2 : lt d[en - 1]! d[j]! = false := by
    rcases Nat.lt_or_ge j (en - 1) with h | h
    · exact s2 j (en - 1) h3 h (by have := F.h4; omega)
    · rw [show j = en - 1 by omega]; exact hS.irrefl _
  exact ltn2 hS (ltn hS e k1) k2
theorem Found.ge1 (F : Found lt a m b st en d) (hS : SWO lt) (s1 : SortedIn lt a m d) (s2 : SortedIn lt m b d) : ∀ i j, a ≤ i → i < st → en ≤ j → j < b → lt d[j]! d[i]! = false := fun i j h1 h2 h3 h4 => by
  have e := F.hi (by omega) (by omega)
  have k1 : lt d[st - 1]! d[i]! = false := by
    rcases Nat.lt_or_ge i (st - 1) with h | h
    · exact s1 i (st - 1) h1 h (by have := F.h2; omega)
    · rw [show i = st - 1 by omega]; exact hS.irrefl _
  have k2 : lt d[j]! d[en]! = false := by
    rcases Nat.lt_or_ge en j with h | h
    · exact s2 en j F.h3 h h4
    · rw [show j = en by omega]; exact hS.irrefl _
  exact hS.ntrans _ _ _ (hS.ntrans _ _ _ k2 e) k1
/-- The row behind the rotation. -/
theorem Found.rot (F : Found lt a m b st en d) (hS : SWO lt) (s1 : SortedIn lt a m d) (s2 : SortedIn lt m b d) {d' : Array α} (R : Rot st m en d d') {c : Nat} (hc : c = st + (en - m)) :
    StbIn lt a b d d' ∧ SortedIn lt a st d' ∧ SortedIn lt st c d' ∧ SortedIn lt c en d' ∧ SortedIn lt en b d' ∧ ∀ i j, a ≤ i → i < c → c ≤ j → j < b → lt d'[j]! d'[i]! = false := by
  have f1 := F.h1
  have f2 := F.h2
  have f3 := F.h3
  have f4 := F.h4
  have o := R.at_
  have p1 : ∀ x, x < st → d'[x]! = d[x]! := fun x hx => by
    rw [o]
    congr 1
    unfold rotI
    repeat' split
    all_goals omega
  have p2 : ∀ x, st ≤ x → x < c → d'[x]! = d[m + (x - st)]! := fun x hx hx2 => by
    rw [o]
    congr 1
    unfold rotI
    repeat' split
    all_goals omega
  have p3 : ∀ x, c ≤ x → x < en → d'[x]! = d[st + (x - c)]! := fun x hx hx2 => by
    rw [o]
    congr 1
    unfold rotI
    repeat' split
    all_goals omega
  have p4 : ∀ x, en ≤ x → d'[x]! = d[x]! := fun x hx => by
    rw [o]
    congr 1
    unfold rotI
    repeat' split
    all_goals omega
  have l1 := F.lt1 hS s1 s2
  have g1 := F.ge1 hS s1 s2
  refine ⟨(rot_stb hS R f2 f3 l1).mono f1 (by omega) f4, fun i j h1 h2 h3 => ?_, fun i j h1 h2 h3 => ?_, fun i j h1 h2 h3 => ?_, fun i j h1 h2 h3 => ?_, fun i j h1 h2 h3 h4 => ?_⟩
  · rw [p1 i (by omega), p1 j h3]
    exact s1 i j h1 h2 (by omega)
  · rw [p2 i h1 (by omega), p2 j (by omega) h3]
    exact s2 _ _ (by omega) (by omega) (by omega)
  · rw [p3 i h1 (by omega), p3 j (by omega) h3]
    exact s1 _ _ (by omega) (by omega) (by omega)
  · rw [p4 i h1, p4 j (by omega)]
    exact s2 i j (by omega) h2 h3
  · rcases Nat.lt_or_ge i st with hi | hi
    · rw [p1 i hi]
      rcases Nat.lt_or_ge j en with hj | hj
      · rw [p3 j h3 hj]
        exact s1 _ _ h1 (by omega) (by omega)
      · rw [p4 j hj]
        exact g1 i j h1 hi hj h4
    · rw [p2 i hi h2]
      rcases Nat.lt_or_ge j en with hj | hj
      · rw [p3 j h3 hj]
        exact asym hS (l1 _ _ (by omega) (by omega) (by omega) (by omega))
      · rw [p4 j hj]
        exact s2 _ _ (by omega) (by omega) (by omega)
theorem stbIn_all2 (hS : SWO lt) {a b c : Nat} {d d' d'' : Array α} (h : StbIn lt a c d d') (k : StbIn lt c b d' d'') (hx : ∀ i j, a ≤ i → i < c → c ≤ j → j < b → lt d[j]! d[i]! = false) : ∀ i j, a ≤ i → i < c → c ≤ j → j < b → lt d''[j]! d''[i]! = false := by
  have e1 : ∀ i j, a ≤ i → i < c → c ≤ j → j < b → lt d'[j]! d'[i]! = false := fun i j h1 h2 h3 h4 => by
    rw [h.out j (by omega)]
    exact h.all hS.irrefl (p := fun x => lt d[j]! x = false) (fun i h1 h2 => hx i j h1 h2 h3 h4) i h1 h2
  intro i j h1 h2 h3 h4
  rw [k.out i (by omega)]
  exact k.all hS.irrefl (p := fun y => lt y d'[i]! = false) (fun j h3 h4 => e1 i j h1 h2 h3 h4) j h3 h4
/-- Both parts are put in order. -/
theorem merged (hS : SWO lt) {a b c : Nat} {d d' d'' : Array α} (hac : a ≤ c) (hcb : c ≤ b) (h : StbIn lt a c d d') (s1 : SortedIn lt a c d') (k : StbIn lt c b d' d'') (s2 : SortedIn lt c b d'') (hx : ∀ i j, a ≤ i → i < c → c ≤ j → j < b → lt d[j]! d[i]! = false) : StbIn lt a b d d'' ∧ SortedIn lt a b d'' := by
  have e := stbIn_all2 hS h k hx
  refine ⟨(h.mono (Nat.le_refl _) hac hcb).trans (k.mono hac hcb (Nat.le_refl _)), fun i j h1 h2 h3 => ?_⟩
  rcases Nat.lt_or_ge j c with hj | hj
  · rw [k.out i (by omega), k.out j (by omega)]
    exact s1 i j h1 h2 hj
  · rcases Nat.lt_or_ge i c with hi | hi
    · exact e i j h1 hi hj h3
    · exact s2 i j hi h2 h3
end
end Go.Proofs.Yticgadnmlbfmfaa.cachePlays
/-
  Chapter 25: laws that hang on no program.
-/
namespace Go.Proofs.Yticgadnmlbfmfaa.cachePlays
open Go.Shelf Go.RowKit Go.Lib Go.Sort
section
variable {P : Program}
/-- Draws and new blocks alone. -/
def Gr (w W : World) : Prop := ∃ n os, W = grow (w.drewN n) os
theorem gr_swk {w W : World} : Gr w W ↔ SWK (fun _ : Unit => ([] : List Value)) 0 w 0 0 #[] W := by
  have e : ∀ n, putRowK (fun _ : Unit => ([] : List Value)) 0 (Sort.ahead w n) 0 0 #[] = w.drewN n := fun n => by
    have h : HoldsK (fun _ : Unit => ([] : List Value)) 0 (w.drewN n) 0 0 #[] := by
      intro i hi
      simp [flatK] at hi
    exact putRowK_self _ 0 (w.drewN n) 0 0 #[] h
  constructor
  · rintro ⟨n, os, rfl⟩
    exact ⟨n, os, by unfold sortWorldK; rw [e]⟩
  · rintro ⟨n, os, rfl⟩
    exact ⟨n, os, by unfold sortWorldK; rw [e]⟩
theorem Gr.refl (w : World) : Gr w w := ⟨0, #[], by simp [grow, World.drewN]⟩
theorem Gr.alloc {w W : World} (h : Gr w W) (o : Obj) : Gr w (W.alloc o) := gr_swk.2 ((gr_swk.1 h).alloc o)
theorem Gr.drewN {w W : World} (h : Gr w W) (q : Nat) : Gr w (W.drewN q) := gr_swk.2 ((gr_swk.1 h).drewN q)
theorem Gr.drew {w W : World} (h : Gr w W) : Gr w W.drew := h.drewN 1
theorem Gr.le {w W : World} (h : Gr w W) : w.heap.size ≤ W.heap.size := (gr_swk.1 h).le
theorem Gr.set {w W : World} (h : Gr w W) (b o : Nat) (v : Value) (hb : w.heap.size ≤ b) : Gr w (W.setCell ⟨b, o, none⟩ v) := gr_swk.2 ((gr_swk.1 h).setCell_new b o v hb)
theorem Gr.sets {w W : World} (b : Nat) (hb : w.heap.size ≤ b) : ∀ (vs : List Value) (o : Nat) {W : World}, Gr w W → Gr w (W.setCells b o vs)
  | [], _, _, h => h
  | v :: vs, o, _, h => Gr.sets (W := W) b hb vs (o + 1) (h.set b o v hb)
theorem Gr.trans {w W X : World} (h : Gr w W) (k : Gr W X) : Gr w X := by
  obtain ⟨n, os, rfl⟩ := k
  have := h.drewN n
  obtain ⟨m, os', e⟩ := this
  refine ⟨m, os' ++ os, ?_⟩
  rw [e, grow_grow]
theorem Gr.cell {w W : World} (h : Gr w W) {a : Addr} (ha : a.block < w.heap.size) : W.cell? a = w.cell? a := by
  obtain ⟨n, os, rfl⟩ := h
  rw [cell?_grow _ _ _ (by exact ha)]
  rfl
theorem Gr.frozen {w W : World} (h : Gr w W) {a : Addr} (ha : a.block < w.heap.size) : W.frozen? a = w.frozen? a := by
  obtain ⟨n, os, rfl⟩ := h
  rw [frozen?_grow _ _ _ (by exact ha)]
  rfl
/-- Rows of so many cells each. -/
def Rows (w : World) (a : Option Addr) (k : Nat) (l : List (Array Value)) : Prop := l = [] ∨ ∃ B O, a = some ⟨B, O, none⟩ ∧ B < w.heap.size ∧ ∀ i x, l[i]? = some x → ∀ j v, x[j]? = some v → w.cell? ⟨B, O + i * k + j, none⟩ = some v
theorem Rows.later {w w' : World} {a : Option Addr} {k : Nat} {l : List (Array Value)} (h : Rows w a k l) (hs : w.heap.size ≤ w'.heap.size) (hc : ∀ p : Addr, p.block < w.heap.size → w'.cell? p = w.cell? p) : Rows w' a k l := by
  rcases h with h | ⟨B, O, e, hb, h⟩
  · exact .inl h
  · exact .inr ⟨B, O, e, by omega, fun i x hx j v hv => by rw [hc _ hb]; exact h i x hx j v hv⟩
theorem Rows.gr {w w' : World} {a : Option Addr} {k : Nat} {l : List (Array Value)} (h : Rows w a k l) (g : Gr w w') : Rows w' a k l := h.later g.le fun _ hp => g.cell hp
theorem hold_ld (P : Program) {W : World} {b : Nat} {l : List Value} (h : Holds id W b 0 l.toArray) {k : Nat} (hk : l.length = k) : Sem.run P (loadCellsFrom ⟨b, 0, none⟩ 0 k #[]) W = .ok l.toArray W :=
  run_loadCellsFrom_list P _ _ _ k hk fun j v hv => by
    have hj := (List.getElem?_eq_some_iff.1 hv).1
    have := (h j (by simpa using hj)).1
    rw [Nat.zero_add, getElem!_pos _ j (by simpa using hj)] at this
    rw [Addr.add_lit, Nat.zero_add, this, ← hv, List.getElem?_eq_getElem hj]
    rfl
theorem hold_st (P : Program) {W : World} {b : Nat} {l : List Value} (h : Holds id W b 0 l.toArray) (m : List Value) (hk : m.length = l.length) (h1 : ∀ v ∈ m, v.oneCell' = true) : Sem.run P (storeCells ⟨b, 0, none⟩ m 0) W = .ok () (W.setCells b 0 m) := by
  have := stores_of_holds P h 0 m (by simp [hk]) h1
  simpa using this
theorem hold_put {W : World} {b : Nat} {l : List Value} (h : Holds id W b 0 l.toArray) (m : List Value) (hk : m.length = l.length) : Holds id (W.setCells b 0 m) b 0 m.toArray := by
  have := holds_setCells_c h 0 m (by simp [hk])
  rw [Nat.add_zero] at this
  have e : setMany l.toArray 0 m = m.toArray := by
    refine ext_get! (by simp [hk]) fun t ht => ?_
    rw [get_setMany _ _ _ t (by simpa using ht), if_pos ⟨Nat.zero_le _, by simp [hk]; simpa using ht⟩]
    simp
  rwa [e] at this
theorem hold_gr {w W : World} {b : Nat} {A : Array Value} (h : Holds id w b 0 A) (g : Gr w W) (hb : b < w.heap.size) : Holds id W b 0 A := fun j hj => by
  rw [g.cell hb, g.frozen hb]
  exact h j hj
theorem hold_other {W : World} {b c : Nat} {A : Array Value} (h : Holds id W b 0 A) (hn : b ≠ c) (o : Nat) (m : List Value) : Holds id (W.setCells c o m) b 0 A := fun j hj => by
  rw [World.cell?_setCells_out c _ _ _ _ (fun e _ => absurd e hn), World.frozen?_setCells]
  exact h j hj
theorem hold_cell {W : World} {b : Nat} {l : List Value} (h : Holds id W b 0 l.toArray) {j : Nat} {v : Value} (hv : l[j]? = some v) : W.cell? ⟨b, j, none⟩ = some v := by
  have hj := (List.getElem?_eq_some_iff.1 hv).1
  have := (h j (by simpa using hj)).1
  rw [Nat.zero_add, getElem!_pos _ j (by simpa using hj)] at this
  rw [this, ← hv, List.getElem?_eq_getElem hj]
  rfl
theorem hold_new (w : World) (l : List Value) (t : TypeId) : Holds id (w.alloc (.cells l.toArray t)) w.heap.size 0 l.toArray := fun j hj => by
  have e : (w.alloc (.cells l.toArray t)).heap[w.heap.size]? = some (.cells l.toArray t) := by
    show (w.heap.push _)[w.heap.size]? = _
    simp
  rw [Nat.zero_add]
  constructor
  · unfold World.cell?
    rw [e]
    simp only [id]
    rw [getElem!_pos l.toArray j hj]
    simp
  · unfold World.frozen?
    rw [e]
    simp
theorem below_sets {B b : Nat} (hb : B ≤ b) {w : World} : ∀ (vs : List Value) (o : Nat) {W : World}, Below B w W → Below B w (W.setCells b o vs)
  | [], _, _, h => h
  | v :: vs, o, W, h => by
    rw [World.setCells]
    exact below_sets hb vs (o + 1) (h.setCell (p := ⟨b, o, none⟩) hb v)
theorem blk_hold {W : World} {b : Nat} {l : List Value} {t : TypeId} (h : W.heap[b]? = some (.cells l.toArray t)) : Holds id W b 0 l.toArray := fun j hj => by
  rw [Nat.zero_add]
  constructor
  · unfold World.cell?
    rw [h]
    simp only [id]
    rw [getElem!_pos l.toArray j hj]
    simp
  · unfold World.frozen?
    rw [h]
    simp
theorem blk_lt {W : World} {b : Nat} {o : Obj} (h : W.heap[b]? = some o) : b < W.heap.size := (Array.getElem?_eq_some_iff.1 h).1
theorem gr_grown {w W : World} (h : Gr w W) : w.grownBy W none := by
  obtain ⟨n, os, rfl⟩ := h
  refine ⟨rfl, rfl, rfl, by simp [grow, World.drewN], fun k hk _ => ?_⟩
  show (w.heap ++ os)[k]? = _
  rw [Array.getElem?_append_left hk]
theorem own_slice {W : World} {base size n m : Nat} {e : TypeId} {v : Value} {xs : List Value} (h : W.ownsRow base e size v n xs) (hn : n = m + 1) : ∃ g cap, v = .slice (some ⟨g, 0, none⟩) n cap := by
  rcases h.2 with ⟨_, h0⟩ | ⟨g, cap, cur, hv, _⟩
  · omega
  · exact ⟨g, cap, hv⟩
theorem hold_below {w W : World} {b B : Nat} {A : Array Value} (h : Holds id w b 0 A) (k : Below B w W) (hb : b < B) : Holds id W b 0 A := fun j hj => by
  rw [k.cell (by exact hb), k.frozen (by exact hb)]
  exact h j hj
theorem run_app2 {t tx ty e e' : TypeId} (ht : P.underlying t = some (.slice e)) (htx : P.underlying tx = some (.slice e')) (b : Option Addr) (l k : Nat) (a : Option Addr) (m c : Nat) {i : TypeInfo} (hi : P.info? e = some i) (w : World) :
    (Builtin.append_ #[t, tx] ty #[.slice b l k, .slice a m c]).run P w = (Builtin.append_ #[t, t] ty #[.slice b l k, .slice a m c]).run P w := by
  unfold Builtin.append_
  simp [run_underlying ht, run_underlying htx, sizeOf, typeInfo, hi]
theorem run_app0 {t ty e : TypeId} {i : TypeInfo} (ht : P.underlying t = some (.slice e)) (hi : P.info? e = some i) {base n : Nat} {v : Value} {xs : List Value} {w : World} (ho : w.ownsRow base e i.size v n xs) (c : Nat) :
    (Builtin.append_ #[t, t] ty #[v, .slice none 0 c]).run P w = .ok v w := by
  rcases ho.2 with ⟨rfl, rfl⟩ | ⟨g, cap, cur, rfl, _, _, hc, _⟩
  · simp [Builtin.append_, run_underlying ht, sizeOf, typeInfo, hi, Builtin.lenOf, Builtin.firstCells]
  · simp [Builtin.append_, run_underlying ht, sizeOf, typeInfo, hi, Builtin.lenOf, Builtin.firstCells, hc, storeCells]
/-- Of a slice, nil or not. -/
theorem run_app_any {t tx ty e : TypeId} {i : TypeInfo} {z : Value} (ht : P.underlying t = some (.slice e)) (htx : P.underlying tx = some (.slice e)) (hi : P.info? e = some i) (hz : i.zero = some z) (hzs : z.cells.size = i.size) (hsz : 0 < i.size)
    {base n : Nat} {v : Value} {xs : List Value} {w : World} (ho : w.ownsRow base e i.size v n xs) (a : Option Addr) (m c : Nat) (news : List Value) (hl : news.length = m * i.size) (ha : a = none → m = 0) (hnews : ∀ ad, a = some ad → ∀ j u, news[j]? = some u → w.cell? (ad.add j) = some u) (h1 : ∀ u ∈ news, u.oneCell' = true)
    (h63 : n + m ≤ maxLen) (hbytes : (n + m) * i.bytes ≤ 140737488355328) (hbase : base ≤ w.heap.size) :
    ∃ v' w', (Builtin.append_ #[t, tx] ty #[v, .slice a m c]).run P w = .ok v' w' ∧ w'.ownsRow base e i.size v' (n + m) (xs ++ news) ∧ w.grownBy w' v.ownBlock := by
  obtain ⟨b, l, k, hv⟩ : ∃ b l k, v = .slice b l k := by
    rcases ho.2 with ⟨rfl, _⟩ | ⟨g, cap, cur, rfl, _⟩
    · exact ⟨_, _, _, rfl⟩
    · exact ⟨_, _, _, rfl⟩
  have e0 : (Builtin.append_ #[t, tx] ty #[v, .slice a m c]).run P w = (Builtin.append_ #[t, t] ty #[v, .slice a m c]).run P w := by
    rw [hv]
    exact run_app2 ht htx b l k a m c hi w
  rw [e0]
  clear e0 hv
  cases a with
  | none =>
    obtain rfl := ha rfl
    have : news = [] := List.eq_nil_of_length_eq_zero (by simpa using hl)
    subst this
    refine ⟨v, w, run_app0 ht hi ho c, by simpa using ho, ⟨rfl, rfl, rfl, Nat.le_refl _, fun _ _ _ => rfl⟩⟩
  | some ad =>
    obtain ⟨v', w', h1, h2, h3, _⟩ := run_append_own (P := P) w base t ty e i z i.size i.bytes ht hi hz rfl rfl hzs hsz v n xs ho ad m c news hl (hnews ad rfl) h1 h63 hbytes hbase
    exact ⟨v', w', h1, h2, h3⟩
theorem wpList_app_run {ops : Array Oper} {rest : List Oper} {o : Oper} {a : Act} {w : World} {Q : Exit → Act → World → Prop} (hgd : o.guard = none) (s x : Operand) (ats : Array TypeId)
    (ho : o.op = .call { callee := .builtin .append, args := #[s, x], argTypes := ats }) (v xv : Value) (hs : a.eval s = v) (hx : a.eval x = xv) (v' : Value) (w' : World) (hr : (Builtin.append_ ats o.type #[v, xv]).run P w = .ok v' w')
    (h : wpList P ops Q rest (a.put o.dst v') w') : wpList P ops Q (o :: rest) a w :=
  wpList_plain hgd fun _ hK => by
    unfold Oper.wp execOp
    simp only [ho, resolve, invoke, builtin, Sem.run_bind, Sem.run_pure, Result.andThen_ok, List.map_toArray, List.map_cons, List.map_nil, hs, hx, hr]
    exact hK _ _ h
theorem blk_sets (b : Nat) (t : TypeId) : ∀ (vs : List Value) (o : Nat) {W : World} {F : Array Value}, W.heap[b]? = some (.cells F t) → (W.setCells b o vs).heap[b]? = some (.cells (setMany F o vs) t)
  | [], _, _, _, h => h
  | v :: vs, o, W, F, h => by
    rw [World.setCells, setMany]
    refine blk_sets b t vs (o + 1) ?_
    simp only [World.setCell, Array.getElem?_modify, h]
    simp
theorem setMany_all {l m : List Value} (hk : m.length = l.length) : setMany l.toArray 0 m = m.toArray := by
  refine ext_get! (by simp [hk]) fun t ht => ?_
  rw [get_setMany _ _ _ t (by simpa using ht), if_pos ⟨Nat.zero_le _, by simp [hk]; simpa using ht⟩]
  simp
theorem blk_put {W : World} {b : Nat} {l : List Value} {t : TypeId} (h : W.heap[b]? = some (.cells l.toArray t)) (m : List Value) (hk : m.length = l.length) : (W.setCells b 0 m).heap[b]? = some (.cells m.toArray t) := by
  have := blk_sets b t m 0 h
  rwa [setMany_all hk] at this
theorem sets_other {b c : Nat} (hn : b ≠ c) : ∀ (vs : List Value) (o : Nat) {W : World}, (W.setCells c o vs).heap[b]? = W.heap[b]?
  | [], _, _ => rfl
  | v :: vs, o, W => by
    rw [World.setCells, sets_other hn vs (o + 1)]
    exact Below.heap_setCell _ _ _ _ hn
theorem blk_new (W : World) (o : Obj) : (W.alloc o).heap[W.heap.size]? = some o := by
  show (W.heap.push _)[W.heap.size]? = _
  simp
theorem blk_old {W : World} {b : Nat} {o : Obj} (h : W.heap[b]? = some o) (o' : Obj) : (W.alloc o').heap[b]? = some o := by
  rw [← h]
  exact Below.heap_alloc _ _ _ (blk_lt h)
theorem blk_gr {W W' : World} {b : Nat} {o : Obj} (h : W.heap[b]? = some o) (g : Gr W W') : W'.heap[b]? = some o := by
  rw [(gr_grown g).block b (blk_lt h) (by simp)]
  exact h
theorem gr_below {w W W' : World} {N : Nat} (h : Below N w W) (hN : N ≤ W.heap.size) (g : Gr W W') : Below N w W' := h.grown (gr_grown g) hN fun k hk => by cases hk
theorem Rows.ld (P : Program) {w : World} {a : Addr} {k : Nat} {l : List (Array Value)} (h : Rows w (some a) k l) {i : Nat} {x : Array Value} (hx : l[i]? = some x) (hk : x.size = k) : Sem.run P (loadCellsFrom (a.add (i * k)) 0 k #[]) w = .ok x w := by
  rcases h with h | ⟨B, O, e, hb, h⟩
  · rw [h] at hx
    simp at hx
  · injection e with e
    subst e
    have := run_loadCellsFrom_list P w (Addr.add ⟨B, O, none⟩ (i * k)) x.toList k (by simpa using hk) fun j v hv => by
      rw [Addr.add_lit, Addr.add_lit]
      exact h i x hx j v (by simpa using hv)
    simpa using this
theorem wp_one {P : Program} {c : Code} {K : Act → World → Prop} {Q : Exit → Act → World → Prop} {a a1 : Act} {w : World} (w1 : World) (key : ∀ K' : Act → World → Prop, K' a1 w1 → Code.wp P c (Exit.then K' Q) a w) (rest : K a1 w1) : Code.wp P c (Exit.then K Q) a w := key K rest
theorem two_boxes (w : World) (A B : List Value) (t u : TypeId) : Gr w ((w.alloc (.cells A.toArray t)).alloc (.cells B.toArray u)) ∧ ((w.alloc (.cells A.toArray t)).alloc (.cells B.toArray u)).heap[w.heap.size]? = some (.cells A.toArray t) ∧ ((w.alloc (.cells A.toArray t)).alloc (.cells B.toArray u)).heap[w.heap.size + 1]? = some (.cells B.toArray u) := by
  refine ⟨(Gr.refl _).alloc _ |>.alloc _, blk_old (blk_new _ _) _, ?_⟩
  have := blk_new (w.alloc (.cells A.toArray t)) (.cells B.toArray u)
  simpa using this
def fromRegion (n : Nat) : Code → Option Code
  | .seq a b => match a with
    | .region m _ _ => if m = n then some (.seq a b) else fromRegion n b
    | _ => match fromRegion n a with
      | some c => some c
      | none => fromRegion n b
  | .loop c => fromRegion n c
  | .block _ c => fromRegion n c
  | .scope c => fromRegion n c
  | .cond _ a b => match fromRegion n a with
    | some c => some c
    | none => fromRegion n b
  | _ => none
/-- append, as one step of a region in any order. -/
theorem readyH_app {P : Program} {ops : Array Oper} {o : Oper} {a : Act} {w : World} {K : Act → World → Prop} {Q : Exit → Act → World → Prop} (s x : Operand) (ats : Array TypeId)
    (ho : o.op = .call { callee := .builtin .append, args := #[s, x], argTypes := ats }) (hgd : o.guard = none) (v xv : Value) (hs : a.eval s = v) (hx : a.eval x = xv) (v' : Value) (w' : World) (hr : (Builtin.append_ ats o.type #[v, xv]).run P w = .ok v' w')
    (h : K (a.put o.dst v') w') : if Region.wanted o (yielded ops a.tmps) = true then Oper.wp P o a w K Q else K (a.put o.dst undef) w := by
  rw [if_pos (by simp only [Region.wanted, hgd])]
  unfold Oper.wp execOp
  simp only [ho, resolve, invoke, builtin, Sem.run_bind, Sem.run_pure, Result.andThen_ok, List.map_toArray, List.map_cons, List.map_nil, hs, hx, hr]
  exact h
theorem Rows.below {w w' : World} {a : Option Addr} {k : Nat} {l : List (Array Value)} (h : Rows w a k l) (b : Below w.heap.size w w') : Rows w' a k l := h.later b.size fun _ hp => b.cell hp
/-- Rows, one behind the other. -/
def flatN (f : Nat → List Value) (n : Nat) : List Value := (List.range n).flatMap f
theorem flatN_succ (f : Nat → List Value) (n : Nat) : flatN f (n + 1) = flatN f n ++ f n := by
  unfold flatN
  rw [List.range_succ, List.flatMap_append]
  simp
theorem flatN_len {f : Nat → List Value} {k : Nat} : ∀ {n : Nat}, (∀ i, i < n → (f i).length = k) → (flatN f n).length = n * k
  | 0, _ => by simp [flatN]
  | n + 1, h => by
    rw [flatN_succ, List.length_append, flatN_len fun i hi => h i (by omega), h n (by omega), Nat.add_mul, Nat.one_mul]
theorem fold_at : ∀ (l : List Value) (o : Nat) (cs : Array Value), o + l.length ≤ cs.size → ((l.zipIdx o).foldl (fun cs x => cs.setIfInBounds x.snd x.fst) cs).size = cs.size ∧ ∀ j, ((l.zipIdx o).foldl (fun cs x => cs.setIfInBounds x.snd x.fst) cs)[j]? = if o ≤ j ∧ j < o + l.length then l[j - o]? else cs[j]?
  | [], o, cs, _ => ⟨rfl, fun j => by rw [if_neg (by simp only [List.length_nil]; omega)]; rfl⟩
  | x :: l, o, cs, h => by
    rw [List.zipIdx_cons, List.foldl_cons]
    simp only [List.length_cons] at h
    obtain ⟨h1, h2⟩ := fold_at l (o + 1) (cs.setIfInBounds o x) (by simp; omega)
    refine ⟨by rw [h1]; simp, fun j => ?_⟩
    rw [h2]
    simp only [List.length_cons]
    by_cases hj : j = o
    · subst hj
      rw [if_neg (by omega), if_pos (by omega)]
      simp only [Array.getElem?_setIfInBounds, Nat.sub_self, List.getElem?_cons_zero, if_true]
      rw [if_pos (by omega)]
    · by_cases hk : o + 1 ≤ j ∧ j < o + 1 + l.length
      · rw [if_pos hk, if_pos (by omega), show j - o = (j - (o + 1)) + 1 by omega, List.getElem?_cons_succ]
      · rw [if_neg hk, if_neg (by omega)]
        simp only [Array.getElem?_setIfInBounds]
        rw [if_neg (fun e => hj e.symm)]
theorem fold_cells (y X : List Value) {k : Nat} (hX : X.length = k) : X.zipIdx.foldl (fun (cs : Array Value) (x : Value × Nat) => cs.setIfInBounds x.snd x.fst) (Array.map (fun x => y[x % k]?.getD default) (Array.range k)) = X.toArray := by
  obtain ⟨h1, h2⟩ := fold_at X 0 (Array.map (fun x => y[x % k]?.getD default) (Array.range k)) (by simp; omega)
  apply Array.ext_getElem?
  intro j
  rw [h2]
  split
  · simp
  · rw [Array.getElem?_eq_none (by simp; omega)]
    simp
    omega
/-- One row onto a list of rows of one's own. -/
theorem app_row {P : Program} {t e k : Nat} (ht : P.underlying t = some (.slice e)) (hi : ∃ i z, P.info? e = some i ∧ i.zero = some z ∧ z.cells.size = k ∧ i.size = k ∧ i.bytes ≤ 1000) (hk : 0 < k) {W : World} {v : Value} {base n : Nat} (X : List Value) (r : List Value) (hr : r.length = k) (h1 : ∀ u ∈ r, u.oneCell' = true) (ho : W.ownsRow base e k v n X) (hb : base ≤ W.heap.size) (hl : n ≤ 1000) :
    ∃ v' w', (Builtin.append_ #[t, t] t #[v, .slice (some ⟨W.heap.size, 0, none⟩) 1 1]).run P (W.alloc (.cells r.toArray e)) = .ok v' w' ∧ w'.ownsRow base e k v' (n + 1) (X ++ r) ∧ (W.alloc (.cells r.toArray e)).grownBy w' v.ownBlock := by
  obtain ⟨i, z, i1, i2, i3, i4, i5⟩ := hi
  obtain ⟨v', w', a1, a2, a3⟩ := run_app_any (P := P) (ty := t) (t := t) (tx := t) ht ht i1 i2 (by rw [i4]; exact i3) (by rw [i4]; exact hk) (by rw [i4]; exact ho.alloc (.cells r.toArray e)) (some ⟨W.heap.size, 0, none⟩) 1 1 r (by rw [i4, hr, Nat.one_mul]) (fun h => by cases h)
    (fun ad had j u hu => by
      injection had with had
      subst had
      rw [Addr.add_lit, Nat.zero_add]
      exact hold_cell (hold_new W r e) hu) h1 (Nat.le_trans (show n + 1 ≤ 1001 by omega) (by decide)) (Nat.le_trans (Nat.mul_le_mul (show n + 1 ≤ 1001 by omega) i5) (by decide)) (by simp; omega)
  rw [i4] at a2
  exact ⟨v', w', a1, a2, a3⟩
theorem blk_set {W : World} {b : Nat} {l : List Value} {t : TypeId} (h : W.heap[b]? = some (.cells l.toArray t)) (j : Nat) (v : Value) : (W.setCell ⟨b, j, none⟩ v).heap[b]? = some (.cells (l.set j v).toArray t) := by
  simp only [World.setCell, Array.getElem?_modify, h]
  simp
theorem set_other {W : World} {b c : Nat} (hn : b ≠ c) (j : Nat) (v : Value) : (W.setCell ⟨c, j, none⟩ v).heap[b]? = W.heap[b]? := Below.heap_setCell _ _ _ _ hn
theorem sets_grown (b : Nat) : ∀ (vs : List Value) (o : Nat) (W : World), W.grownBy (W.setCells b o vs) (some b)
  | [], _, W => World.grownBy.refl W _
  | v :: vs, o, W => by
    have := sets_grown b vs (o + 1) (W.setCell ⟨b, o, none⟩ v)
    exact ⟨this.os, this.tape, this.output, by have h := this.size; rw [World.size_setCell] at h; exact h, fun k hk hn => by
      rw [World.setCells, this.block k (by simpa using hk) hn]
      exact Below.heap_setCell _ _ _ _ (fun e => hn (by rw [e]))⟩
theorem ownk_mono {W : World} {b b' e k n : Nat} {v : Value} {l : List Value} (h : W.ownsRow b e k v n l) (hb : b' ≤ b) : W.ownsRow b' e k v n l := by
  refine ⟨h.1, ?_⟩
  rcases h.2 with h | ⟨g, cap, cur, hv, hg, hr⟩
  · exact .inl h
  · exact .inr ⟨g, cap, cur, hv, Nat.le_trans hb hg, hr⟩
theorem own_formk {W : World} {base e k n : Nat} {v : Value} {l : List Value} (h : W.ownsRow base e k v n l) : ∃ a c, v = .slice a n c := by
  rcases h.2 with ⟨rfl, h0⟩ | ⟨g, cap, cur, rfl, _⟩
  · exact ⟨none, 0, by rw [h0]⟩
  · exact ⟨_, _, rfl⟩
theorem flatN_get {f : Nat → List Value} {k : Nat} : ∀ {n : Nat}, (∀ i, i < n → (f i).length = k) → ∀ i j, i < n → j < k → (flatN f n)[i * k + j]? = (f i)[j]?
  | 0, _, i, j, hi, _ => by omega
  | n + 1, h, i, j, hi, hj => by
    have hl := flatN_len (f := f) (k := k) (n := n) fun i hi => h i (by omega)
    rw [flatN_succ]
    rcases Nat.lt_or_ge i n with h' | h'
    · have : i * k + j < n * k := Nat.lt_of_lt_of_le (Nat.add_lt_add_left hj _) (by have := Nat.mul_le_mul_right k h'; rw [Nat.succ_mul] at this; exact this)
      rw [List.getElem?_append_left (by rw [hl]; exact this)]
      exact flatN_get (fun i hi => h i (by omega)) i j h' hj
    · obtain rfl : i = n := by omega
      rw [List.getElem?_append_right (by rw [hl]; omega), hl]
      congr 1
      omega
theorem own_rows {W : World} {base e k n c : Nat} {a : Option Addr} {f : Nat → List Value} (h : W.ownsRow base e k (.slice a n c) n (flatN f n)) (hf : ∀ i, i < n → (f i).length = k) : Rows W a k ((List.range n).map fun i => (f i).toArray) := by
  rcases h.2 with ⟨_, rfl⟩ | ⟨g, cap, cur, hv, _, hg, _⟩
  · exact .inl rfl
  · injection hv with hv _ hc
    subst hv hc
    refine .inr ⟨g, 0, rfl, blk_lt hg, fun i x hx j v hv => ?_⟩
    obtain ⟨hi, rfl⟩ := List.getElem?_eq_some_iff.1 hx
    simp only [List.length_map, List.length_range] at hi
    simp only [List.getElem_map, List.getElem_range] at hv
    have hv' : (f i)[j]? = some v := by simpa using hv
    have hj : j < k := by rw [← hf i hi]; exact (List.getElem?_eq_some_iff.1 hv').1
    have hlt : i * k + j < n * k := Nat.lt_of_lt_of_le (Nat.add_lt_add_left hj _) (by have := Nat.mul_le_mul_right k hi; rw [Nat.succ_mul] at this; exact this)
    rw [Nat.zero_add, h.cellAt (i * k + j) hlt, flatN_get hf i j hi hj, hv']
theorem Rows.take {w : World} {a : Option Addr} {k : Nat} {l : List (Array Value)} (h : Rows w a k l) (n : Nat) : Rows w a k (l.take n) := by
  rcases h with rfl | ⟨B, O, e, hb, h⟩
  · exact .inl (by simp)
  · refine .inr ⟨B, O, e, hb, fun i x hx j v hv => h i x ?_ j v hv⟩
    rw [List.getElem?_take] at hx
    split at hx
    · exact hx
    · cases hx
end
end Go.Proofs.Yticgadnmlbfmfaa.cachePlays
