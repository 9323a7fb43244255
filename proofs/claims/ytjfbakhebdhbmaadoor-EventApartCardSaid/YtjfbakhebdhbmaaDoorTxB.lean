/-
  Events that may be: how great their numbers are.
-/
import Derived.Test.YtjfbakhebdhbmaaDoorTxS
namespace Go.Proofs.YtjfbakhebdhbmaaDoor.event
open Go.Ev Go.RowKit Go.Lib
set_option linter.unusedVariables false
noncomputable section
def lowB (iv : Ivs) : List Nat → Bool
  | [] => true
  | k :: l => match decide (-9223372036854775807 ≤ (ivAt iv k).1) with
    | true => lowB iv l
    | false => false
theorem lowB_ok {iv : Ivs} {v : Nat → Int} (hv : ∀ j, (ivAt iv j).1 ≤ v j ∧ v j ≤ (ivAt iv j).2) : ∀ {l : List Nat}, lowB iv l = true → ∀ k ∈ l, -9223372036854775807 ≤ v k
  | [], _, k, hk => by cases hk
  | x :: l, h, k, hk => by
    simp only [lowB] at h
    split at h
    · rename_i h1
      rcases List.mem_cons.1 hk with rfl | hk
      · have := of_decide_eq_true h1
        have := (hv k).1
        omega
      · exact lowB_ok hv h k hk
    · cases h
def elP (iv : Ivs) (rs : Rels) (o : Leaf) : Bool := match isGo o with
  | true => lowB iv [17]
  | false => true
def endP (C : List CutP) (P : Ivs → Bool) (iv : Ivs) (rs : Rels) (o : Leaf) : Bool := match o with
  | .ret (.int .i64 z) => match decide (z = 0) with
    | true => false
    | false => true
  | .ret _ => true
  | .goto q _ => match P iv, lget C q with
    | true, some d => allI elP (trL d.tr) eciv0 []
    | true, none => true
    | false, _ => false
def boundB (P : Ivs → Bool) (iv : Ivs) (C : List CutP) (p : Nat) : Bool := match lget C p with
  | some c => allI (endP C P) c.tr iv []
  | none => false
theorem bound_ok {P : Ivs → Bool} {iv : Ivs} {C : List CutP} {p n : Nat} {v : Nat → Nat → Int} (h : boundB P iv C p = true) (hz : tellE C p v n = 0) (hv : ∀ j, (ivAt iv j).1 ≤ v 0 j ∧ v 0 j ≤ (ivAt iv j).2) (hL : ∀ i, i < n → ∀ j, (ivAt eciv0 j).1 ≤ v i j ∧ v i j ≤ (ivAt eciv0 j).2) :
    (∃ iv', (∀ j, (ivAt iv' j).1 ≤ v 0 j ∧ v 0 j ≤ (ivAt iv' j).2) ∧ P iv' = true) ∧ ∀ i, i < n → -9223372036854775807 ≤ v i 17 := by
  unfold boundB at h
  split at h
  · rename_i c hc
    obtain ⟨iv', rs', k1, k2⟩ := allI_ok h (v := v 0) ⟨hv, fun p hp => by cases hp⟩
    unfold tellE at hz
    rw [hc] at hz
    simp only at hz
    generalize valX c.tr (v 0) = o at hz k2
    unfold endP at k2
    split at k2
    · rename_i z
      simp only [leafZ] at hz
      subst hz
      simp at k2
    · rename_i r hr
      have : leafZ (.ret r) = 2 := by
        unfold leafZ
        split
        · rename_i z e
          cases e
          exact absurd rfl (hr z)
        · rfl
      simp only at hz
      rw [this] at hz
      cases hz
    · rename_i q xs
      simp only at hz
      split at k2
      · rename_i d hP hd
        rw [hd] at hz
        simp only at hz
        refine ⟨⟨iv', k1.1, hP⟩, fun i hi => ?_⟩
        by_cases ha : allF (fun i => isGo (valX (trL d.tr) (v i))) n 0 = true
        · have hg := allF_iff.1 ha i (Nat.zero_le _) (by omega)
          obtain ⟨iv2, rs2, m1, m2⟩ := allI_ok k2 (v := v i) ⟨hL i hi, fun p hp => by cases hp⟩
          unfold elP at m2
          rw [hg] at m2
          exact lowB_ok m1.1 m2 17 (List.mem_singleton.2 rfl)
        · rw [if_neg ha] at hz
          cases hz
      · rename_i hP hd
        rw [hd] at hz
        cases hz
      · cases k2
  · cases h
def hiB (iv : Ivs) (k : Nat) (z : Int) : Bool := decide ((ivAt iv k).2 ≤ z)
def plainP (n : Int) (iv : Ivs) : Bool := match hiB iv 12 n, hiB iv 13 0 with
  | true, true => lowB iv [1, 2, 3, 4, 6, 7, 8, 9, 10]
  | _, _ => false
def itemP (iv : Ivs) : Bool := match hiB iv 12 0 with
  | true => lowB iv [1, 2, 3, 4]
  | _ => false
def mayP (iv : Ivs) (rs : Rels) (o : Leaf) : Bool := match o with
  | .ret (.bool true) => match lowB iv [6, 7, 8, 9, 10], hiB iv 13 0, hiB iv 13 1 with
    | true, true, _ => true
    | true, false, true => lowB iv [20, 21]
    | true, false, false => lowB iv [20, 21, 22, 23]
    | _, _, _ => false
  | _ => true
theorem b_plain : allP (fun p => match Nat.beq p 23 with | true => boundB (plainP 250) eciv0 ecC p | false => boundB (plainP 0) eciv0 ecC p) 26 = true := by kernel_rfl
theorem b_true : allP (boundB itemP tIv etC) 3 = true := by kernel_rfl
theorem b_false : allP (boundB (plainP 0) eciv0 efC) 3 = true := by kernel_rfl
theorem b_may : allI mayP emt0 emiv0 [] = true := by kernel_rfl
section
variable {w : World} {g : EvG}
def Low (x : Int) : Prop := -9223372036854775807 ≤ x
theorem low_0 : Low 0 := by unfold Low; decide
structure Good (g : EvG) : Prop where
  a : Low g.a
  b : Low g.b
  n : Low g.n
  m : Low g.m
  i6 : Low g.i6
  i7 : Low g.i7
  i8 : Low g.i8
  i9 : Low g.i9
  i10 : Low g.i10
  t00 : Low (g.t.getD 0 (0, 0)).1
  t01 : Low (g.t.getD 0 (0, 0)).2
  t10 : Low (g.t.getD 1 (0, 0)).1
  t11 : Low (g.t.getD 1 (0, 0)).2
  el : ∀ i, Low (g.l.getD i 0)
  k1 : 0 < g.k
  k2 : g.k < 30
  l26 : g.k ≠ 26 → g.l.length = 0
  tit : isItem g.k = false → g.t.length = 0
  l250 : g.l.length ≤ 250
  t2 : g.t.length ≤ 2
theorem el_of (h : ∀ i, i < g.l.length → -9223372036854775807 ≤ eint g 0 [] i 17) (i : Nat) : Low (g.l.getD i 0) := by
  by_cases hi : i < g.l.length
  · exact h i hi
  · have e : g.l.getD i 0 = 0 := by simp [List.getD_eq_getElem?_getD, List.getElem?_eq_none (by omega : g.l.length ≤ i)]
    rw [e]
    exact low_0
theorem t_none {j : Nat} (h : g.t.length ≤ j) : g.t.getD j (0, 0) = (0, 0) := by simp [List.getD_eq_getElem?_getD, List.getElem?_eq_none h]
theorem hiB_ok {iv : Ivs} {k : Nat} {z : Int} (h : hiB iv k z = true) {v : Nat → Int} (hv : ∀ j, (ivAt iv j).1 ≤ v j ∧ v j ≤ (ivAt iv j).2) : v k ≤ z := by
  have := of_decide_eq_true h
  have := (hv k).2
  omega
theorem good_plain {n : Int} (h1 : 0 < g.k) (h2 : g.k < 30) {iv : Ivs} (hv : ∀ j, (ivAt iv j).1 ≤ eint g 0 [] 0 j ∧ eint g 0 [] 0 j ≤ (ivAt iv j).2) (hP : plainP n iv = true) (hn : n = 0 ∨ n = 250 ∧ g.k = 26) (he : ∀ i, i < g.l.length → -9223372036854775807 ≤ eint g 0 [] i 17) : Good g := by
  unfold plainP at hP
  split at hP
  · rename_i a1 a2
    have b1 : (g.l.length : Int) ≤ n := hiB_ok a1 hv
    have b2 : (g.t.length : Int) ≤ 0 := hiB_ok a2 hv
    have lo := lowB_ok hv hP
    have ht : g.t.length = 0 := by omega
    have e0 := t_none (g := g) (j := 0) (by omega)
    have e1 := t_none (g := g) (j := 1) (by omega)
    exact { a := lo 1 (by decide), b := lo 2 (by decide), n := lo 3 (by decide), m := lo 4 (by decide), i6 := lo 6 (by decide), i7 := lo 7 (by decide), i8 := lo 8 (by decide), i9 := lo 9 (by decide), i10 := lo 10 (by decide),
            t00 := by rw [e0]; exact low_0, t01 := by rw [e0]; exact low_0, t10 := by rw [e1]; exact low_0, t11 := by rw [e1]; exact low_0, el := el_of he, k1 := h1, k2 := h2,
            l26 := fun hk => by rcases hn with rfl | ⟨_, e⟩
                                · omega
                                · exact absurd e hk
            tit := fun _ => ht, l250 := by rcases hn with rfl | ⟨rfl, _⟩ <;> omega, t2 := by omega }
  · cases hP
theorem good_item (h : g.OK w) (h3 : isItem g.k = true) (h2 : g.t.length ≤ 2) (hm : mayB g = true) {iv : Ivs} (hv : ∀ j, (ivAt iv j).1 ≤ eint g 0 [] 0 j ∧ eint g 0 [] 0 j ≤ (ivAt iv j).2) (hP : itemP iv = true) (he : ∀ i, i < g.l.length → -9223372036854775807 ≤ eint g 0 [] i 17) : Good g := by
  obtain ⟨iv2, rs2, k1, k2⟩ := allI_ok b_may (VOK_of (iv_emiv0 (c := 0) (s := []) (i := 0) h (by decide) (by decide) (by omega) h2))
  have e : valX emt0 (erho g 0 [] 0).int = .ret (.bool true) := by rw [show valX emt0 (erho g 0 [] 0).int = _ from may_val, hm]
  rw [e] at k2
  have kv : ∀ j, (ivAt iv2 j).1 ≤ eint g 0 [] 0 j ∧ eint g 0 [] 0 j ≤ (ivAt iv2 j).2 := k1.1
  simp only [mayP] at k2
  unfold itemP at hP
  split at hP
  · rename_i a1
    have b1 : (g.l.length : Int) ≤ 0 := hiB_ok a1 hv
    have lo := lowB_ok hv hP
    have key : lowB iv2 [6, 7, 8, 9, 10] = true ∧ Low (g.t.getD 0 (0, 0)).1 ∧ Low (g.t.getD 0 (0, 0)).2 ∧ Low (g.t.getD 1 (0, 0)).1 ∧ Low (g.t.getD 1 (0, 0)).2 := by
      split at k2
      · rename_i _ m1 m2
        have : (g.t.length : Int) ≤ 0 := hiB_ok m2 kv
        rw [t_none (g := g) (j := 0) (by omega), t_none (g := g) (j := 1) (by omega)]
        exact ⟨m1, low_0, low_0, low_0, low_0⟩
      · rename_i m1 m2 m3
        have : (g.t.length : Int) ≤ 1 := hiB_ok m3 kv
        have l2 := lowB_ok kv k2
        rw [t_none (g := g) (j := 1) (by omega)]
        exact ⟨m1, l2 20 (by decide), l2 21 (by decide), low_0, low_0⟩
      · rename_i m1 m2 m3
        have l2 := lowB_ok kv k2
        exact ⟨m1, l2 20 (by decide), l2 21 (by decide), l2 22 (by decide), l2 23 (by decide)⟩
      · cases k2
    obtain ⟨m1, m2, m3, m4, m5⟩ := key
    have l6 := lowB_ok kv m1
    have h3' := of_decide_eq_true h3
    exact { a := lo 1 (by decide), b := lo 2 (by decide), n := lo 3 (by decide), m := lo 4 (by decide), i6 := l6 6 (by decide), i7 := l6 7 (by decide), i8 := l6 8 (by decide), i9 := l6 9 (by decide), i10 := l6 10 (by decide),
            t00 := m2, t01 := m3, t10 := m4, t11 := m5, el := el_of he, k1 := by omega, k2 := by omega, l26 := fun _ => by omega, tit := (fun x => by rw [h3] at x; cases x), l250 := by omega, t2 := h2 }
  · cases hP
theorem posK_lt (h1 : 0 < g.k) (h2 : g.k < 30) (h3 : isItem g.k = false) : posK g.k < 26 ∧ (posK g.k = 23 → g.k = 26) := by
  have h3 := of_decide_eq_false h3
  rcases (show g.k = 1 ∨ g.k = 2 ∨ g.k = 3 ∨ g.k = 4 ∨ g.k = 5 ∨ g.k = 6 ∨ g.k = 7 ∨ g.k = 8 ∨ g.k = 9 ∨ g.k = 10 ∨ g.k = 11 ∨ g.k = 12 ∨ g.k = 13 ∨ g.k = 14 ∨ g.k = 16 ∨ g.k = 18 ∨ g.k = 19 ∨ g.k = 20 ∨ g.k = 21 ∨ g.k = 22 ∨ g.k = 23 ∨ g.k = 24 ∨ g.k = 25 ∨ g.k = 26 ∨ g.k = 27 ∨ g.k = 29 by omega) with hk | hk | hk | hk | hk | hk | hk | hk | hk | hk | hk | hk | hk | hk | hk | hk | hk | hk | hk | hk | hk | hk | hk | hk | hk | hk <;> rw [hk] <;> decide
theorem posI_lt : posI g.k < 3 := by
  unfold posI
  split <;> decide
theorem good_of (h : g.OK w) (hz : chk g = 0) : Good g := by
  have i0 : IvOK eciv0 (erho g 0 [] 0) := iv_eciv0 h (by decide) (by decide) (by omega)
  have iL : ∀ i, i < g.l.length → ∀ j, (ivAt eciv0 j).1 ≤ eint g 0 [] i j ∧ eint g 0 [] i j ≤ (ivAt eciv0 j).2 := fun i hi => by
    have hn := h.nl
    exact iv_eciv0 (c := 0) (s := []) (i := i) h (by decide) (by decide) (by omega)
  unfold chk at hz
  by_cases h1 : g.k ≤ 0
  · rw [if_pos h1, out_tell26] at hz
    simp only [valX] at hz
    split at hz
    · split at hz <;> cases hz
    · cases hz
  · rw [if_neg h1] at hz
    by_cases h2 : 30 ≤ g.k
    · rw [if_pos h2, out_tell27] at hz
      simp only [valX] at hz
      split at hz
      · split at hz <;> cases hz
      · cases hz
    · rw [if_neg h2] at hz
      cases h3 : isItem g.k with
      | true =>
        rw [h3, if_pos rfl] at hz
        by_cases h4 : 3 ≤ g.t.length
        · rw [if_pos h4] at hz
          cases hz
        · rw [if_neg h4] at hz
          cases hm : mayB g with
          | true =>
            rw [hm, if_pos rfl] at hz
            obtain ⟨⟨iv', k1, k2⟩, k3⟩ := bound_ok (n := g.l.length) (v := fun i => eint g 0 [] i) (allP_ok b_true (posI g.k) posI_lt) hz (may_in h (by omega) hm) iL
            exact good_item h h3 (by omega) hm k1 k2 k3
          | false =>
            rw [hm, if_neg (by decide)] at hz
            obtain ⟨⟨iv', k1, k2⟩, k3⟩ := bound_ok (n := g.l.length) (v := fun i => eint g 0 [] i) (allP_ok b_false (posI g.k) posI_lt) hz i0 iL
            exact good_plain (by omega) (by omega) k1 k2 (.inl rfl) k3
      | false =>
        rw [h3, if_neg (by decide)] at hz
        obtain ⟨p1, p2⟩ := posK_lt (g := g) (by omega) (by omega) h3
        have hb := allP_ok b_plain (posK g.k) p1
        split at hb
        · rename_i h5
          have e5 := Nat.eq_of_beq_eq_true h5
          obtain ⟨⟨iv', k1, k2⟩, k3⟩ := bound_ok (n := g.l.length) (v := fun i => eint g 0 [] i) hb hz i0 iL
          exact good_plain (by omega) (by omega) k1 k2 (.inr ⟨rfl, p2 e5⟩) k3
        · obtain ⟨⟨iv', k1, k2⟩, k3⟩ := bound_ok (n := g.l.length) (v := fun i => eint g 0 [] i) hb hz i0 iL
          exact good_plain (by omega) (by omega) k1 k2 (.inl rfl) k3
end
end
end Go.Proofs.YtjfbakhebdhbmaaDoor.event
