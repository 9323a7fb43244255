/-
  Two automata over an index, held against each other: each from an entry of its own.
-/
import Derived.Test.YtjfbakhebdhbmaaDoorEv9
import Derived.Test.YtjfbakhebdhbmaaDoorEv4
namespace Go.Ev
set_option linter.unusedVariables false
noncomputable section
open Go.RowKit
inductive Rd2 (C : List CutP) (ia ij : Nat) (v : Nat → Nat → Int) (n : Nat) : Nat → Nat → VV → Prop where
  | ret {p i : Nat} {c : CutP} {r : VV} : lget C p = some c → i ≤ n → valX c.tr (v i) = .ret r → Rd2 C ia ij v n p i r
  | next {p i q : Nat} {c d : CutP} {r : VV} : lget C p = some c → i < n → valX c.tr (v i) = .goto q [.sint .i64 ij] → lget C q = some d → d.ys = [.sint .i64 ia] → Rd2 C ia ij v n q (i + 1) r → Rd2 C ia ij v n p i r
  | zero {p i q : Nat} {c d : CutP} {r : VV} : lget C p = some c → i ≤ n → valX c.tr (v i) = .goto q [.int .i64 0] → lget C q = some d → d.ys = [.sint .i64 ia] → Rd2 C ia ij v n q 0 r → Rd2 C ia ij v n p i r
theorem rd2_runs [Ext] {C : List CutP} {w0 : World} {ia ij n : Nat} {rho : Nat → Rho} (ha : ∀ i, (rho i).int ia = i) (hj : ∀ i, (rho i).int ij = (i : Int) + 1) (hN : ∀ q d, lget C q = some d → d.ys = [.sint .i64 ia] → ∀ i j, agree d.N (rho i) (rho j)) (hOK : ∀ q d i, lget C q = some d → d.ys = [.sint .i64 ia] → i ≤ n → d.OK w0 (rho i)) {p i : Nat} {r : VV} (hr : Rd2 C ia ij (fun i => (rho i).int) n p i r) {res : Value} (hres : ∀ ρ, sval ρ r = some res) (hst : ∀ c, lget C p = some c → c.OK w0 (rho i)) : ∃ k, Runs C w0 res k p (rho i) := by
  induction hr with
  | @ret p i c r h1 h2 h3 => exact run_ret h1 (hst _ h1) h3 (hres _)
  | @next p i q c d r h1 h2 h3 h4 h5 _ ih =>
    refine run_step h1 (hst _ h1) h3 h4 (hN _ _ h4 h5 _ _) ?_ (ih hres fun c hc => hOK _ _ _ hc (by rw [h4] at hc; cases hc; exact h5) (by omega))
    rw [h5]
    refine ⟨⟨.int .i64 ((i : Int) + 1), ?_, ?_⟩, trivial⟩
    · simp only [sval, hj]
    · simp only [sval, ha]
      rfl
  | @zero p i q c d r h1 h2 h3 h4 h5 _ ih =>
    refine run_step h1 (hst _ h1) h3 h4 (hN _ _ h4 h5 _ _) ?_ (ih hres fun c hc => hOK _ _ _ hc (by rw [h4] at hc; cases hc; exact h5) (Nat.zero_le _))
    rw [h5]
    refine ⟨⟨.int .i64 0, rfl, ?_⟩, trivial⟩
    simp only [sval, ha]
    rfl
def leafZ : Leaf → Int
  | .ret (.int .i64 z) => z
  | _ => 2
/-- It tells a number from 0 to 1000, or goes on at a cut. -/
def headOK (q : Nat) : Leaf → Bool
  | .ret r => match r with
    | .int .i64 z => match decide (0 ≤ z) with
      | true => decide (z ≤ 1000)
      | false => false
    | _ => false
  | .goto q' xs => match Nat.beq q' q, xs with
    | true, [.int .i64 z] => decide (z = 0)
    | _, _ => false
def retOK : Leaf → Bool
  | .ret r => match r with
    | .int .i64 z => match decide (0 ≤ z) with
      | true => decide (z ≤ 1000)
      | false => false
    | _ => false
  | _ => false
theorem retOK_ok {o : Leaf} (h : retOK o = true) : o = .ret (.int .i64 (leafZ o)) ∧ 0 ≤ leafZ o ∧ leafZ o ≤ 1000 := by
  unfold retOK at h
  split at h
  · split at h
    · split at h
      · rename_i h1
        exact ⟨rfl, of_decide_eq_true h1, of_decide_eq_true h⟩
      · cases h
    · cases h
  · cases h
theorem headOK_ok {q : Nat} {o : Leaf} (h : headOK q o = true) : (o = .ret (.int .i64 (leafZ o)) ∧ 0 ≤ leafZ o ∧ leafZ o ≤ 1000 ∧ isGo o = false) ∨ (o = .goto q [.int .i64 0] ∧ isGo o = true) := by
  unfold headOK at h
  split at h
  · split at h
    · split at h
      · rename_i h1
        exact .inl ⟨rfl, of_decide_eq_true h1, of_decide_eq_true h, rfl⟩
      · cases h
    · cases h
  · split at h
    · rename_i h1
      rw [Nat.eq_of_beq_eq_true h1, of_decide_eq_true h]
      exact .inr ⟨rfl, rfl⟩
    · cases h
/-- The first cut that a tree goes on at. -/
def firstGo : TrX Leaf → Option Nat
  | .leaf (.goto q _) => some q
  | .leaf (.ret _) => none
  | .cut _ _ l r => match firstGo l with
    | some q => some q
    | none => firstGo r
  | .rel _ _ _ l r => match firstGo l with
    | some q => some q
    | none => firstGo r
/-- A loop that searches: its body, its end. -/
def loopB (ia ib ij q : Nat) (d : CutP) : Bool := match d.tr with
  | .rel _ a b L R => match Nat.beq a ia, Nat.beq b ib, vvsEq d.ys [.sint .i64 ia], allL (goOr q ij 2) L with
    | true, true, true, true => allL retOK R
    | _, _, _, _ => false
  | _ => false
def trL : TrX Leaf → TrX Leaf
  | .rel _ _ _ L _ => L
  | t => t
def trR : TrX Leaf → TrX Leaf
  | .rel _ _ _ _ R => R
  | t => t
theorem rel_val {ia ib ij q : Nat} {d : CutP} (h : loopB ia ib ij q d = true) {v : Nat → Int} : (v ia < v ib → valX d.tr v = if isGo (valX (trL d.tr) v) = true then .goto q [.sint .i64 ij] else .ret (.int .i64 2)) ∧ (¬ v ia < v ib → valX d.tr v = .ret (.int .i64 (leafZ (valX (trR d.tr) v))) ∧ 0 ≤ leafZ (valX (trR d.tr) v) ∧ leafZ (valX (trR d.tr) v) ≤ 1000) ∧ d.ys = [.sint .i64 ia] := by
  unfold loopB at h
  split at h
  · rename_i k a b L R hd
    split at h
    · rename_i h1 h2 h3 h4
      have e1 := Nat.eq_of_beq_eq_true h1
      have e2 := Nat.eq_of_beq_eq_true h2
      subst e1 e2
      rw [hd]
      refine ⟨fun hlt => ?_, fun hlt => ?_, vvsEq_eq _ _ h3⟩
      · simp only [valX, trL]
        rw [if_pos hlt]
        exact goOr_ok (allL_ok h4)
      · simp only [valX, trR]
        rw [if_neg hlt]
        exact retOK_ok (allL_ok h)
    · cases h
  · cases h
/-- What an automaton of that kind tells. -/
def tellE (C : List CutP) (p : Nat) (v : Nat → Nat → Int) (n : Nat) : Int := match lget C p with
  | some c => match valX c.tr (v 0) with
    | .goto q _ => match lget C q with
      | some d => if allF (fun i => isGo (valX (trL d.tr) (v i))) n 0 = true then leafZ (valX (trR d.tr) (v n)) else 2
      | none => 2
    | o => leafZ o
  | none => 2
def okE (ia ib ij : Nat) (C : List CutP) (p : Nat) : Bool := match lget C p with
  | some c => match firstGo c.tr with
    | some q => match lget C q with
      | some d => match allL (headOK q) c.tr with
        | true => loopB ia ib ij q d
        | false => false
      | none => false
    | none => allL retOK c.tr
  | none => false
theorem rd2_search {C : List CutP} {ia ij n q : Nat} {v : Nat → Nat → Int} {d : CutP} {g : Nat → Bool} {z : Int} (hd : lget C q = some d) (hys : d.ys = [.sint .i64 ia]) (hstep : ∀ i, i < n → valX d.tr (v i) = if g i = true then .goto q [.sint .i64 ij] else .ret (.int .i64 2)) (hend : valX d.tr (v n) = .ret (.int .i64 z)) :
    ∀ m i, i + m = n → Rd2 C ia ij v n q i (.int .i64 (if allF g m i = true then z else 2))
  | 0, i, h => by
    have e : i = n := by omega
    subst e
    exact .ret hd (Nat.le_refl _) hend
  | m + 1, i, h => by
    have hi := hstep i (by omega)
    have ih := rd2_search hd hys hstep hend m (i + 1) (by omega)
    by_cases hg : g i = true
    · rw [if_pos hg] at hi
      refine .next hd (by omega) hi hd hys ?_
      simp only [allF, hg, Bool.true_and]
      exact ih
    · rw [if_neg hg] at hi
      simp only [allF, hg, Bool.false_and]
      exact .ret hd (by omega) hi
theorem okE_ok {ia ib ij p n : Nat} {C : List CutP} {v : Nat → Nat → Int} (h : okE ia ib ij C p = true) (ha : ∀ i, v i ia = i) (hb : ∀ i, v i ib = n) : Rd2 C ia ij v n p 0 (.int .i64 (tellE C p v n)) ∧ 0 ≤ tellE C p v n ∧ tellE C p v n ≤ 1000 := by
  unfold okE at h
  split at h
  · rename_i c hc
    split at h
    · rename_i q hq
      split at h
      · rename_i d hd
        split at h
        · rename_i h1
          have hh := headOK_ok (allL_ok (v := v 0) h1)
          obtain ⟨_, _, hys⟩ := rel_val h (v := v 0)
          rcases hh with ⟨h2, h3, h4, h5⟩ | ⟨h2, _⟩
          · have e : tellE C p v n = leafZ (valX c.tr (v 0)) := by
              unfold tellE
              rw [hc]
              simp only
              rw [h2]
            rw [e]
            exact ⟨.ret hc (Nat.zero_le _) h2, h3, h4⟩
          · have e : tellE C p v n = if allF (fun i => isGo (valX (trL d.tr) (v i))) n 0 = true then leafZ (valX (trR d.tr) (v n)) else 2 := by
              unfold tellE
              rw [hc]
              simp only
              rw [h2]
              simp only [hd]
            obtain ⟨g1, g2, g3⟩ := (rel_val h (v := v n)).2.1 (by rw [ha, hb]; omega)
            rw [e]
            refine ⟨.zero hc (Nat.zero_le _) h2 hd hys (rd2_search hd hys (fun i hi => (rel_val h (v := v i)).1 (by rw [ha, hb]; omega)) g1 n 0 (by omega)), ?_, ?_⟩
            · split <;> omega
            · split <;> omega
        · cases h
      · cases h
    · have hh := retOK_ok (allL_ok (v := v 0) h)
      have e : tellE C p v n = leafZ (valX c.tr (v 0)) := by
        unfold tellE
        rw [hc]
        simp only
        rw [hh.1]
      rw [e]
      exact ⟨.ret hc (Nat.zero_le _) hh.1, hh.2.1, hh.2.2⟩
  · cases h
/-! ### the other one: it gathers -/
def goNum : Leaf → Nat
  | .goto q _ => q
  | _ => 0
/-- All gotos begin anew; all numbers are 0 .. 1000. -/
def headR : Leaf → Bool
  | .ret r => retOK (.ret r)
  | .goto q xs => match xs with
    | [.int .i64 z] => decide (z = 0)
    | _ => false
/-- A loop that goes on whatever comes, and tells 2. -/
def loopF (ia ib ij q : Nat) (d : CutP) : Bool := match d.tr with
  | .rel _ a b L R => match Nat.beq a ia, Nat.beq b ib, vvsEq d.ys [.sint .i64 ia], allL (goGo q q ij) L with
    | true, true, true, true => allL (fun o => match o with | .ret r => vvEq r (.int .i64 2) | _ => false) R
    | _, _, _, _ => false
  | _ => false
/-- A loop that goes on, at one of two cuts. -/
def loopT (ia ib ij q q2 : Nat) (d : CutP) : Bool := match d.tr with
  | .rel _ a b L R => match Nat.beq a ia, Nat.beq b ib, vvsEq d.ys [.sint .i64 ia], allL (goGo q q2 ij) L with
    | true, true, true, true => allL retOK R
    | _, _, _, _ => false
  | _ => false
theorem loopF_val {ia ib ij q : Nat} {d : CutP} (h : loopF ia ib ij q d = true) {v : Nat → Int} : (v ia < v ib → valX d.tr v = .goto q [.sint .i64 ij]) ∧ (¬ v ia < v ib → valX d.tr v = .ret (.int .i64 2)) ∧ d.ys = [.sint .i64 ia] := by
  unfold loopF at h
  split at h
  · rename_i k a b L R hd
    split at h
    · rename_i h1 h2 h3 h4
      have e1 := Nat.eq_of_beq_eq_true h1
      have e2 := Nat.eq_of_beq_eq_true h2
      subst e1 e2
      rw [hd]
      refine ⟨fun hlt => ?_, fun hlt => ?_, vvsEq_eq _ _ h3⟩
      · simp only [valX]
        rw [if_pos hlt, goGo_ok (allL_ok h4)]
        split <;> rfl
      · simp only [valX]
        rw [if_neg hlt]
        have := allL_ok (v := v) h
        split at this
        · rename_i r hr
          rw [hr, vvEq_eq _ _ this]
        · cases this
    · cases h
  · cases h
theorem loopT_val {ia ib ij q q2 : Nat} {d : CutP} (h : loopT ia ib ij q q2 d = true) {v : Nat → Int} : (v ia < v ib → valX d.tr v = if goesTo q (valX (trL d.tr) v) = true then .goto q [.sint .i64 ij] else .goto q2 [.sint .i64 ij]) ∧ (¬ v ia < v ib → valX d.tr v = .ret (.int .i64 (leafZ (valX (trR d.tr) v)))) ∧ d.ys = [.sint .i64 ia] := by
  unfold loopT at h
  split at h
  · rename_i k a b L R hd
    split at h
    · rename_i h1 h2 h3 h4
      have e1 := Nat.eq_of_beq_eq_true h1
      have e2 := Nat.eq_of_beq_eq_true h2
      subst e1 e2
      rw [hd]
      refine ⟨fun hlt => ?_, fun hlt => ?_, vvsEq_eq _ _ h3⟩
      · simp only [valX, trL]
        rw [if_pos hlt]
        exact goGo_ok (allL_ok h4)
      · simp only [valX, trR]
        rw [if_neg hlt]
        exact (retOK_ok (allL_ok h)).1
    · cases h
  · cases h
theorem rd2_all {C : List CutP} {ia ib ij n q : Nat} {v : Nat → Nat → Int} {d : CutP} (hd : lget C q = some d) (h : loopF ia ib ij q d = true) (ha : ∀ i, v i ia = i) (hb : ∀ i, v i ib = n) : ∀ m i, i + m = n → Rd2 C ia ij v n q i (.int .i64 2)
  | 0, i, hi => .ret hd (by omega) ((loopF_val h).2.1 (by rw [ha, hb]; omega))
  | m + 1, i, hi => .next hd (by omega) ((loopF_val h).1 (by rw [ha, hb]; omega)) hd (loopF_val h (v := v 0)).2.2 (rd2_all hd h ha hb m (i + 1) (by omega))
theorem rd2_acc {C : List CutP} {ia ib ij n q q2 : Nat} {v : Nat → Nat → Int} {d d2 : CutP} (hd : lget C q = some d) (h : loopT ia ib ij q q2 d = true) (hd2 : lget C q2 = some d2) (h2 : loopF ia ib ij q2 d2 = true) (ha : ∀ i, v i ia = i) (hb : ∀ i, v i ib = n) : ∀ m i, i + m = n → Rd2 C ia ij v n q i (.int .i64 (if allF (fun i => goesTo q (valX (trL d.tr) (v i))) m i = true then leafZ (valX (trR d.tr) (v n)) else 2))
  | 0, i, hi => by
    have e : i = n := by omega
    subst e
    exact .ret hd (Nat.le_refl _) ((loopT_val h).2.1 (by rw [ha, hb]; omega))
  | m + 1, i, hi => by
    have hs := (loopT_val h (v := v i)).1 (by rw [ha, hb]; omega)
    have ih := rd2_acc hd h hd2 h2 ha hb m (i + 1) (by omega)
    by_cases hg : goesTo q (valX (trL d.tr) (v i)) = true
    · rw [if_pos hg] at hs
      refine .next hd (by omega) hs hd (loopT_val h (v := v 0)).2.2 ?_
      simp only [allF, hg, Bool.true_and]
      exact ih
    · rw [if_neg hg] at hs
      simp only [allF, hg, Bool.false_and]
      exact .next hd (by omega) hs hd2 (loopF_val h2 (v := v 0)).2.2 (rd2_all hd2 h2 ha hb m (i + 1) (by omega))
/-- Leaves of the two heads, side by side: a number, and the same or the cut that tells 2; on, and on. -/
def headEq (ia ib ij : Nat) (Cr : List CutP) (qT : Option Nat) (a b : Leaf) : Bool := match a with
  | .ret r => match r, b with
    | .int .i64 z, .ret (.int .i64 z') => decide (z = z')
    | .int .i64 z, .goto qF xs => match decide (z = 2), xs, lget Cr qF with
      | true, [.int .i64 y], some dF => match decide (y = 0) with
        | true => loopF ia ib ij qF dF
        | false => false
      | _, _, _ => false
    | _, _ => false
  | .goto _ _ => match b, qT with
    | .goto q [.int .i64 y], some t => match Nat.beq q t with
      | true => decide (y = 0)
      | false => false
    | _, _ => false
/-- The cut of the second one at which its first one goes on. -/
def goodGo : TrX Leaf → List Nat → Option Nat
  | t, l => l.head?
def sameK (ia ib ij : Nat) (Ce : List CutP) (pe : Nat) (Cr : List CutP) (pr : Nat) (qT : Option Nat) (iv ivL : Ivs) : Bool := match lget Ce pe, lget Cr pr with
  | some c, some r => match eqY (headEq ia ib ij Cr qT) r.tr c.tr iv [] with
    | true => match firstGo c.tr, qT with
      | some q, some t => match lget Ce q, lget Cr t with
        | some d, some dT => match dT.tr with
          | .rel _ _ _ LT RT => match firstF t LT with
            | some f => match lget Cr f with
              | some dF => match loopT ia ib ij t f dT, loopF ia ib ij f dF, eqY (fun a b => bEq (isGo a) (goesTo t b)) LT (trL d.tr) ivL [(ia, ib, true)] with
                | true, true, true => eqY (fun a b => decide (leafZ a = leafZ b)) RT (trR d.tr) ivL [(ia, ib, false)]
                | _, _, _ => false
              | none => false
            | none => false
          | _ => false
        | _, _ => false
      | none, none => true
      | _, _ => false
    | false => false
  | _, _ => false
where
  /-- A cut, not that one, at which a tree goes on. -/
  firstF (t : Nat) : TrX Leaf → Option Nat
    | .leaf (.goto q _) => match Nat.beq q t with
      | true => none
      | false => some q
    | .leaf (.ret _) => none
    | .cut _ _ l r => match firstF t l with
      | some q => some q
      | none => firstF t r
    | .rel _ _ _ l r => match firstF t l with
      | some q => some q
      | none => firstF t r
theorem headEq_go {ia ib ij t q : Nat} {Cr : List CutP} {xs : List VV} {b : Leaf} (h : headEq ia ib ij Cr (some t) (.goto q xs) b = true) : b = .goto t [.int .i64 0] := by
  cases b with
  | ret r => simp [headEq] at h
  | goto q3 ys =>
    simp only [headEq] at h
    split at h
    · rename_i e1 e2
      cases e1
      cases e2
      split at h
      · rename_i e
        rw [Nat.eq_of_beq_eq_true e, of_decide_eq_true h]
      · cases h
    · cases h
theorem sameK_ok {ia ib ij pe pr n : Nat} {Ce Cr : List CutP} {qT : Option Nat} {iv ivL : Ivs} {v : Nat → Nat → Int} (h : sameK ia ib ij Ce pe Cr pr qT iv ivL = true) (he : okE ia ib ij Ce pe = true) (ha : ∀ i, v i ia = i) (hb : ∀ i, v i ib = n) (h0 : VOK iv [] (v 0)) (hL : ∀ i, i ≤ n → ∀ j, (ivAt ivL j).1 ≤ v i j ∧ v i j ≤ (ivAt ivL j).2) : Rd2 Cr ia ij v n pr 0 (.int .i64 (tellE Ce pe v n)) := by
  unfold sameK at h
  split at h
  · rename_i c r hc hr
    split at h
    · rename_i h1
      have k1 := eqY_ok (p := headEq ia ib ij Cr qT) h1 h0
      unfold okE at he
      rw [hc] at he
      simp only at he
      have tell_ret : ∀ z, valX c.tr (v 0) = .ret (.int .i64 z) → tellE Ce pe v n = z := fun z hz => by
        unfold tellE
        rw [hc]
        simp only [hz, leafZ]
      have retcase : ∀ z, valX c.tr (v 0) = .ret (.int .i64 z) → Rd2 Cr ia ij v n pr 0 (.int .i64 (tellE Ce pe v n)) := fun z hz => by
        rw [tell_ret z hz]
        rw [hz] at k1
        simp only [headEq] at k1
        split at k1
        · rename_i z1 z2 e1 e2
          cases e1
          rw [of_decide_eq_true k1]
          exact .ret hr (Nat.zero_le _) e2
        · rename_i z1 qF xs e1 e2
          cases e1
          split at k1
          · rename_i y dF e3 e4
            split at k1
            · rename_i e5
              rw [of_decide_eq_true e3]
              rw [of_decide_eq_true e5] at e2
              exact .zero hr (Nat.zero_le _) e2 e4 (loopF_val k1 (v := v 0)).2.2 (rd2_all e4 k1 ha hb n 0 (by omega))
            · cases k1
          · cases k1
        · cases k1
      cases hq : firstGo c.tr with
      | some q => cases qT with
        | none => rw [hq] at h; cases h
        | some t =>
        rw [hq] at h he
        simp only at h he
        split at h
        · rename_i d dT hd hdT
          rw [hd] at he
          simp only at he
          split at he
          · rename_i he1
            rcases headOK_ok (allL_ok (v := v 0) he1) with ⟨g1, _⟩ | ⟨g1, _⟩
            · exact retcase _ g1
            · split at h
              · rename_i kk a b LT RT hdt
                split at h
                · rename_i f hf
                  split at h
                  · rename_i dF hdF
                    split at h
                    · rename_i m1 m2 m3
                      have e : tellE Ce pe v n = if allF (fun i => isGo (valX (trL d.tr) (v i))) n 0 = true then leafZ (valX (trR d.tr) (v n)) else 2 := by
                        unfold tellE
                        rw [hc]
                        simp only
                        rw [g1]
                        simp only [hd]
                      rw [g1] at k1
                      have e1 := headEq_go k1
                      have acc := rd2_acc hdT m1 hdF m2 ha hb n 0 (by omega)
                      have sg : ∀ i, i < n → isGo (valX (trL d.tr) (v i)) = goesTo t (valX LT (v i)) := fun i hi => by
                        have hv : VOK ivL [(ia, ib, true)] (v i) := ⟨hL i (by omega), fun p hp => by
                          simp only [List.mem_singleton] at hp
                          subst hp
                          exact decide_eq_true (by rw [ha, hb]; omega)⟩
                        exact bEq_eq (eqY_ok (p := fun a b => bEq (isGo a) (goesTo t b)) m3 hv)
                      have se : leafZ (valX (trR d.tr) (v n)) = leafZ (valX RT (v n)) := by
                        have hv : VOK ivL [(ia, ib, false)] (v n) := ⟨hL n (Nat.le_refl _), fun p hp => by
                          simp only [List.mem_singleton] at hp
                          subst hp
                          exact decide_eq_false (by rw [ha, hb]; omega)⟩
                        exact of_decide_eq_true (eqY_ok (p := fun a b => decide (leafZ a = leafZ b)) h hv)
                      have eL : trL dT.tr = LT := by rw [hdt]; rfl
                      have eR : trR dT.tr = RT := by rw [hdt]; rfl
                      rw [eL, eR, ← se] at acc
                      have ef : allF (fun i => isGo (valX (trL d.tr) (v i))) n 0 = allF (fun i => goesTo t (valX LT (v i))) n 0 := by
                        have key : ∀ m i, i + m ≤ n → allF (fun i => isGo (valX (trL d.tr) (v i))) m i = allF (fun i => goesTo t (valX LT (v i))) m i := by
                          intro m
                          induction m with
                          | zero => intro i _; rfl
                          | succ m ih => intro i hi; simp only [allF]; rw [sg i (by omega), ih (i + 1) (by omega)]
                        exact key n 0 (by omega)
                      rw [e, ef]
                      exact .zero hr (Nat.zero_le _) e1 hdT (loopT_val m1 (v := v 0)).2.2 acc
                    · cases h
                  · cases h
                · cases h
              · cases h
          · cases he
        · cases h
      | none =>
        rw [hq] at he
        simp only at he
        exact retcase _ (retOK_ok (allL_ok (v := v 0) he)).1
    · cases h
  · cases h
end
end Go.Ev
