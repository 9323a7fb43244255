/-
  Two automata over an index, held against each other: each from an entry of its own.
-/
import Derived.Test.YtjfbakhebdhbmaaDoorEv9
import Derived.Test.YtjfbakhebdhbmaaDoorEv4
namespace Go.Ev
set_option linter.unusedVariables false
noncomputable section
open Go.RowKit
inductive Rd2 (C : List CutP) (ia ij : Nat) (v : Nat → Nat → Int) (n : Nat) : Nat → Nat → VV → Prop where
  | ret {p i : Nat} {c : CutP} {r : VV} : lget C p = some c → i ≤ n → valX c.tr (v i) = .ret r → Rd2 C ia ij v n p i r
  | next {p i q : Nat} {c d : CutP} {r : VV} : lget C p = some c → i < n → valX c.tr (v i) = .goto q [.sint .i64 ij] → lget C q = some d → d.ys = [.sint .i64 ia] → Rd2 C ia ij v n q (i + 1) r → Rd2 C ia ij v n p i r
  | zero {p i q : Nat} {c d : CutP} {r : VV} : lget C p = some c → i ≤ n → valX c.tr (v i) = .goto q [.int .i64 0] → lget C q = some d → d.ys = [.sint .i64 ia] → Rd2 C ia ij v n q 0 r → Rd2 C ia ij v n p i r
theorem rd2_runs [Ext] {C : List CutP} {w0 : World} {ia ij n : Nat} {rho : Nat → Rho} (ha : ∀ i, (rho i).int ia = i) (hj : ∀ i, (rho i).int ij = (i : Int) + 1) (hN : ∀ q d, lget C q = some d → d.ys = [.sint .i64 ia] → ∀ i j, agree d.N (rho i) (rho j)) (hOK : ∀ q d i, lget C q = some d → d.ys = [.sint .i64 ia] → i ≤ n → d.OK w0 (rho i)) {p i : Nat} {r : VV} (hr : Rd2 C ia ij (fun i => (rho i).int) n p i r) {res : Value} (hres : ∀ ρ, sval ρ r = some res) (hst : ∀ c, lget C p = some c → c.OK w0 (rho i)) : ∃ k, Runs C w0 res k p (rho i) := by
  induction hr with
  | @ret p i c r h1 h2 h3 => exact run_ret h1 (hst _ h1) h3 (hres _)
  | @next p i q c d r h1 h2 h3 h4 h5 _ ih =>
    refine run_step h1 (hst _ h1) h3 h4 (hN _ _ h4 h5 _ _) ?_ (ih hres fun c hc => hOK _ _ _ hc (by rw [h4] at hc; cases hc; exact h5) (by omega))
    rw [h5]
    refine ⟨⟨.int .i64 ((i : Int) + 1), ?_, ?_⟩, trivial⟩
    · simp only [sval, hj]
    · simp only [sval, ha]
      rfl
  | @zero p i q c d r h1 h2 h3 h4 h5 _ ih =>
    refine run_step h1 (hst _ h1) h3 h4 (hN _ _ h4 h5 _ _) ?_ (ih hres fun c hc => hOK _ _ _ hc (by rw [h4] at hc; cases hc; exact h5) (Nat.zero_le _))
    rw [h5]
    refine ⟨⟨.int .i64 0, rfl, ?_⟩, trivial⟩
    simp only [sval, ha]
    rfl
def leafZ : Leaf → Int
  | .ret (.int .i64 z) => z
  | _ => 2
/-- It tells a number from 0 to 1000, or goes on at a cut. -/
def headOK (q : Nat) : Leaf → Bool
  | .ret r => match r with
    | .int .i64 z => match decide (0 ≤ z) with
      | true => decide (z ≤ 1000)
      | false => false
    | _ => false
  | .goto q' xs => match Nat.beq q' q, xs with
    | true, [.int .i64 z] => decide (z = 0)
    | _, _ => false
def retOK : Leaf → Bool
  | .ret r => match r with
    | .int .i64 z => match decide (0 ≤ z) with
      | true => decide (z ≤ 1000)
      | false => false
    | _ => false
  | _ => false
theorem retOK_ok {o : Leaf} (h : retOK o = true) : o = .ret (.int .i64 (leafZ o)) ∧ 0 ≤ leafZ o ∧ leafZ o ≤ 1000 := by
  unfold retOK at h
  split at h
  · split at h
    · split at h
      · rename_i h1
        exact ⟨rfl, of_decide_eq_true h1, of_decide_eq_true h⟩
      · cases h
    · cases h
  · cases h
theorem headOK_ok {q : Nat} {o : Leaf} (h : headOK q o = true) : (o = .ret (.int .i64 (leafZ o)) ∧ 0 ≤ leafZ o ∧ leafZ o ≤ 1000 ∧ isGo o = false) ∨ (o = .goto q [.int .i64 0] ∧ isGo o = true) := by
  unfold headOK at h
  split at h
  · split at h
    · split at h
      · rename_i h1
        exact .inl ⟨rfl, of_decide_eq_true h1, of_decide_eq_true h, rfl⟩
      · cases h
    · cases h
  · split at h
    · rename_i h1
      rw [Nat.eq_of_beq_eq_true h1, of_decide_eq_true h]
      exact .inr ⟨rfl, rfl⟩
    · cases h
/-- The first cut that a tree goes on at. -/
def firstGo : TrX Leaf → Option Nat
  | .leaf (.goto q _) => some q
  | .leaf (.ret _) => none
  | .cut _ _ l r => match firstGo l with
    | some q => some q
    | none => firstGo r
  | .rel _ _ _ l r => match firstGo l with
    | some q => some q
    | none => firstGo r
/-- A loop that searches: its body, its end. -/
def loopB (ia ib ij q : Nat) (d : CutP) : Bool := match d.tr with
  | .rel _ a b L R => match Nat.beq a ia, Nat.beq b ib, vvsEq d.ys [.sint .i64 ia], allL (goOr q ij 2) L with
    | true, true, true, true => allL retOK R
    | _, _, _, _ => false
  | _ => false
def trL : TrX Leaf → TrX Leaf
  | .rel _ _ _ L _ => L
  | t => t
def trR : TrX Leaf → TrX Leaf
  | .rel _ _ _ _ R => R
  | t => t
theorem rel_val {ia ib ij q : Nat} {d : CutP} (h : loopB ia ib ij q d = true) {v : Nat → Int} : (v ia < v ib → valX d.tr v = if isGo (valX (trL d.tr) v) = true then .goto q [.sint .i64 ij] else .ret (.int .i64 2)) ∧ (¬ v ia < v ib → valX d.tr v = .ret (.int .i64 (leafZ (valX (trR d.tr) v))) ∧ 0 ≤ leafZ (valX (trR d.tr) v) ∧ leafZ (valX (trR d.tr) v) ≤ 1000) ∧ d.ys = [.sint .i64 ia] := by
  unfold loopB at h
  split at h
  · rename_i k a b L R hd
    split at h
    · rename_i h1 h2 h3 h4
      have e1 := Nat.eq_of_beq_eq_true h1
      have e2 := Nat.eq_of_beq_eq_true h2
      subst e1 e2
      rw [hd]
      refine ⟨fun hlt => ?_, fun hlt => ?_, vvsEq_eq _ _ h3⟩
      · simp only [valX, trL]
        rw [if_pos hlt]
        exact goOr_ok (allL_ok h4)
      · simp only [valX, trR]
        rw [if_neg hlt]
        exact retOK_ok (allL_ok h)
    · cases h
  · cases h
/-- What an automaton of that kind tells. -/
def tellE (C : List CutP) (p : Nat) (v : Nat → Nat → Int) (n : Nat) : Int := match lget C p with
  | some c => match valX c.tr (v 0) with
    | .goto q _ => match lget C q with
      | some d => if allF (fun i => isGo (valX (trL d.tr) (v i))) n 0 = true then leafZ (valX (trR d.tr) (v n)) else 2
      | none => 2
    | o => leafZ o
  | none => 2
def okE (ia ib ij : Nat) (C : List CutP) (p : Nat) : Bool := match lget C p with
  | some c => match firstGo c.tr with
    | some q => match lget C q with
      | some d => match allL (headOK q) c.tr with
        | true => loopB ia ib ij q d
        | false => false
      | none => false
    | none => allL retOK c.tr
  | none => false
theorem rd2_search {C : List CutP} {ia ij n q : Nat} {v : Nat → Nat → Int} {d : CutP} {g : Nat → Bool} {z : Int} (hd : lget C q = some d) (hys : d.ys = [.sint .i64 ia]) (hstep : ∀ i, i < n → valX d.tr (v i) = if g i = true then .goto q [.sint .i64 ij] else .ret (.int .i64 2)) (hend : valX d.tr (v n) = .ret (.int .i64 z)) :
    ∀ m i, i + m = n → Rd2 C ia ij v n q i (.int .i64 (if allF g m i = true then z else 2))
  | 0, i, h => by
    have e : i = n := by omega
    subst e
    exact .ret hd (Nat.le_refl _) hend
  | m + 1, i, h => by
    have hi := hstep i (by omega)
    have ih := rd2_search hd hys hstep hend m (i + 1) (by omega)
    by_cases hg : g i = true
    · rw [if_pos hg] at hi
      refine .next hd (by omega) hi hd hys ?_
      simp only [allF, hg, Bool.true_and]
      exact ih
    · rw [if_neg hg] at hi
      simp only [allF, hg, Bool.false_and]
      exact .ret hd (by omega) hi
theorem okE_ok {ia ib ij p n : Nat} {C : List CutP} {v : Nat → Nat → Int} (h : okE ia ib ij C p = true) (ha : ∀ i, v i ia = i) (hb : ∀ i, v i ib = n) : Rd2 C ia ij v n p 0 (.int .i64 (tellE C p v n)) ∧ 0 ≤ tellE C p v n ∧ tellE C p v n ≤ 1000 := by
  unfold okE at h
  split at h
  · rename_i c hc
    split at h
    · rename_i q hq
      split at h
      · rename_i d hd
        split at h
        · rename_i h1
          have hh := headOK_ok (allL_ok (v := v 0) h1)
          obtain ⟨_, _, hys⟩ := rel_val h (v := v 0)
          rcases hh with ⟨h2, h3, h4, h5⟩ | ⟨h2, _⟩
          · have e : tellE C p v n = leafZ (valX c.tr (v 0)) := by
              unfold tellE
              rw [hc]
              simp only
              rw [h2]
            rw [e]
            exact ⟨.ret hc (Nat.zero_le _) h2, h3, h4⟩
          · have e : tellE C p v n = if allF (fun i => isGo (valX (trL d.tr) (v i))) n 0 = true then leafZ (valX (trR d.tr) (v n)) else 2 := by
              unfold tellE
              rw [hc]
              simp only
              rw [h2]
              simp only [hd]
            obtain ⟨g1, g2, g3⟩ := (rel_val h (v := v n)).2.1 (by rw [ha, hb]; omega)
            rw [e]
            refine ⟨.zero hc (Nat.zero_le _) h2 hd hys (rd2_search hd hys (fun i hi => (rel_val h (v := v i)).1 (by rw [ha, hb]; omega)) g1 n 0 (by omega)), ?_, ?_⟩
            · split <;> omega
            · split <;> omega
        · cases h
      · cases h
    · have hh := retOK_ok (allL_ok (v := v 0) h)
      have e : tellE C p v n = leafZ (valX c.tr (v 0)) := by
        unfold tellE
        rw [hc]
        simp only
        rw [hh.1]
      rw [e]
      exact ⟨.ret hc (Nat.zero_le _) hh.1, hh.2.1, hh.2.2⟩
  · cases h
/-! ### the other one: it gathers -/
end
end Go.Ev
