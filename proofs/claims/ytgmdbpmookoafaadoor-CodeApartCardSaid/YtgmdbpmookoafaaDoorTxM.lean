/-
  The text of a code: two codes that may be have one text only if they are one (plain law).
-/
import Derived.Test.YtgmdbpmookoafaaDoorTxX
namespace Go.Proofs.YtgmdbpmookoafaaDoor.text
open Go.Ev Go.RowKit Go.Lib
set_option linter.unusedVariables false
theorem words_no : ∀ k, k < 25 → (10 : UInt8) ∉ (lget words k).getD [63] ∧ (32 : UInt8) ∉ (lget words k).getD [63] := by decide
theorem words_inj : ∀ k, k < 25 → ∀ j, j < 25 → (lget words k).getD [63] = (lget words j).getD [63] → k = j := by decide
theorem wordOf_in {op : Int} (h : 1 ≤ op ∧ op ≤ 24) : wordOf op = (lget words op.toNat).getD [63] := if_pos h
theorem wordOf_no (op : Int) : (10 : UInt8) ∉ wordOf op ∧ (32 : UInt8) ∉ wordOf op := by
  by_cases h : 1 ≤ op ∧ op ≤ 24
  · rw [wordOf_in h]
    exact words_no _ (by omega)
  · unfold wordOf
    rw [if_neg h]
    decide
theorem wordOf_inj {a b : Int} (ha : 1 ≤ a ∧ a ≤ 24) (hb : 1 ≤ b ∧ b ≤ 24) (h : wordOf a = wordOf b) : a = b := by
  rw [wordOf_in ha, wordOf_in hb] at h
  have := words_inj a.toNat (by omega) b.toNat (by omega) h
  omega
theorem linesFrom_cons (x : Ins) (xs : List Ins) : ∀ (m i : Nat), linesFrom (x :: xs) (i + 1) m = linesFrom xs i m
  | 0, _ => rfl
  | m + 1, i => by
    simp only [linesFrom]
    rw [linesFrom_cons x xs m (i + 1)]
    rfl
theorem textB_cons (x : Ins) (xs : List Ins) : textB (x :: xs) = lineB (wordOf x.1) x.2.1 x.2.2 ++ textB xs := by
  unfold textB
  simp only [List.length_cons, linesFrom]
  rw [linesFrom_cons x xs]
  rfl
theorem line_ne (w : List UInt8) (a b : Int) : lineB w a b ≠ [] := by
  rw [lineB_eq]
  simp
theorem text_inj : ∀ {xs ys : List Ins}, (∀ x ∈ xs, 1 ≤ x.1 ∧ x.1 ≤ 24) → (∀ y ∈ ys, 1 ≤ y.1 ∧ y.1 ≤ 24) → textB xs = textB ys → xs = ys
  | [], [], _, _, _ => rfl
  | [], y :: ys, _, _, h => by
    rw [textB_cons] at h
    have := congrArg List.length h
    have h0 := List.length_pos_iff.2 (line_ne (wordOf y.1) y.2.1 y.2.2)
    rw [List.length_append] at this
    have e0 : (textB []).length = 0 := rfl
    omega
  | x :: xs, [], _, _, h => by
    rw [textB_cons] at h
    have := congrArg List.length h
    have h0 := List.length_pos_iff.2 (line_ne (wordOf x.1) x.2.1 x.2.2)
    rw [List.length_append] at this
    have e0 : (textB []).length = 0 := rfl
    omega
  | x :: xs, y :: ys, hx, hy, h => by
    rw [textB_cons, textB_cons] at h
    obtain ⟨e1, e2, e3, e4⟩ := line_inj (wordOf_no x.1).1 (wordOf_no y.1).1 (wordOf_no x.1).2 (wordOf_no y.1).2 h
    have e5 := wordOf_inj (hx x List.mem_cons_self) (hy y List.mem_cons_self) e1
    have e6 := text_inj (fun z hz => hx z (List.mem_cons_of_mem _ hz)) (fun z hz => hy z (List.mem_cons_of_mem _ hz)) e4
    rw [e6]
    congr 1
    exact Prod.ext e5 (Prod.ext e2 e3)
end Go.Proofs.YtgmdbpmookoafaaDoor.text
