/-
  The text of a code: plain laws on lines.
-/
import Derived.Test.YtgmdbpmookoafaaDoorTxU
namespace Go.Proofs.YtgmdbpmookoafaaDoor.text
open Go.Ev Go.RowKit Go.Lib
set_option linter.unusedVariables false
/-- Bytes of a decimal: a sign, digits. -/
def isD (c : UInt8) : Prop := c ≠ 10 ∧ c ≠ 32
theorem digit_isD {k : Nat} (h : k < 10) : isD (UInt8.ofNat (48 + k)) := by
  rcases (show k = 0 ∨ k = 1 ∨ k = 2 ∨ k = 3 ∨ k = 4 ∨ k = 5 ∨ k = 6 ∨ k = 7 ∨ k = 8 ∨ k = 9 by omega) with e | e | e | e | e | e | e | e | e | e <;> subst e <;> exact ⟨by decide, by decide⟩
theorem decDigits_isD : ∀ (u : Nat), ∀ c ∈ decDigits u, isD c := by
  intro u
  induction u using Nat.strongRecOn with
  | _ u ih =>
    intro c hc
    rw [decDigits] at hc
    split at hc
    · rename_i h
      simp only [List.mem_singleton] at hc
      rw [hc]
      exact digit_isD h
    · rename_i h
      rcases List.mem_append.1 hc with h1 | h1
      · exact ih (u / 10) (by omega) c h1
      · simp only [List.mem_singleton] at h1
        rw [h1]
        exact digit_isD (Nat.mod_lt _ (by decide))
theorem itoa_isD (n : Int) : ∀ c ∈ itoa n, isD c := by
  intro c hc
  unfold itoa at hc
  split at hc
  · rcases List.mem_cons.1 hc with rfl | h
    · exact ⟨by decide, by decide⟩
    · exact decDigits_isD _ c h
  · exact decDigits_isD _ c hc
/-- What stands before the first byte of a kind is one. -/
theorem cut_at {c : UInt8} : ∀ {a b x y : List UInt8}, c ∉ a → c ∉ b → a ++ c :: x = b ++ c :: y → a = b ∧ x = y
  | [], [], _, _, _, _, h => by simp only [List.nil_append, List.cons.injEq, true_and] at h; exact ⟨rfl, h⟩
  | [], d :: b, _, _, _, hb, h => by
    simp only [List.nil_append, List.cons_append, List.cons.injEq] at h
    exact absurd (h.1 ▸ List.mem_cons_self) hb
  | d :: a, [], _, _, ha, _, h => by
    simp only [List.nil_append, List.cons_append, List.cons.injEq] at h
    exact absurd (h.1 ▸ List.mem_cons_self) ha
  | d :: a, e :: b, x, y, ha, hb, h => by
    simp only [List.cons_append, List.cons.injEq] at h
    obtain ⟨h1, h2⟩ := cut_at (fun k => ha (List.mem_cons_of_mem _ k)) (fun k => hb (List.mem_cons_of_mem _ k)) h.2
    exact ⟨by rw [h.1, h1], h2⟩
def numB (l : List UInt8) : Nat := l.foldl (fun a c => 10 * a + (c.toNat - 48)) 0
theorem digit_num {k : Nat} (h : k < 10) : (UInt8.ofNat (48 + k)).toNat - 48 = k := by
  rcases (show k = 0 ∨ k = 1 ∨ k = 2 ∨ k = 3 ∨ k = 4 ∨ k = 5 ∨ k = 6 ∨ k = 7 ∨ k = 8 ∨ k = 9 by omega) with e | e | e | e | e | e | e | e | e | e <;> subst e <;> decide
theorem num_dec : ∀ (u : Nat), numB (decDigits u) = u := by
  intro u
  induction u using Nat.strongRecOn with
  | _ u ih =>
    rw [decDigits]
    split
    · rename_i h
      simp only [numB, List.foldl_cons, List.foldl_nil, digit_num h]
      omega
    · rename_i h
      have := ih (u / 10) (by omega)
      unfold numB at this ⊢
      rw [List.foldl_append, this]
      simp only [List.foldl_cons, List.foldl_nil, digit_num (Nat.mod_lt u (by decide : 0 < 10))]
      omega
theorem dec_inj {u v : Nat} (h : decDigits u = decDigits v) : u = v := by rw [← num_dec u, h, num_dec]
theorem dec_no45 : ∀ (u : Nat), (45 : UInt8) ∉ decDigits u := by
  intro u
  induction u using Nat.strongRecOn with
  | _ u ih =>
    have dg : ∀ k, k < 10 → (45 : UInt8) ≠ UInt8.ofNat (48 + k) := by
      intro k h
      rcases (show k = 0 ∨ k = 1 ∨ k = 2 ∨ k = 3 ∨ k = 4 ∨ k = 5 ∨ k = 6 ∨ k = 7 ∨ k = 8 ∨ k = 9 by omega) with e | e | e | e | e | e | e | e | e | e <;> subst e <;> decide
    rw [decDigits]
    split
    · rename_i h
      simp only [List.mem_singleton]
      exact dg u h
    · rename_i h
      rw [List.mem_append, not_or]
      refine ⟨ih (u / 10) (by omega), ?_⟩
      simp only [List.mem_singleton]
      exact dg _ (Nat.mod_lt _ (by decide))
theorem itoa_inj {a b : Int} (h : itoa a = itoa b) : a = b := by
  unfold itoa at h
  split at h <;> split at h
  · simp only [List.cons.injEq, true_and] at h
    have := dec_inj h
    omega
  · exact absurd (h ▸ List.mem_cons_self) (dec_no45 _)
  · exact absurd (h.symm ▸ List.mem_cons_self) (dec_no45 _)
  · have := dec_inj h
    omega
theorem cut_or {a b r t : List UInt8} (ha : (32 : UInt8) ∉ a) (hb : (32 : UInt8) ∉ b) (hr : r = [] ∨ ∃ z, r = 32 :: z) (ht : t = [] ∨ ∃ z, t = 32 :: z) (h : a ++ r = b ++ t) : a = b ∧ r = t := by
  have e1 : ∃ z, r ++ [32] = 32 :: z := by
    rcases hr with rfl | ⟨z, rfl⟩
    · exact ⟨[], rfl⟩
    · exact ⟨z ++ [32], rfl⟩
  have e2 : ∃ z, t ++ [32] = 32 :: z := by
    rcases ht with rfl | ⟨z, rfl⟩
    · exact ⟨[], rfl⟩
    · exact ⟨z ++ [32], rfl⟩
  obtain ⟨x, hx⟩ := e1
  obtain ⟨y, hy⟩ := e2
  have h2 : a ++ 32 :: x = b ++ 32 :: y := by
    rw [← hx, ← hy, ← List.append_assoc, ← List.append_assoc, h]
  obtain ⟨h3, h4⟩ := cut_at ha hb h2
  refine ⟨h3, ?_⟩
  subst h3
  exact List.append_cancel_left h
def tailB (b : Int) : List UInt8 := if b = 0 then [] else 32 :: itoa b
def restB (a b : Int) : List UInt8 := if a = 0 ∧ b = 0 then [] else 32 :: (itoa a ++ tailB b)
theorem lineB_eq (w : List UInt8) (a b : Int) : lineB w a b = (w ++ restB a b) ++ [10] := by
  unfold lineB restB tailB
  by_cases h1 : a = 0 ∧ b = 0
  · rw [if_pos h1, if_pos h1, List.append_nil]
  · rw [if_neg h1, if_neg h1]
    by_cases h2 : b = 0
    · rw [if_pos h2, if_pos h2]; simp
    · rw [if_neg h2, if_neg h2]; simp
theorem no_tail {c : UInt8} (hc : c = 10) (b : Int) : c ∉ tailB b := by
  unfold tailB
  split
  · simp
  · intro h
    rcases List.mem_cons.1 h with e | h
    · rw [hc] at e; cases e
    · exact (itoa_isD b c h).1 hc
theorem no_rest (a b : Int) : (10 : UInt8) ∉ restB a b := by
  unfold restB
  split
  · simp
  · intro h
    rcases List.mem_cons.1 h with e | h
    · cases e
    · rcases List.mem_append.1 h with h | h
      · exact (itoa_isD a _ h).1 rfl
      · exact no_tail rfl b h
theorem tail_shape (b : Int) : tailB b = [] ∨ ∃ z, tailB b = 32 :: z := by
  unfold tailB
  split
  · exact .inl rfl
  · exact .inr ⟨_, rfl⟩
theorem rest_shape (a b : Int) : restB a b = [] ∨ ∃ z, restB a b = 32 :: z := by
  unfold restB
  split
  · exact .inl rfl
  · exact .inr ⟨_, rfl⟩
theorem tail_inj {a b : Int} (h : tailB a = tailB b) : a = b := by
  unfold tailB at h
  split at h <;> split at h
  · omega
  · cases h
  · cases h
  · simp only [List.cons.injEq, true_and] at h
    exact itoa_inj h
theorem rest_inj {a b c d : Int} (h : restB a b = restB c d) : a = c ∧ b = d := by
  unfold restB at h
  split at h <;> split at h
  · omega
  · cases h
  · cases h
  · simp only [List.cons.injEq, true_and] at h
    obtain ⟨h1, h2⟩ := cut_or (fun k => (itoa_isD a _ k).2 rfl) (fun k => (itoa_isD c _ k).2 rfl) (tail_shape b) (tail_shape d) h
    exact ⟨itoa_inj h1, tail_inj h2⟩
/-- A line is told by its beginning: nothing else begins so. -/
theorem line_inj {w w' : List UInt8} {a b c d : Int} {x y : List UInt8} (h1 : (10 : UInt8) ∉ w) (h2 : (10 : UInt8) ∉ w') (h3 : (32 : UInt8) ∉ w) (h4 : (32 : UInt8) ∉ w') (h : lineB w a b ++ x = lineB w' c d ++ y) : w = w' ∧ a = c ∧ b = d ∧ x = y := by
  rw [lineB_eq, lineB_eq, List.append_assoc (w ++ restB a b), List.append_assoc (w' ++ restB c d)] at h
  have n1 : (10 : UInt8) ∉ w ++ restB a b := by rw [List.mem_append, not_or]; exact ⟨h1, no_rest a b⟩
  have n2 : (10 : UInt8) ∉ w' ++ restB c d := by rw [List.mem_append, not_or]; exact ⟨h2, no_rest c d⟩
  obtain ⟨e1, e2⟩ := cut_at n1 n2 h
  obtain ⟨e3, e4⟩ := cut_or h3 h4 (rest_shape a b) (rest_shape c d) e1
  obtain ⟨e5, e6⟩ := rest_inj e4
  exact ⟨e3, e5, e6, e2⟩
end Go.Proofs.YtgmdbpmookoafaaDoor.text
