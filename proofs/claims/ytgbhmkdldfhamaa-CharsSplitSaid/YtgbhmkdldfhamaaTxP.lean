/-
  Plain law: effects of small numbers, folded in two parts.
-/
import Derived.Test.YtgbhmkdldfhamaaTxS
namespace Go.Proofs.Ytgbhmkdldfhamaa.split
open Go.Ev
set_option linter.unusedVariables false
/-- An effect of small numbers. -/
structure EB (e : Eff) : Prop where
  o1 : 1 ≤ e.op
  o4 : e.op ≤ 4
  a0 : -20 ≤ e.a
  a1 : e.a ≤ 127
  a2 : 3 ≤ e.op → e.a ≤ 19
  b0 : -20 ≤ e.b
  b1 : e.b ≤ 19
structure Bd (s : Nums) (c : Int) : Prop where
  p0 : -c ≤ s.p
  p1 : s.p ≤ c
  t0 : -c ≤ s.t
  t1 : s.t ≤ c
theorem sm_id {n : Int} (h0 : -999 ≤ n) (h1 : n ≤ 999) : sm n = n := by
  unfold sm mx
  rw [if_neg (by omega), if_neg (by omega)]
theorem w64_id {n : Int} (h0 : -9223372036854775808 ≤ n) (h1 : n ≤ 9223372036854775807) : w64 n = n := by
  unfold w64
  rw [IntKind.wrap_i64]
  omega
theorem step_bd {s : Nums} {e : Eff} {c : Int} (h : Bd s c) (hc0 : 0 ≤ c) (hc : c ≤ 979) (he : EB e) : Bd (stepF s e) (c + 20) := by
  obtain ⟨p0, p1, t0, t1⟩ := h
  obtain ⟨o1, o4, a0, a1, a2, b0, b1⟩ := he
  unfold stepF
  split
  · exact ⟨by show -(c + 20) ≤ s.p; omega, by show s.p ≤ c + 20; omega, by show -(c + 20) ≤ s.t; omega, by show s.t ≤ c + 20; omega⟩
  split
  · exact ⟨by show -(c + 20) ≤ s.p; omega, by show s.p ≤ c + 20; omega, by show -(c + 20) ≤ s.t; omega, by show s.t ≤ c + 20; omega⟩
  have a3 := a2 (by omega)
  rw [sm_id (n := e.a) (by omega) (by omega), sm_id (n := e.b) (by omega) (by omega)]
  split
  · exact ⟨by show -(c + 20) ≤ e.a; omega, by show e.a ≤ c + 20; omega, by show -(c + 20) ≤ e.b; omega, by show e.b ≤ c + 20; omega⟩
  split
  · rw [w64_id (n := s.p + e.a) (by omega) (by omega), w64_id (n := s.t + e.b) (by omega) (by omega)]
    exact ⟨by show -(c + 20) ≤ s.p + e.a; omega, by show s.p + e.a ≤ c + 20; omega, by show -(c + 20) ≤ s.t + e.b; omega, by show s.t + e.b ≤ c + 20; omega⟩
  · omega
theorem fold_bd : ∀ (l : List Eff) (s : Nums) (c : Int), Bd s c → 0 ≤ c → c + 20 * l.length ≤ 999 → (∀ e ∈ l, EB e) → Bd (l.foldl stepF s) (c + 20 * l.length)
  | [], s, c, h, _, _, _ => by simpa using h
  | e :: l, s, c, h, h0, hc, he => by
    simp only [List.length_cons] at hc ⊢
    have h1 := step_bd h h0 (by omega) (he e (by simp))
    have := fold_bd l (stepF s e) (c + 20) h1 (by omega) (by omega) (fun x hx => he x (by simp [hx]))
    rw [List.foldl_cons]
    have e1 : c + 20 * ((l.length + 1 : Nat) : Int) = c + 20 + 20 * (l.length : Int) := by omega
    rw [e1]
    exact this
theorem clamp_id {s : Nums} {c : Int} (h : Bd s c) (hc : c ≤ 999) : clamp s = s := by
  obtain ⟨p0, p1, t0, t1⟩ := h
  unfold clamp
  rw [sm_id (n := s.p) (by omega) (by omega), sm_id (n := s.t) (by omega) (by omega)]
theorem foldN_eq {s : Nums} {c : Int} {l : List Eff} (h : Bd s c) (h0 : 0 ≤ c) (hc : c + 20 * l.length ≤ 999) (he : ∀ e ∈ l, EB e) : foldN s l = l.foldl stepF s := by
  unfold foldN
  rw [clamp_id h (by omega), clamp_id (fold_bd l s c h h0 hc he) hc]
theorem split_law {es : List Eff} (he : ∀ e ∈ es, EB e) (hn : es.length ≤ 20) (k : Nat) : foldN (foldN ⟨2, 3, 5⟩ (es.take k)) (es.drop k) = foldN ⟨2, 3, 5⟩ es := by
  have h0 : Bd ⟨2, 3, 5⟩ 3 := ⟨by show -(3 : Int) ≤ 2; omega, by show (2 : Int) ≤ 3; omega, by show -(3 : Int) ≤ 3; omega, by show (3 : Int) ≤ 3; omega⟩
  have l1 : (es.take k).length ≤ es.length := by simp; omega
  have l2 : (es.drop k).length ≤ es.length := by simp
  have l3 : (es.take k).length + (es.drop k).length = es.length := by rw [← List.length_append, List.take_append_drop]
  have g1 : ∀ e ∈ es.take k, EB e := fun e h => he e (List.mem_of_mem_take h)
  have g2 : ∀ e ∈ es.drop k, EB e := fun e h => he e (List.mem_of_mem_drop h)
  have h1 := fold_bd (es.take k) _ 3 h0 (by omega) (by omega) g1
  rw [foldN_eq h0 (by omega) (by omega) g1, foldN_eq h1 (by omega) (by omega) g2, foldN_eq h0 (by omega) (by omega) he, ← List.foldl_append, List.take_append_drop]
end Go.Proofs.Ytgbhmkdldfhamaa.split
