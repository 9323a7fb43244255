/-
  The text of a code: the program's function tells it (contract of code.Text).
-/
import Derived.Test.YtgmdbpmookoafaaDoorTxA
import Derived.Test.YtgmdbpmookoafaaDoorTxV
import Derived.Test.YtgmdbpmookoafaaDoorEv5
namespace Go.Proofs.YtgmdbpmookoafaaDoor.text
open Go.Ev Go.RowKit Go.Lib
set_option linter.unusedVariables false
noncomputable section
abbrev Ins := Int × Int × Int
def I64 (x : Int) : Prop := -9223372036854775808 ≤ x ∧ x ≤ 9223372036854775807
theorem i64_0 : I64 0 := ⟨by decide, by decide⟩
theorem i64_n {n : Nat} (h : (n : Int) ≤ 9223372036854775807) : I64 (n : Int) := ⟨by omega, h⟩
/-- A slice that holds these instructions. -/
structure Lst (w : World) (oa : Option Addr) (B O : Nat) (xs : List Ins) : Prop where
  cells : ∀ (i : Nat) (x : Ins), xs[i]? = some x → oa = some ⟨B, O, none⟩ ∧ B < w.heap.size ∧ w.cell? ⟨B, O + i * 3, none⟩ = some (.int .i64 x.1) ∧ w.cell? ⟨B, O + i * 3 + 1, none⟩ = some (.int .i64 x.2.1) ∧ w.cell? ⟨B, O + i * 3 + 2, none⟩ = some (.int .i64 x.2.2)
  fits : ∀ x ∈ xs, I64 x.1 ∧ I64 x.2.1 ∧ I64 x.2.2
theorem at_of {α : Type} {xs : List α} {i : Nat} {d : α} (h : i < xs.length) : xs[i]? = some (xs.getD i d) := by
  simp [List.getD_eq_getElem?_getD, h]
theorem Lst.fit {w : World} {oa : Option Addr} {B O : Nat} {xs : List Ins} (h : Lst w oa B O xs) (i : Nat) : I64 (xs.getD i (0, 0, 0)).1 ∧ I64 (xs.getD i (0, 0, 0)).2.1 ∧ I64 (xs.getD i (0, 0, 0)).2.2 := by
  by_cases hi : i < xs.length
  · exact h.fits _ (List.mem_of_getElem? (at_of hi))
  · have e : xs.getD i (0, 0, 0) = (0, 0, 0) := by simp [List.getD_eq_getElem?_getD, List.getElem?_eq_none (by omega : xs.length ≤ i)]
    rw [e]
    exact ⟨i64_0, i64_0, i64_0⟩
theorem Lst.later {w w' : World} {oa : Option Addr} {B O : Nat} {xs : List Ins} (h : Lst w oa B O xs) (hs : w.heap.size ≤ w'.heap.size) (ho : ∀ k, k < w.heap.size → w'.heap[k]? = w.heap[k]?) : Lst w' oa B O xs := by
  refine ⟨fun i x hi => ?_, h.fits⟩
  obtain ⟨g1, g2, g3, g4, g5⟩ := h.cells i x hi
  have e : ∀ o, w'.cell? ⟨B, o, none⟩ = w.cell? ⟨B, o, none⟩ := fun o => by simp only [World.cell?, ho B g2]
  exact ⟨g1, Nat.lt_of_lt_of_le g2 hs, by rw [e]; exact g3, by rw [e]; exact g4, by rw [e]; exact g5⟩
/-! ### what the symbols stand for -/
def opA (xs : List Ins) (i : Nat) : Int := (xs.getD i (0, 0, 0)).1
def aA (xs : List Ins) (i : Nat) : Int := (xs.getD i (0, 0, 0)).2.1
def bA (xs : List Ins) (i : Nat) : Int := (xs.getD i (0, 0, 0)).2.2
def lineA (xs : List Ins) (i : Nat) : List UInt8 := lineB (wordOf (opA xs i)) (aA xs i) (bA xs i)
def tval (xs : List Ins) (s : List UInt8) (i : Nat) : Nat → Int
  | 2 => xs.length
  | 3 => i
  | 4 => if i < xs.length then i + 1 else 1
  | 6 => opA xs i
  | 7 => aA xs i
  | 8 => bA xs i
  | 10 => s.length
  | 12 => (itoa (aA xs i)).length
  | 14 => (itoa (bA xs i)).length
  | _ => 0
def tvv (oa : Option Addr) (cap : Nat) (xs : List Ins) (s : List UInt8) (i : Nat) : Nat → Value
  | 0 => .slice oa xs.length cap
  | 9 => .string (bstr s)
  | 11 => .string (bstr (itoa (aA xs i)))
  | 13 => .string (bstr (itoa (bA xs i)))
  | _ => .bool false
theorem tvv_one {oa : Option Addr} {cap : Nat} {xs : List Ins} {s : List UInt8} {i : Nat} (j : Nat) : (tvv oa cap xs s i j).oneCell' = true := by
  unfold tvv
  split <;> rfl
def trho (oa : Option Addr) (cap B O : Nat) (xs : List Ins) (s : List UInt8) (i : Nat) : Rho :=
  ⟨tval xs s i, tvv oa cap xs s i, fun _ => B, fun k => if k = 5 then O + i * 3 else 0, tvv_one, fun _ => [], fun _ _ h => by cases h⟩
theorem dec_len : ∀ (k : Nat) (u : Nat), u < 10 ^ k → 0 < k → 1 ≤ (decDigits u).length ∧ (decDigits u).length ≤ k := by
  intro k
  induction k with
  | zero => intro u _ h; omega
  | succ k ih =>
    intro u hu _
    rw [decDigits]
    split
    · exact ⟨by simp, by simp⟩
    · rename_i h
      have hk : 0 < k := by
        rcases Nat.eq_zero_or_pos k with e | e
        · subst e; omega
        · exact e
      have h1 : u / 10 < 10 ^ k := by
        rw [Nat.pow_succ] at hu
        omega
      have := ih (u / 10) h1 hk
      simp only [List.length_append, List.length_singleton]
      omega
theorem itoa_len {n : Int} (h : I64 n) : 1 ≤ (itoa n).length ∧ (itoa n).length ≤ 20 := by
  unfold itoa
  split
  · have := dec_len 19 n.natAbs (by have := h.1; omega) (by decide)
    simp only [List.length_cons]
    omega
  · have := dec_len 19 n.toNat (by have := h.2; have := h.1; omega) (by decide)
    omega
theorem word_len (op : Int) : (wordOf op).length ≤ 7 := by
  unfold wordOf
  split
  · rename_i h
    obtain ⟨h1, h2⟩ := h
    have : ∀ k, k < 25 → ((lget words k).getD [63]).length ≤ 7 := by decide
    exact this op.toNat (by omega)
  · decide
theorem line_len {w : List UInt8} {a b : Int} (hw : w.length ≤ 7) (ha : I64 a) (hb : I64 b) : (lineB w a b).length ≤ 50 := by
  have h1 := itoa_len ha
  have h2 := itoa_len hb
  unfold lineB
  split
  · simp; omega
  · split
    · simp; omega
    · simp; omega
section
variable {w : World} {oa : Option Addr} {cap B O : Nat} {xs : List Ins} {s : List UInt8} {i : Nat}
theorem lineA_len (hL : Lst w oa B O xs) : (lineA xs i).length ≤ 50 := by
  obtain ⟨_, f2, f3⟩ := hL.fit i
  exact line_len (word_len _) f2 f3
theorem tval_fits (hL : Lst w oa B O xs) (hn : xs.length ≤ 40) (hs : s.length ≤ 4000) (hi : i ≤ xs.length) : ∀ k, I64 (tval xs s i k) := fun k => by
  obtain ⟨f1, f2, f3⟩ := hL.fit i
  have l2 := itoa_len f2
  have l3 := itoa_len f3
  unfold tval
  split
  · exact i64_n (by omega)
  · exact i64_n (by omega)
  · constructor <;> split <;> omega
  · exact f1
  · exact f2
  · exact f3
  · exact i64_n (by omega)
  · exact i64_n (by show ((itoa (xs.getD i (0, 0, 0)).2.1).length : Int) ≤ _; omega)
  · exact i64_n (by show ((itoa (xs.getD i (0, 0, 0)).2.2).length : Int) ≤ _; omega)
  · exact i64_0
theorem tiv0 (hL : Lst w oa B O xs) (hn : xs.length ≤ 40) (hs : s.length ≤ 4000) (hi : i ≤ xs.length) : IvOK ctiv0 (trho oa cap B O xs s i) := by
  have f := tval_fits (s := s) hL hn hs hi
  exact iv_all (f := tval xs s i) ⟨f 0, f 1, ⟨by show (0 : Int) ≤ (xs.length : Int); omega, by show (xs.length : Int) ≤ 40; omega⟩, trivial⟩ f
theorem tiv1 (hL : Lst w oa B O xs) (hn : xs.length ≤ 40) (h1 : 1 ≤ s.length) (hs : s.length ≤ 4000) (hi : i ≤ xs.length) : IvOK ctiv1 (trho oa cap B O xs s i) := by
  have f := tval_fits (s := s) hL hn hs hi
  obtain ⟨f1, f2, f3⟩ := hL.fit i
  have l2 := itoa_len f2
  have l3 := itoa_len f3
  exact iv_all (f := tval xs s i) ⟨f 0, f 1, ⟨by show (0 : Int) ≤ (xs.length : Int); omega, by show (xs.length : Int) ≤ 40; omega⟩, ⟨by show 0 ≤ (i : Int); omega, by show (i : Int) ≤ 40; omega⟩, ⟨by show 1 ≤ (if i < xs.length then (i : Int) + 1 else 1); split <;> omega, by show (if i < xs.length then (i : Int) + 1 else 1) ≤ _; split <;> omega⟩, f 5, f 6, f 7, f 8, f 9, ⟨by show (1 : Int) ≤ (s.length : Int); omega, by show (s.length : Int) ≤ 4000; omega⟩, f 11,
    ⟨by show (1 : Int) ≤ ((itoa (xs.getD i (0, 0, 0)).2.1).length : Int); omega, by show ((itoa (xs.getD i (0, 0, 0)).2.1).length : Int) ≤ 20; omega⟩, f 13, ⟨by show (1 : Int) ≤ ((itoa (xs.getD i (0, 0, 0)).2.2).length : Int); omega, by show ((itoa (xs.getD i (0, 0, 0)).2.2).length : Int) ≤ 20; omega⟩, trivial⟩ f
theorem hasLss_lt (w : World) {fs : List Fact} {a b : Nat} {ρ : Rho} (h : hasLss fs a b = true) (k : FsOK fs ρ) : ρ.int a < ρ.int b := by
  unfold hasLss at h
  rw [List.any_eq_true] at h
  obtain ⟨f, hf, hh⟩ := h
  split at hh
  · rename_i k1 x k2 y
    simp only [Bool.and_eq_true] at hh
    have e1 := Nat.eq_of_beq_eq_true hh.1
    have e2 := Nat.eq_of_beq_eq_true hh.2
    subst e1 e2
    exact lss_of Tryd.prog w (k _ hf)
  · cases hh
theorem bstr_size (l : List UInt8) : (bstr l).size = l.length := rfl
theorem txF_ok : FsOK txF (trho oa cap B O xs s i) := fs_cons (fact_len rfl rfl) fs_nil
theorem fact_slen {ρ : Rho} {a b : Nat} {l : List UInt8} (h1 : ρ.val a = .string (bstr l)) (h2 : ρ.int b = l.length) : FactOK ρ (.len true (.sym a) (si b)) :=
  ⟨.string (bstr l), l.length, by simp only [sval, h1], ⟨_, rfl, rfl⟩, by simp only [sval, si, h2]⟩
theorem txAcc_ok : FsOK txAcc (trho oa cap B O xs s i) := fs_cons (fact_slen rfl rfl) fs_nil
theorem tent_ok {iv : Ivs} {fs : List Fact} (h1 : IvOK iv (trho oa cap B O xs s i)) (h2 : FsOK fs (trho oa cap B O xs s i)) (φ : Phi) (hφ : φ.ρ = trho oa cap B O xs s i) : EnvP (Tent iv fs) φ w :=
  ⟨by rw [hφ]; exact h1, by rw [hφ]; exact fs_app h2 txF_ok, fun k cs h => by cases h⟩
theorem tloop_ok (hL : Lst w oa B O xs) (hn : xs.length ≤ 40) {iv : Ivs} {fs : List Fact} (h1 : IvOK iv (trho oa cap B O xs s i)) (h2 : FsOK fs (trho oa cap B O xs s i)) (φ : Phi) (hφ : φ.ρ = trho oa cap B O xs s i) : EnvP (Tloop iv fs) φ w := by
  unfold Tloop
  split
  · rename_i hh
    have hi : (i : Int) < (xs.length : Int) := hasLss_lt w hh h2
    obtain ⟨g1, g2, g3, g4, g5⟩ := hL.cells i _ (at_of (d := (0, 0, 0)) (by omega))
    refine ⟨by rw [hφ]; exact h1, by
      rw [hφ]
      refine fs_app h2 (fs_app txF_ok (fs_app txAcc_ok (fs_cons ?_ (fs_cons ?_ (fs_cons (fact_slen rfl rfl) (fs_cons (fact_slen rfl rfl) fs_nil))))))
      · refine fact_at (n := i) (B := B) (O := O) (l := xs.length) (c := cap) ?_ rfl (by omega) rfl rfl
        show some (Value.slice oa xs.length cap) = _
        rw [g1]
      · have e4 : tval xs s i 4 = (i : Int) + 1 := by show (if i < xs.length then (i : Int) + 1 else 1) = _; rw [if_pos (by omega)]
        exact fact_add e4 (show -9223372036854775808 ≤ tval xs s i 4 by rw [e4]; omega) (show tval xs s i 4 ≤ 9223372036854775807 by rw [e4]; omega), fun k cs h => ?_⟩
    have hk : k = 5 ∧ cs = [sv iv .i64 6, sv iv .i64 7, sv iv .i64 8] := by
      simp only at h
      split at h
      · rename_i hb
        exact ⟨Nat.eq_of_beq_eq_true hb, (Option.some.inj h).symm⟩
      · cases h
    obtain ⟨rfl, rfl⟩ := hk
    have eb : φ.ρ.blk 5 = B := by rw [hφ]; rfl
    have eo : φ.ρ.off 5 = O + i * 3 := by rw [hφ]; rfl
    have v : ∀ k, VR φ (sv iv .i64 k) (.int .i64 (tval xs s i k)) := fun k => by have := VR_sv (φ := φ) (iv := iv) (by rw [hφ]; exact h1) .i64 k; rw [hφ] at this; exact this
    rw [eb, eo]
    refine ⟨g2, fun j x hx => ?_⟩
    match j with
    | 0 => cases hx; exact ⟨_, g3, v 6⟩
    | 1 => cases hx; exact ⟨_, g4, v 7⟩
    | 2 => cases hx; exact ⟨_, g5, v 8⟩
    | j + 3 => simp at hx
  · exact ⟨by rw [hφ]; exact h1, by rw [hφ]; exact fs_app h2 (fs_app txF_ok txAcc_ok), fun k cs h => by cases h⟩
end
end
end Go.Proofs.YtgmdbpmookoafaaDoor.text
