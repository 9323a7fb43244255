/-
  Events: what the symbols stand for.
-/
import Derived.Test.YtjfbakhebdhbmaaDoorTxC
import Derived.Test.YtjfbakhebdhbmaaDoorTxT
import Derived.Test.YtjfbakhebdhbmaaDoorEv5
import Derived.Lib.ItoaNum
import Derived.Lib.AppendIntMem
namespace Go.Proofs.YtjfbakhebdhbmaaDoor.event
open Go.Ev Go.RowKit Go.Lib
set_option linter.unusedVariables false
noncomputable section
def I64 (x : Int) : Prop := -9223372036854775808 ≤ x ∧ x ≤ 9223372036854775807
theorem i64_0 : I64 0 := ⟨by decide, by decide⟩
def bstr (l : List UInt8) : ByteArray := ⟨⟨l⟩⟩
theorem bstr_app (a b : List UInt8) : bstr a ++ bstr b = bstr (a ++ b) := by
  apply ByteArray.ext
  simp [bstr]
theorem at_of {α : Type} {xs : List α} {i : Nat} {d : α} (h : i < xs.length) : xs[i]? = some (xs.getD i d) := by
  simp [List.getD_eq_getElem?_getD, h]
theorem dec_len : ∀ (k : Nat) (u : Nat), u < 10 ^ k → 0 < k → 1 ≤ (decDigits u).length ∧ (decDigits u).length ≤ k := by
  intro k
  induction k with
  | zero => intro u _ h; omega
  | succ k ih =>
    intro u hu _
    rw [decDigits]
    split
    · exact ⟨by simp, by simp⟩
    · rename_i h
      have hk : 0 < k := by
        rcases Nat.eq_zero_or_pos k with e | e
        · subst e; omega
        · exact e
      have h1 : u / 10 < 10 ^ k := by
        rw [Nat.pow_succ] at hu
        omega
      have := ih (u / 10) h1 hk
      simp only [List.length_append, List.length_singleton]
      omega
theorem itoa_len {n : Int} (h : I64 n) : 1 ≤ (itoa n).length ∧ (itoa n).length ≤ 20 := by
  unfold itoa
  split
  · have := dec_len 19 n.natAbs (by have := h.1; omega) (by decide)
    simp only [List.length_cons]
    omega
  · have := dec_len 19 n.toNat (by have := h.2; have := h.1; omega) (by decide)
    omega
/-- An event, and where it lies. -/
structure EvG where
  k : Int
  a : Int
  b : Int
  n : Int
  m : Int
  l : List Int
  oa : Option Addr
  ca : Nat
  Ba : Nat
  Oa : Nat
  i5 : Int
  i6 : Int
  i7 : Int
  i8 : Int
  i9 : Int
  i10 : Int
  t : List (Int × Int)
  ob : Option Addr
  cb : Nat
  Bb : Nat
  Ob : Nat
def EvG.val (g : EvG) : Value := .agg #[.int .i64 g.k, .int .i64 g.a, .int .i64 g.b, .int .i64 g.n, .int .i64 g.m, .slice g.oa g.l.length g.ca, .int .i64 g.i5, .int .i64 g.i6, .int .i64 g.i7, .int .i64 g.i8, .int .i64 g.i9, .int .i64 g.i10, .slice g.ob g.t.length g.cb]
/-- What an event's lists hold, and how long they are. -/
structure EvG.OK (g : EvG) (w : World) : Prop where
  cl : ∀ (i : Nat) x, g.l[i]? = some x → g.oa = some ⟨g.Ba, g.Oa, none⟩ ∧ g.Ba < w.heap.size ∧ w.cell? ⟨g.Ba, g.Oa + i, none⟩ = some (.int .i64 x)
  ct : ∀ (i : Nat) x, g.t[i]? = some x → g.ob = some ⟨g.Bb, g.Ob, none⟩ ∧ g.Bb < w.heap.size ∧ w.cell? ⟨g.Bb, g.Ob + i * 2, none⟩ = some (.int .i64 x.1) ∧ w.cell? ⟨g.Bb, g.Ob + i * 2 + 1, none⟩ = some (.int .i64 x.2)
  wl : ∀ x ∈ g.l, I64 x
  wt : ∀ x ∈ g.t, I64 x.1 ∧ I64 x.2
  nl : g.l.length ≤ 260
  nt : g.t.length ≤ 4
  fk : I64 g.k
  fa : I64 g.a
  fb : I64 g.b
  fn : I64 g.n
  fm : I64 g.m
  f5 : I64 g.i5
  f6 : I64 g.i6
  f7 : I64 g.i7
  f8 : I64 g.i8
  f9 : I64 g.i9
  f10 : I64 g.i10
theorem EvG.OK.later {g : EvG} {w w' : World} (h : g.OK w) (hs : w.heap.size ≤ w'.heap.size) (ho : ∀ k, k < w.heap.size → w'.heap[k]? = w.heap[k]?) : g.OK w' := by
  refine { h with cl := fun i x hi => ?_, ct := fun i x hi => ?_ }
  · obtain ⟨g1, g2, g3⟩ := h.cl i x hi
    have e : ∀ o, w'.cell? ⟨g.Ba, o, none⟩ = w.cell? ⟨g.Ba, o, none⟩ := fun o => by simp only [World.cell?, ho g.Ba g2]
    exact ⟨g1, Nat.lt_of_lt_of_le g2 hs, by rw [e]; exact g3⟩
  · obtain ⟨g1, g2, g3, g4⟩ := h.ct i x hi
    have e : ∀ o, w'.cell? ⟨g.Bb, o, none⟩ = w.cell? ⟨g.Bb, o, none⟩ := fun o => by simp only [World.cell?, ho g.Bb g2]
    exact ⟨g1, Nat.lt_of_lt_of_le g2 hs, by rw [e]; exact g3, by rw [e]; exact g4⟩
theorem EvG.OK.fl {g : EvG} {w : World} (h : g.OK w) (i : Nat) : I64 (g.l.getD i 0) := by
  by_cases hi : i < g.l.length
  · exact h.wl _ (List.mem_of_getElem? (at_of hi))
  · have e : g.l.getD i 0 = 0 := by simp [List.getD_eq_getElem?_getD, List.getElem?_eq_none (by omega : g.l.length ≤ i)]
    rw [e]
    exact i64_0
theorem EvG.OK.ft {g : EvG} {w : World} (h : g.OK w) (i : Nat) : I64 (g.t.getD i (0, 0)).1 ∧ I64 (g.t.getD i (0, 0)).2 := by
  by_cases hi : i < g.t.length
  · exact h.wt _ (List.mem_of_getElem? (at_of hi))
  · have e : g.t.getD i (0, 0) = (0, 0) := by simp [List.getD_eq_getElem?_getD, List.getElem?_eq_none (by omega : g.t.length ≤ i)]
    rw [e]
    exact ⟨i64_0, i64_0⟩
/-- Numbers, each behind a blank. -/
def numsFrom (l : List Int) : Nat → Nat → List UInt8
  | _, 0 => []
  | i, m + 1 => 32 :: (itoa (l.getD i 0) ++ numsFrom l (i + 1) m)
def permB (g : EvG) : List UInt8 := [112, 101, 114, 109, 32] ++ itoa g.a ++ numsFrom g.l 0 g.l.length
theorem nums_len {g : EvG} {w : World} (h : g.OK w) : ∀ m i, (numsFrom g.l i m).length ≤ 21 * m
  | 0, _ => Nat.le_refl _
  | m + 1, i => by
    simp only [numsFrom, List.length_cons, List.length_append]
    have := itoa_len (h.fl i)
    have := nums_len h m (i + 1)
    omega
theorem permB_len {g : EvG} {w : World} (h : g.OK w) : 1 ≤ (permB g).length ∧ (permB g).length ≤ 6000 := by
  have := itoa_len h.fa
  have := nums_len h g.l.length 0
  have := h.nl
  simp only [permB, List.length_append, List.length_cons, List.length_nil]
  omega
def eint (g : EvG) (c : Int) (s : List UInt8) (i : Nat) : Nat → Int
  | 1 => g.a
  | 2 => g.b
  | 3 => g.n
  | 4 => g.m
  | 5 => g.i5
  | 6 => g.i6
  | 7 => g.i7
  | 8 => g.i8
  | 9 => g.i9
  | 10 => g.i10
  | 12 => (g.l.length : Int)
  | 13 => (g.t.length : Int)
  | 14 => (i : Int)
  | 15 => (i : Int) + 1
  | 17 => g.l.getD i 0
  | 20 => (g.t.getD 0 (0, 0)).1
  | 21 => (g.t.getD 0 (0, 0)).2
  | 22 => (g.t.getD 1 (0, 0)).1
  | 23 => (g.t.getD 1 (0, 0)).2
  | 24 => g.k
  | 25 => c
  | 27 => ((itoa g.a).length : Int)
  | 29 => ((itoa g.b).length : Int)
  | 31 => ((itoa g.n).length : Int)
  | 33 => ((itoa g.m).length : Int)
  | 35 => ((itoa g.i6).length : Int)
  | 37 => ((itoa g.i7).length : Int)
  | 39 => ((itoa g.i8).length : Int)
  | 41 => ((itoa g.i9).length : Int)
  | 43 => ((itoa g.i10).length : Int)
  | 45 => ((itoa ((g.t.getD 0 (0, 0)).1)).length : Int)
  | 47 => ((itoa ((g.t.getD 0 (0, 0)).2)).length : Int)
  | 49 => ((itoa ((g.t.getD 1 (0, 0)).1)).length : Int)
  | 51 => ((itoa ((g.t.getD 1 (0, 0)).2)).length : Int)
  | 53 => ((permB g).length : Int)
  | 61 => (s.length : Int)
  | 62 => (i : Int)
  | 63 => (i : Int) + 1
  | 65 => g.l.getD i 0
  | 67 => ((itoa (g.l.getD i 0)).length : Int)
  | _ => 0
def evv (g : EvG) (c : Int) (s : List UInt8) (i : Nat) : Nat → Value
  | 0 => .slice g.oa g.l.length g.ca
  | 11 => .slice g.ob g.t.length g.cb
  | 26 => .string (bstr (itoa g.a))
  | 28 => .string (bstr (itoa g.b))
  | 30 => .string (bstr (itoa g.n))
  | 32 => .string (bstr (itoa g.m))
  | 34 => .string (bstr (itoa g.i6))
  | 36 => .string (bstr (itoa g.i7))
  | 38 => .string (bstr (itoa g.i8))
  | 40 => .string (bstr (itoa g.i9))
  | 42 => .string (bstr (itoa g.i10))
  | 44 => .string (bstr (itoa ((g.t.getD 0 (0, 0)).1)))
  | 46 => .string (bstr (itoa ((g.t.getD 0 (0, 0)).2)))
  | 48 => .string (bstr (itoa ((g.t.getD 1 (0, 0)).1)))
  | 50 => .string (bstr (itoa ((g.t.getD 1 (0, 0)).2)))
  | 52 => .string (bstr (permB g))
  | 60 => .string (bstr (s))
  | 66 => .string (bstr (itoa (g.l.getD i 0)))
  | _ => .bool false
theorem evv_one {g : EvG} {c : Int} {s : List UInt8} {i : Nat} (j : Nat) : (evv g c s i j).oneCell' = true := by
  unfold evv
  split <;> rfl
def erho (g : EvG) (c : Int) (s : List UInt8) (i : Nat) : Rho :=
  ⟨eint g c s i, evv g c s i, fun k => if k = 16 ∨ k = 64 then g.Ba else g.Bb, fun k => if k = 16 ∨ k = 64 then g.Oa + i else if k = 22 then g.Ob + 2 else g.Ob, evv_one, fun _ => [], fun _ _ h => by cases h⟩
theorem fact_slen {ρ : Rho} {a b : Nat} {l : List UInt8} (h1 : ρ.val a = .string (bstr l)) (h2 : ρ.int b = l.length) : FactOK ρ (.len true (.sym a) (si b)) :=
  ⟨.string (bstr l), l.length, by simp only [sval, h1], ⟨_, rfl, rfl⟩, by simp only [sval, si, h2]⟩
section
variable {w : World} {g : EvG} {c : Int} {s : List UInt8} {i : Nat}
theorem eint_fits (h : g.OK w) (hc : 0 ≤ c ∧ c ≤ 1000) (hs : s.length ≤ 6000) (hi : i ≤ 260) : ∀ k, I64 (eint g c s i k) := fun k => by
  have hp := permB_len h
  have hl := h.nl
  have ht := h.nt
  have fl := h.fl i
  have l26 := itoa_len h.fa
  have l28 := itoa_len h.fb
  have l30 := itoa_len h.fn
  have l32 := itoa_len h.fm
  have l34 := itoa_len h.f6
  have l36 := itoa_len h.f7
  have l38 := itoa_len h.f8
  have l40 := itoa_len h.f9
  have l42 := itoa_len h.f10
  have l44 := itoa_len ((h.ft 0).1)
  have l46 := itoa_len ((h.ft 0).2)
  have l48 := itoa_len ((h.ft 1).1)
  have l50 := itoa_len ((h.ft 1).2)
  have l66 := itoa_len fl
  unfold eint
  split
  · exact h.fa
  · exact h.fb
  · exact h.fn
  · exact h.fm
  · exact h.f5
  · exact h.f6
  · exact h.f7
  · exact h.f8
  · exact h.f9
  · exact h.f10
  · exact ⟨by omega, by omega⟩
  · exact ⟨by omega, by omega⟩
  · exact ⟨by omega, by omega⟩
  · exact ⟨by omega, by omega⟩
  · exact fl
  · exact (h.ft 0).1
  · exact (h.ft 0).2
  · exact (h.ft 1).1
  · exact (h.ft 1).2
  · exact h.fk
  · exact ⟨by omega, by omega⟩
  · exact ⟨by omega, by omega⟩
  · exact ⟨by omega, by omega⟩
  · exact ⟨by omega, by omega⟩
  · exact ⟨by omega, by omega⟩
  · exact ⟨by omega, by omega⟩
  · exact ⟨by omega, by omega⟩
  · exact ⟨by omega, by omega⟩
  · exact ⟨by omega, by omega⟩
  · exact ⟨by omega, by omega⟩
  · exact ⟨by omega, by omega⟩
  · exact ⟨by omega, by omega⟩
  · exact ⟨by omega, by omega⟩
  · exact ⟨by omega, by omega⟩
  · exact ⟨by omega, by omega⟩
  · exact ⟨by omega, by omega⟩
  · exact ⟨by omega, by omega⟩
  · exact ⟨by omega, by omega⟩
  · exact fl
  · exact ⟨by omega, by omega⟩
  · exact i64_0
theorem iv_eciv0 (h : g.OK w) (hc : 0 ≤ c ∧ c ≤ 1000) (hs : s.length ≤ 6000) (hi : i ≤ 260)  : IvOK eciv0 (erho g c s i) := by
  have hp := permB_len h
  have hl := h.nl
  have ht := h.nt
  have fl := h.fl i
  have l66 := itoa_len fl
  have f := eint_fits h hc hs hi
  exact iv_all (f := eint g c s i) ⟨f 0, f 1, f 2, f 3, f 4, f 5, f 6, f 7, f 8, f 9, f 10, f 11, ⟨by show (0 : Int) ≤ (g.l.length : Int); omega, by show (g.l.length : Int) ≤ (9223372036854775807 : Int); omega⟩, ⟨by show (0 : Int) ≤ (g.t.length : Int); omega, by show (g.t.length : Int) ≤ (9223372036854775807 : Int); omega⟩, ⟨by show (0 : Int) ≤ (i : Int); omega, by show (i : Int) ≤ (260 : Int); omega⟩, ⟨by show (1 : Int) ≤ (i : Int) + 1; omega, by show (i : Int) + 1 ≤ (261 : Int); omega⟩, f 16, f 17, f 18, f 19, f 20, f 21, f 22, f 23, trivial⟩ f
theorem iv_eciv26 (h : g.OK w) (hc : 0 ≤ c ∧ c ≤ 1000) (hs : s.length ≤ 6000) (hi : i ≤ 260) (hk : g.k ≤ 0) : IvOK eciv26 (erho g c s i) := by
  have hp := permB_len h
  have hl := h.nl
  have ht := h.nt
  have fl := h.fl i
  have l66 := itoa_len fl
  have f := eint_fits h hc hs hi
  exact iv_all (f := eint g c s i) ⟨f 0, f 1, f 2, f 3, f 4, f 5, f 6, f 7, f 8, f 9, f 10, f 11, ⟨by show (0 : Int) ≤ (g.l.length : Int); omega, by show (g.l.length : Int) ≤ (9223372036854775807 : Int); omega⟩, ⟨by show (0 : Int) ≤ (g.t.length : Int); omega, by show (g.t.length : Int) ≤ (9223372036854775807 : Int); omega⟩, ⟨by show (0 : Int) ≤ (i : Int); omega, by show (i : Int) ≤ (260 : Int); omega⟩, ⟨by show (1 : Int) ≤ (i : Int) + 1; omega, by show (i : Int) + 1 ≤ (261 : Int); omega⟩, f 16, f 17, f 18, f 19, f 20, f 21, f 22, f 23, ⟨by show (-9223372036854775808 : Int) ≤ g.k; exact h.fk.1, by show g.k ≤ (0 : Int); omega⟩, trivial⟩ f
theorem iv_eciv27 (h : g.OK w) (hc : 0 ≤ c ∧ c ≤ 1000) (hs : s.length ≤ 6000) (hi : i ≤ 260) (hk : 30 ≤ g.k) : IvOK eciv27 (erho g c s i) := by
  have hp := permB_len h
  have hl := h.nl
  have ht := h.nt
  have fl := h.fl i
  have l66 := itoa_len fl
  have f := eint_fits h hc hs hi
  exact iv_all (f := eint g c s i) ⟨f 0, f 1, f 2, f 3, f 4, f 5, f 6, f 7, f 8, f 9, f 10, f 11, ⟨by show (0 : Int) ≤ (g.l.length : Int); omega, by show (g.l.length : Int) ≤ (9223372036854775807 : Int); omega⟩, ⟨by show (0 : Int) ≤ (g.t.length : Int); omega, by show (g.t.length : Int) ≤ (9223372036854775807 : Int); omega⟩, ⟨by show (0 : Int) ≤ (i : Int); omega, by show (i : Int) ≤ (260 : Int); omega⟩, ⟨by show (1 : Int) ≤ (i : Int) + 1; omega, by show (i : Int) + 1 ≤ (261 : Int); omega⟩, f 16, f 17, f 18, f 19, f 20, f 21, f 22, f 23, ⟨by show (30 : Int) ≤ g.k; omega, by show g.k ≤ (9223372036854775807 : Int); exact h.fk.2⟩, trivial⟩ f
theorem iv_emiv0 (h : g.OK w) (hc : 0 ≤ c ∧ c ≤ 1000) (hs : s.length ≤ 6000) (hi : i ≤ 260) (h2 : g.t.length ≤ 2) : IvOK emiv0 (erho g c s i) := by
  have hp := permB_len h
  have hl := h.nl
  have ht := h.nt
  have fl := h.fl i
  have l66 := itoa_len fl
  have f := eint_fits h hc hs hi
  exact iv_all (f := eint g c s i) ⟨f 0, f 1, f 2, f 3, f 4, f 5, f 6, f 7, f 8, f 9, f 10, f 11, ⟨by show (0 : Int) ≤ (g.l.length : Int); omega, by show (g.l.length : Int) ≤ (9223372036854775807 : Int); omega⟩, ⟨by show (0 : Int) ≤ (g.t.length : Int); omega, by show (g.t.length : Int) ≤ (2 : Int); omega⟩, ⟨by show (0 : Int) ≤ (i : Int); omega, by show (i : Int) ≤ (260 : Int); omega⟩, ⟨by show (1 : Int) ≤ (i : Int) + 1; omega, by show (i : Int) + 1 ≤ (261 : Int); omega⟩, f 16, f 17, f 18, f 19, f 20, f 21, f 22, f 23, trivial⟩ f
theorem iv_xt1xiv0 (h : g.OK w) (hc : 0 ≤ c ∧ c ≤ 1000) (hs : s.length ≤ 6000) (hi : i ≤ 260) (h0 : g.l.length = 0) (h1 : g.t.length = 0) (h2 : c = 0) : IvOK xt1xiv0 (erho g c s i) := by
  have hp := permB_len h
  have hl := h.nl
  have ht := h.nt
  have fl := h.fl i
  have l26 := itoa_len h.fa
  have l28 := itoa_len h.fb
  have l30 := itoa_len h.fn
  have l32 := itoa_len h.fm
  have l34 := itoa_len h.f6
  have l36 := itoa_len h.f7
  have l38 := itoa_len h.f8
  have l40 := itoa_len h.f9
  have l42 := itoa_len h.f10
  have l44 := itoa_len ((h.ft 0).1)
  have l46 := itoa_len ((h.ft 0).2)
  have l48 := itoa_len ((h.ft 1).1)
  have l50 := itoa_len ((h.ft 1).2)
  have l66 := itoa_len fl
  have f := eint_fits h hc hs hi
  exact iv_all (f := eint g c s i) ⟨f 0, f 1, f 2, f 3, f 4, f 5, f 6, f 7, f 8, f 9, f 10, f 11, ⟨by show (0 : Int) ≤ (g.l.length : Int); omega, by show (g.l.length : Int) ≤ (0 : Int); omega⟩, ⟨by show (0 : Int) ≤ (g.t.length : Int); omega, by show (g.t.length : Int) ≤ (0 : Int); omega⟩, ⟨by show (0 : Int) ≤ (i : Int); omega, by show (i : Int) ≤ (260 : Int); omega⟩, ⟨by show (1 : Int) ≤ (i : Int) + 1; omega, by show (i : Int) + 1 ≤ (261 : Int); omega⟩, f 16, f 17, f 18, f 19, f 20, f 21, f 22, f 23, f 24, ⟨by show (0 : Int) ≤ c; omega, by show c ≤ (0 : Int); omega⟩, f 26, ⟨by show (1 : Int) ≤ ((itoa g.a).length : Int); omega, by show ((itoa g.a).length : Int) ≤ (20 : Int); omega⟩, f 28, ⟨by show (1 : Int) ≤ ((itoa g.b).length : Int); omega, by show ((itoa g.b).length : Int) ≤ (20 : Int); omega⟩, f 30, ⟨by show (1 : Int) ≤ ((itoa g.n).length : Int); omega, by show ((itoa g.n).length : Int) ≤ (20 : Int); omega⟩, f 32, ⟨by show (1 : Int) ≤ ((itoa g.m).length : Int); omega, by show ((itoa g.m).length : Int) ≤ (20 : Int); omega⟩, f 34, ⟨by show (1 : Int) ≤ ((itoa g.i6).length : Int); omega, by show ((itoa g.i6).length : Int) ≤ (20 : Int); omega⟩, f 36, ⟨by show (1 : Int) ≤ ((itoa g.i7).length : Int); omega, by show ((itoa g.i7).length : Int) ≤ (20 : Int); omega⟩, f 38, ⟨by show (1 : Int) ≤ ((itoa g.i8).length : Int); omega, by show ((itoa g.i8).length : Int) ≤ (20 : Int); omega⟩, f 40, ⟨by show (1 : Int) ≤ ((itoa g.i9).length : Int); omega, by show ((itoa g.i9).length : Int) ≤ (20 : Int); omega⟩, f 42, ⟨by show (1 : Int) ≤ ((itoa g.i10).length : Int); omega, by show ((itoa g.i10).length : Int) ≤ (20 : Int); omega⟩, f 44, ⟨by show (1 : Int) ≤ ((itoa ((g.t.getD 0 (0, 0)).1)).length : Int); omega, by show ((itoa ((g.t.getD 0 (0, 0)).1)).length : Int) ≤ (20 : Int); omega⟩, f 46, ⟨by show (1 : Int) ≤ ((itoa ((g.t.getD 0 (0, 0)).2)).length : Int); omega, by show ((itoa ((g.t.getD 0 (0, 0)).2)).length : Int) ≤ (20 : Int); omega⟩, f 48, ⟨by show (1 : Int) ≤ ((itoa ((g.t.getD 1 (0, 0)).1)).length : Int); omega, by show ((itoa ((g.t.getD 1 (0, 0)).1)).length : Int) ≤ (20 : Int); omega⟩, f 50, ⟨by show (1 : Int) ≤ ((itoa ((g.t.getD 1 (0, 0)).2)).length : Int); omega, by show ((itoa ((g.t.getD 1 (0, 0)).2)).length : Int) ≤ (20 : Int); omega⟩, f 52, ⟨by show (1 : Int) ≤ ((permB g).length : Int); omega, by show ((permB g).length : Int) ≤ (6000 : Int); omega⟩, trivial⟩ f
theorem iv_xt15xiv0 (h : g.OK w) (hc : 0 ≤ c ∧ c ≤ 1000) (hs : s.length ≤ 6000) (hi : i ≤ 260) (h0 : g.l.length = 0) (h1 : g.t.length ≤ 2) (h2 : c = 0) : IvOK xt15xiv0 (erho g c s i) := by
  have hp := permB_len h
  have hl := h.nl
  have ht := h.nt
  have fl := h.fl i
  have l26 := itoa_len h.fa
  have l28 := itoa_len h.fb
  have l30 := itoa_len h.fn
  have l32 := itoa_len h.fm
  have l34 := itoa_len h.f6
  have l36 := itoa_len h.f7
  have l38 := itoa_len h.f8
  have l40 := itoa_len h.f9
  have l42 := itoa_len h.f10
  have l44 := itoa_len ((h.ft 0).1)
  have l46 := itoa_len ((h.ft 0).2)
  have l48 := itoa_len ((h.ft 1).1)
  have l50 := itoa_len ((h.ft 1).2)
  have l66 := itoa_len fl
  have f := eint_fits h hc hs hi
  exact iv_all (f := eint g c s i) ⟨f 0, f 1, f 2, f 3, f 4, f 5, f 6, f 7, f 8, f 9, f 10, f 11, ⟨by show (0 : Int) ≤ (g.l.length : Int); omega, by show (g.l.length : Int) ≤ (0 : Int); omega⟩, ⟨by show (0 : Int) ≤ (g.t.length : Int); omega, by show (g.t.length : Int) ≤ (2 : Int); omega⟩, ⟨by show (0 : Int) ≤ (i : Int); omega, by show (i : Int) ≤ (260 : Int); omega⟩, ⟨by show (1 : Int) ≤ (i : Int) + 1; omega, by show (i : Int) + 1 ≤ (261 : Int); omega⟩, f 16, f 17, f 18, f 19, f 20, f 21, f 22, f 23, f 24, ⟨by show (0 : Int) ≤ c; omega, by show c ≤ (0 : Int); omega⟩, f 26, ⟨by show (1 : Int) ≤ ((itoa g.a).length : Int); omega, by show ((itoa g.a).length : Int) ≤ (20 : Int); omega⟩, f 28, ⟨by show (1 : Int) ≤ ((itoa g.b).length : Int); omega, by show ((itoa g.b).length : Int) ≤ (20 : Int); omega⟩, f 30, ⟨by show (1 : Int) ≤ ((itoa g.n).length : Int); omega, by show ((itoa g.n).length : Int) ≤ (20 : Int); omega⟩, f 32, ⟨by show (1 : Int) ≤ ((itoa g.m).length : Int); omega, by show ((itoa g.m).length : Int) ≤ (20 : Int); omega⟩, f 34, ⟨by show (1 : Int) ≤ ((itoa g.i6).length : Int); omega, by show ((itoa g.i6).length : Int) ≤ (20 : Int); omega⟩, f 36, ⟨by show (1 : Int) ≤ ((itoa g.i7).length : Int); omega, by show ((itoa g.i7).length : Int) ≤ (20 : Int); omega⟩, f 38, ⟨by show (1 : Int) ≤ ((itoa g.i8).length : Int); omega, by show ((itoa g.i8).length : Int) ≤ (20 : Int); omega⟩, f 40, ⟨by show (1 : Int) ≤ ((itoa g.i9).length : Int); omega, by show ((itoa g.i9).length : Int) ≤ (20 : Int); omega⟩, f 42, ⟨by show (1 : Int) ≤ ((itoa g.i10).length : Int); omega, by show ((itoa g.i10).length : Int) ≤ (20 : Int); omega⟩, f 44, ⟨by show (1 : Int) ≤ ((itoa ((g.t.getD 0 (0, 0)).1)).length : Int); omega, by show ((itoa ((g.t.getD 0 (0, 0)).1)).length : Int) ≤ (20 : Int); omega⟩, f 46, ⟨by show (1 : Int) ≤ ((itoa ((g.t.getD 0 (0, 0)).2)).length : Int); omega, by show ((itoa ((g.t.getD 0 (0, 0)).2)).length : Int) ≤ (20 : Int); omega⟩, f 48, ⟨by show (1 : Int) ≤ ((itoa ((g.t.getD 1 (0, 0)).1)).length : Int); omega, by show ((itoa ((g.t.getD 1 (0, 0)).1)).length : Int) ≤ (20 : Int); omega⟩, f 50, ⟨by show (1 : Int) ≤ ((itoa ((g.t.getD 1 (0, 0)).2)).length : Int); omega, by show ((itoa ((g.t.getD 1 (0, 0)).2)).length : Int) ≤ (20 : Int); omega⟩, f 52, ⟨by show (1 : Int) ≤ ((permB g).length : Int); omega, by show ((permB g).length : Int) ≤ (6000 : Int); omega⟩, trivial⟩ f
theorem iv_xt26xiv0 (h : g.OK w) (hc : 0 ≤ c ∧ c ≤ 1000) (hs : s.length ≤ 6000) (hi : i ≤ 260) (h0 : g.l.length ≤ 250) (h1 : g.t.length = 0) (h2 : c = 0) : IvOK xt26xiv0 (erho g c s i) := by
  have hp := permB_len h
  have hl := h.nl
  have ht := h.nt
  have fl := h.fl i
  have l26 := itoa_len h.fa
  have l28 := itoa_len h.fb
  have l30 := itoa_len h.fn
  have l32 := itoa_len h.fm
  have l34 := itoa_len h.f6
  have l36 := itoa_len h.f7
  have l38 := itoa_len h.f8
  have l40 := itoa_len h.f9
  have l42 := itoa_len h.f10
  have l44 := itoa_len ((h.ft 0).1)
  have l46 := itoa_len ((h.ft 0).2)
  have l48 := itoa_len ((h.ft 1).1)
  have l50 := itoa_len ((h.ft 1).2)
  have l66 := itoa_len fl
  have f := eint_fits h hc hs hi
  exact iv_all (f := eint g c s i) ⟨f 0, f 1, f 2, f 3, f 4, f 5, f 6, f 7, f 8, f 9, f 10, f 11, ⟨by show (0 : Int) ≤ (g.l.length : Int); omega, by show (g.l.length : Int) ≤ (250 : Int); omega⟩, ⟨by show (0 : Int) ≤ (g.t.length : Int); omega, by show (g.t.length : Int) ≤ (0 : Int); omega⟩, ⟨by show (0 : Int) ≤ (i : Int); omega, by show (i : Int) ≤ (260 : Int); omega⟩, ⟨by show (1 : Int) ≤ (i : Int) + 1; omega, by show (i : Int) + 1 ≤ (261 : Int); omega⟩, f 16, f 17, f 18, f 19, f 20, f 21, f 22, f 23, f 24, ⟨by show (0 : Int) ≤ c; omega, by show c ≤ (0 : Int); omega⟩, f 26, ⟨by show (1 : Int) ≤ ((itoa g.a).length : Int); omega, by show ((itoa g.a).length : Int) ≤ (20 : Int); omega⟩, f 28, ⟨by show (1 : Int) ≤ ((itoa g.b).length : Int); omega, by show ((itoa g.b).length : Int) ≤ (20 : Int); omega⟩, f 30, ⟨by show (1 : Int) ≤ ((itoa g.n).length : Int); omega, by show ((itoa g.n).length : Int) ≤ (20 : Int); omega⟩, f 32, ⟨by show (1 : Int) ≤ ((itoa g.m).length : Int); omega, by show ((itoa g.m).length : Int) ≤ (20 : Int); omega⟩, f 34, ⟨by show (1 : Int) ≤ ((itoa g.i6).length : Int); omega, by show ((itoa g.i6).length : Int) ≤ (20 : Int); omega⟩, f 36, ⟨by show (1 : Int) ≤ ((itoa g.i7).length : Int); omega, by show ((itoa g.i7).length : Int) ≤ (20 : Int); omega⟩, f 38, ⟨by show (1 : Int) ≤ ((itoa g.i8).length : Int); omega, by show ((itoa g.i8).length : Int) ≤ (20 : Int); omega⟩, f 40, ⟨by show (1 : Int) ≤ ((itoa g.i9).length : Int); omega, by show ((itoa g.i9).length : Int) ≤ (20 : Int); omega⟩, f 42, ⟨by show (1 : Int) ≤ ((itoa g.i10).length : Int); omega, by show ((itoa g.i10).length : Int) ≤ (20 : Int); omega⟩, f 44, ⟨by show (1 : Int) ≤ ((itoa ((g.t.getD 0 (0, 0)).1)).length : Int); omega, by show ((itoa ((g.t.getD 0 (0, 0)).1)).length : Int) ≤ (20 : Int); omega⟩, f 46, ⟨by show (1 : Int) ≤ ((itoa ((g.t.getD 0 (0, 0)).2)).length : Int); omega, by show ((itoa ((g.t.getD 0 (0, 0)).2)).length : Int) ≤ (20 : Int); omega⟩, f 48, ⟨by show (1 : Int) ≤ ((itoa ((g.t.getD 1 (0, 0)).1)).length : Int); omega, by show ((itoa ((g.t.getD 1 (0, 0)).1)).length : Int) ≤ (20 : Int); omega⟩, f 50, ⟨by show (1 : Int) ≤ ((itoa ((g.t.getD 1 (0, 0)).2)).length : Int); omega, by show ((itoa ((g.t.getD 1 (0, 0)).2)).length : Int) ≤ (20 : Int); omega⟩, f 52, ⟨by show (1 : Int) ≤ ((permB g).length : Int); omega, by show ((permB g).length : Int) ≤ (6000 : Int); omega⟩, trivial⟩ f
theorem iv_xyiv0 (h : g.OK w) (hc : 0 ≤ c ∧ c ≤ 1000) (hs : s.length ≤ 6000) (hi : i ≤ 260) (h2 : c ≠ 0) : IvOK xyiv0 (erho g c s i) := by
  have hp := permB_len h
  have hl := h.nl
  have ht := h.nt
  have fl := h.fl i
  have l26 := itoa_len h.fa
  have l28 := itoa_len h.fb
  have l30 := itoa_len h.fn
  have l32 := itoa_len h.fm
  have l34 := itoa_len h.f6
  have l36 := itoa_len h.f7
  have l38 := itoa_len h.f8
  have l40 := itoa_len h.f9
  have l42 := itoa_len h.f10
  have l44 := itoa_len ((h.ft 0).1)
  have l46 := itoa_len ((h.ft 0).2)
  have l48 := itoa_len ((h.ft 1).1)
  have l50 := itoa_len ((h.ft 1).2)
  have l66 := itoa_len fl
  have f := eint_fits h hc hs hi
  exact iv_all (f := eint g c s i) ⟨f 0, f 1, f 2, f 3, f 4, f 5, f 6, f 7, f 8, f 9, f 10, f 11, ⟨by show (0 : Int) ≤ (g.l.length : Int); omega, by show (g.l.length : Int) ≤ (9223372036854775807 : Int); omega⟩, ⟨by show (0 : Int) ≤ (g.t.length : Int); omega, by show (g.t.length : Int) ≤ (9223372036854775807 : Int); omega⟩, ⟨by show (0 : Int) ≤ (i : Int); omega, by show (i : Int) ≤ (260 : Int); omega⟩, ⟨by show (1 : Int) ≤ (i : Int) + 1; omega, by show (i : Int) + 1 ≤ (261 : Int); omega⟩, f 16, f 17, f 18, f 19, f 20, f 21, f 22, f 23, f 24, ⟨by show (1 : Int) ≤ c; omega, by show c ≤ (1000 : Int); omega⟩, f 26, ⟨by show (1 : Int) ≤ ((itoa g.a).length : Int); omega, by show ((itoa g.a).length : Int) ≤ (20 : Int); omega⟩, f 28, ⟨by show (1 : Int) ≤ ((itoa g.b).length : Int); omega, by show ((itoa g.b).length : Int) ≤ (20 : Int); omega⟩, f 30, ⟨by show (1 : Int) ≤ ((itoa g.n).length : Int); omega, by show ((itoa g.n).length : Int) ≤ (20 : Int); omega⟩, f 32, ⟨by show (1 : Int) ≤ ((itoa g.m).length : Int); omega, by show ((itoa g.m).length : Int) ≤ (20 : Int); omega⟩, f 34, ⟨by show (1 : Int) ≤ ((itoa g.i6).length : Int); omega, by show ((itoa g.i6).length : Int) ≤ (20 : Int); omega⟩, f 36, ⟨by show (1 : Int) ≤ ((itoa g.i7).length : Int); omega, by show ((itoa g.i7).length : Int) ≤ (20 : Int); omega⟩, f 38, ⟨by show (1 : Int) ≤ ((itoa g.i8).length : Int); omega, by show ((itoa g.i8).length : Int) ≤ (20 : Int); omega⟩, f 40, ⟨by show (1 : Int) ≤ ((itoa g.i9).length : Int); omega, by show ((itoa g.i9).length : Int) ≤ (20 : Int); omega⟩, f 42, ⟨by show (1 : Int) ≤ ((itoa g.i10).length : Int); omega, by show ((itoa g.i10).length : Int) ≤ (20 : Int); omega⟩, f 44, ⟨by show (1 : Int) ≤ ((itoa ((g.t.getD 0 (0, 0)).1)).length : Int); omega, by show ((itoa ((g.t.getD 0 (0, 0)).1)).length : Int) ≤ (20 : Int); omega⟩, f 46, ⟨by show (1 : Int) ≤ ((itoa ((g.t.getD 0 (0, 0)).2)).length : Int); omega, by show ((itoa ((g.t.getD 0 (0, 0)).2)).length : Int) ≤ (20 : Int); omega⟩, f 48, ⟨by show (1 : Int) ≤ ((itoa ((g.t.getD 1 (0, 0)).1)).length : Int); omega, by show ((itoa ((g.t.getD 1 (0, 0)).1)).length : Int) ≤ (20 : Int); omega⟩, f 50, ⟨by show (1 : Int) ≤ ((itoa ((g.t.getD 1 (0, 0)).2)).length : Int); omega, by show ((itoa ((g.t.getD 1 (0, 0)).2)).length : Int) ≤ (20 : Int); omega⟩, f 52, ⟨by show (1 : Int) ≤ ((permB g).length : Int); omega, by show ((permB g).length : Int) ≤ (6000 : Int); omega⟩, trivial⟩ f
theorem txtF_ok : FsOK txtF (erho g c s i) := by
  unfold txtF
  exact fs_cons (fact_slen (l := itoa g.a) rfl rfl) (fs_cons (fact_slen (l := itoa g.b) rfl rfl) (fs_cons (fact_slen (l := itoa g.n) rfl rfl) (fs_cons (fact_slen (l := itoa g.m) rfl rfl) (fs_cons (fact_slen (l := itoa g.i6) rfl rfl) (fs_cons (fact_slen (l := itoa g.i7) rfl rfl) (fs_cons (fact_slen (l := itoa g.i8) rfl rfl) (fs_cons (fact_slen (l := itoa g.i9) rfl rfl) (fs_cons (fact_slen (l := itoa g.i10) rfl rfl) (fs_cons (fact_slen (l := itoa ((g.t.getD 0 (0, 0)).1)) rfl rfl) (fs_cons (fact_slen (l := itoa ((g.t.getD 0 (0, 0)).2)) rfl rfl) (fs_cons (fact_slen (l := itoa ((g.t.getD 1 (0, 0)).1)) rfl rfl) (fs_cons (fact_slen (l := itoa ((g.t.getD 1 (0, 0)).2)) rfl rfl) (fs_cons (fact_slen (l := permB g) rfl rfl) (fs_nil))))))))))))))
theorem evF_ok : FsOK evF (erho g c s i) := fs_cons (fact_len rfl rfl) (fs_cons (fact_len rfl rfl) fs_nil)
theorem lss_has {fs : List Fact} {a b : Nat} {ρ : Rho} (w : World) (h : hasLss fs a b = true) (k : FsOK fs ρ) : ρ.int a < ρ.int b := by
  unfold hasLss at h
  rw [List.any_eq_true] at h
  obtain ⟨f, hf, hh⟩ := h
  split at hh
  · rename_i k1 x k2 y
    simp only [Bool.and_eq_true] at hh
    have e1 := Nat.eq_of_beq_eq_true hh.1
    have e2 := Nat.eq_of_beq_eq_true hh.2
    subst e1 e2
    exact lss_of Tryd.prog w (k _ hf)
  · cases hh
theorem fact_atI {ρ : Rho} {B O l c size j n : Nat} {x : VV} {a : Option Addr} (hx : sval ρ x = some (.slice a l c)) (ha : a = some ⟨B, O, none⟩) (hn : n < l) (hb : ρ.blk j = B) (ho : ρ.off j = O + n * size) : FactOK ρ (.at size x (.int .i64 (n : Int)) ⟨.sym j, 0⟩) := by
  subst ha
  exact ⟨⟨B, O, none⟩, l, c, .i64, n, j, hx, rfl, rfl, by omega, by omega, rfl, hb, by rw [ho]; rfl⟩
theorem tgF_ok (h : g.OK w) {n : Int} (hn : n ≤ g.t.length) : FsOK (tgF n) (erho g c s i) := by
  have one : (1 : Int) ≤ n → FactOK (erho g c s i) (.at 2 (.sym 11) (.int .i64 0) ⟨.sym 20, 0⟩) := fun h1 => by
    obtain ⟨g1, _⟩ := h.ct 0 _ (at_of (d := (0, 0)) (by omega))
    exact fact_atI (n := 0) (B := g.Bb) (O := g.Ob) (l := g.t.length) (c := g.cb) rfl g1 (by omega) rfl rfl
  have two : (2 : Int) ≤ n → FactOK (erho g c s i) (.at 2 (.sym 11) (.int .i64 1) ⟨.sym 22, 0⟩) := fun h1 => by
    obtain ⟨g1, _⟩ := h.ct 0 _ (at_of (d := (0, 0)) (by omega))
    exact fact_atI (n := 1) (B := g.Bb) (O := g.Ob) (l := g.t.length) (c := g.cb) rfl g1 (by omega) rfl rfl
  unfold tgF
  cases e1 : decide (1 ≤ n) with
  | false => exact fs_nil
  | true => cases e2 : decide (2 ≤ n) with
    | false => exact fs_cons (one (of_decide_eq_true e1)) fs_nil
    | true => exact fs_cons (one (of_decide_eq_true e1)) (fs_cons (two (of_decide_eq_true e2)) fs_nil)
theorem elF_ok (h : g.OK w) (hi : i < g.l.length) : FsOK elF (erho g c s i) := by
  obtain ⟨g1, _⟩ := h.cl i _ (at_of (d := 0) hi)
  have := h.nl
  refine fs_cons (fact_at (n := i) (B := g.Ba) (O := g.Oa) (l := g.l.length) (c := g.ca) ?_ rfl hi rfl (by show g.Oa + i = g.Oa + i * 1; omega)) (fs_cons ?_ fs_nil)
  · show some (Value.slice g.oa g.l.length g.ca) = _
    rw [g1]
  · exact fact_add rfl (show -9223372036854775808 ≤ (i : Int) + 1 by omega) (show (i : Int) + 1 ≤ 9223372036854775807 by omega)
theorem evS_ok (h : g.OK w) {iv : Ivs} (h1 : IvOK iv (erho g c s i)) {el : Bool} (hel : el = true → i < g.l.length) (φ : Phi) (hφ : φ.ρ = erho g c s i) : ∀ k cs, evS iv el k = some cs → φ.ρ.blk k < w.heap.size ∧ ∀ j x, cs[j]? = some x → ∃ v, w.cell? ⟨φ.ρ.blk k, φ.ρ.off k + j, none⟩ = some v ∧ VR φ x v := by
  have v : ∀ k, VR φ (sv iv .i64 k) (.int .i64 (eint g c s i k)) := fun k => by have := VR_sv (φ := φ) (iv := iv) (by rw [hφ]; exact h1) .i64 k; rw [hφ] at this; exact this
  have h13 := (h1 13).1
  have e13 : (erho g c s i).int 13 = (g.t.length : Int) := rfl
  rw [e13] at h13
  have c20 : ∀ cs, (match decide (1 ≤ (ivAt iv 13).1) with | true => some [sv iv .i64 20, sv iv .i64 21] | false => none) = some cs → φ.ρ.blk 20 < w.heap.size ∧ ∀ j x, cs[j]? = some x → ∃ v, w.cell? ⟨φ.ρ.blk 20, φ.ρ.off 20 + j, none⟩ = some v ∧ VR φ x v := by
    intro cs hk
    cases hd : decide (1 ≤ (ivAt iv 13).1) with
    | false => rw [hd] at hk; cases hk
    | true =>
      have hd' := of_decide_eq_true hd
      rw [hd] at hk
      cases hk
      obtain ⟨g1, g2, g3, g4⟩ := h.ct 0 _ (at_of (d := (0, 0)) (by omega))
      have eb : φ.ρ.blk 20 = g.Bb := by rw [hφ]; rfl
      have eo : φ.ρ.off 20 = g.Ob := by rw [hφ]; rfl
      rw [eb, eo]
      refine ⟨g2, fun j x hx => ?_⟩
      match j with
      | 0 => cases hx; exact ⟨_, g3, v 20⟩
      | 1 => cases hx; exact ⟨_, g4, v 21⟩
      | j + 2 => simp at hx
  have c22 : ∀ cs, (match decide (2 ≤ (ivAt iv 13).1) with | true => some [sv iv .i64 22, sv iv .i64 23] | false => none) = some cs → φ.ρ.blk 22 < w.heap.size ∧ ∀ j x, cs[j]? = some x → ∃ v, w.cell? ⟨φ.ρ.blk 22, φ.ρ.off 22 + j, none⟩ = some v ∧ VR φ x v := by
    intro cs hk
    cases hd : decide (2 ≤ (ivAt iv 13).1) with
    | false => rw [hd] at hk; cases hk
    | true =>
      have hd' := of_decide_eq_true hd
      rw [hd] at hk
      cases hk
      obtain ⟨g1, g2, g3, g4⟩ := h.ct 1 _ (at_of (d := (0, 0)) (by omega))
      have eb : φ.ρ.blk 22 = g.Bb := by rw [hφ]; rfl
      have eo : φ.ρ.off 22 = g.Ob + 2 := by rw [hφ]; rfl
      rw [eb, eo]
      refine ⟨g2, fun j x hx => ?_⟩
      match j with
      | 0 => cases hx; exact ⟨_, g3, v 22⟩
      | 1 => cases hx; exact ⟨_, g4, v 23⟩
      | j + 2 => simp at hx
  have c16 : ∀ cs, (match el with | true => some [sv iv .i64 17] | false => none) = some cs → φ.ρ.blk 16 < w.heap.size ∧ ∀ j x, cs[j]? = some x → ∃ v, w.cell? ⟨φ.ρ.blk 16, φ.ρ.off 16 + j, none⟩ = some v ∧ VR φ x v := by
    intro cs hk
    cases el with
    | false => cases hk
    | true =>
      cases hk
      obtain ⟨g1, g2, g3⟩ := h.cl i _ (at_of (d := 0) (hel rfl))
      have eb : φ.ρ.blk 16 = g.Ba := by rw [hφ]; rfl
      have eo : φ.ρ.off 16 = g.Oa + i := by rw [hφ]; rfl
      rw [eb, eo]
      refine ⟨g2, fun j x hx => ?_⟩
      match j with
      | 0 => cases hx; exact ⟨_, g3, v 17⟩
      | j + 1 => simp at hx
  intro k cs hk
  unfold evS at hk
  cases b1 : Nat.beq k 20 with
  | true => rw [b1] at hk; rw [Nat.eq_of_beq_eq_true b1]; exact c20 cs hk
  | false => cases b2 : Nat.beq k 22 with
    | true => rw [b1, b2] at hk; rw [Nat.eq_of_beq_eq_true b2]; exact c22 cs hk
    | false => cases b3 : Nat.beq k 16 with
      | true => rw [b1, b2, b3] at hk; rw [Nat.eq_of_beq_eq_true b3]; exact c16 cs hk
      | false => rw [b1, b2, b3] at hk; cases hk
theorem cent_ok (h : g.OK w) {iv : Ivs} {fs : List Fact} (h1 : IvOK iv (erho g c s i)) (h2 : FsOK fs (erho g c s i)) (φ : Phi) (hφ : φ.ρ = erho g c s i) : EnvP (Cent iv fs) φ w := by
  have h13 := (h1 13).1
  unfold Cent
  split
  · rename_i hh
    have hi : (i : Int) < (g.l.length : Int) := lss_has w hh h2
    exact ⟨by rw [hφ]; exact h1, by rw [hφ]; exact fs_app h2 (fs_app evF_ok (fs_app (tgF_ok h h13) (elF_ok h (by omega)))), evS_ok (el := true) h h1 (fun _ => by omega) φ hφ⟩
  · exact ⟨by rw [hφ]; exact h1, by rw [hφ]; exact fs_app h2 (fs_app evF_ok (tgF_ok h h13)), evS_ok (el := false) h h1 (fun e => by cases e) φ hφ⟩
theorem tev_ok (h : g.OK w) {iv : Ivs} {fs : List Fact} (h1 : IvOK iv (erho g c s i)) (h2 : FsOK fs (erho g c s i)) (φ : Phi) (hφ : φ.ρ = erho g c s i) : EnvP (Tev iv fs) φ w := by
  have h13 := (h1 13).1
  exact ⟨by rw [hφ]; exact h1, by rw [hφ]; exact fs_app h2 (fs_app evF_ok (fs_app (tgF_ok h h13) txtF_ok)), evS_ok (el := false) h h1 (fun e => by cases e) φ hφ⟩
end
end
end Go.Proofs.YtjfbakhebdhbmaaDoor.event
