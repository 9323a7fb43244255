/-
  Are two events alike: what the statement's own function tells.
-/
import Derived.Test.YtjfbakhebdhbmaaDoorTxAl
import Derived.Test.YtjfbakhebdhbmaaDoorTxW
namespace Go.Proofs.YtjfbakhebdhbmaaDoor.event
open Go.Ev Go.RowKit Go.Lib
set_option linter.unusedVariables false
noncomputable section
/-- Two events, wherever they lie. -/
structure Alike (g h : EvG) : Prop where
  k : g.k = h.k
  a : g.a = h.a
  b : g.b = h.b
  n : g.n = h.n
  m : g.m = h.m
  i5 : g.i5 = h.i5
  i6 : g.i6 = h.i6
  i7 : g.i7 = h.i7
  i8 : g.i8 = h.i8
  i9 : g.i9 = h.i9
  i10 : g.i10 = h.i10
  l : g.l = h.l
  t : g.t = h.t
theorem Alike.refl (g : EvG) : Alike g g := ⟨rfl, rfl, rfl, rfl, rfl, rfl, rfl, rfl, rfl, rfl, rfl, rfl, rfl⟩
theorem Alike.symm {g h : EvG} (k : Alike g h) : Alike h g := ⟨k.k.symm, k.a.symm, k.b.symm, k.n.symm, k.m.symm, k.i5.symm, k.i6.symm, k.i7.symm, k.i8.symm, k.i9.symm, k.i10.symm, k.l.symm, k.t.symm⟩
def aint (g h : EvG) (i : Nat) : Nat → Int
  | 24 => g.k
  | 1 => g.a
  | 2 => g.b
  | 3 => g.n
  | 4 => g.m
  | 5 => g.i5
  | 6 => g.i6
  | 7 => g.i7
  | 8 => g.i8
  | 9 => g.i9
  | 10 => g.i10
  | 12 => (g.l.length : Int)
  | 13 => (g.t.length : Int)
  | 48 => h.k
  | 31 => h.a
  | 32 => h.b
  | 33 => h.n
  | 34 => h.m
  | 35 => h.i5
  | 36 => h.i6
  | 37 => h.i7
  | 38 => h.i8
  | 39 => h.i9
  | 40 => h.i10
  | 42 => (h.l.length : Int)
  | 43 => (h.t.length : Int)
  | 60 => (i : Int)
  | 61 => (i : Int) + 1
  | 63 => g.l.getD i 0
  | 65 => h.l.getD i 0
  | 67 => (g.t.getD i (0, 0)).1
  | 68 => (g.t.getD i (0, 0)).2
  | 70 => (h.t.getD i (0, 0)).1
  | 71 => (h.t.getD i (0, 0)).2
  | 88 => if g.l.length = h.l.length then 1 else 0
  | 89 => if g.t.length = h.t.length then 1 else 0
  | _ => 0
def avv (g h : EvG) : Nat → Value
  | 0 => .slice g.oa g.l.length g.ca
  | 11 => .slice g.ob g.t.length g.cb
  | 30 => .slice h.oa h.l.length h.ca
  | 41 => .slice h.ob h.t.length h.cb
  | _ => .bool false
theorem avv_one {g h : EvG} (j : Nat) : (avv g h j).oneCell' = true := by
  unfold avv
  split <;> rfl
def arho (g h : EvG) (i : Nat) : Rho := ⟨aint g h i, avv g h, fun k => match k with | 62 => g.Ba | 64 => h.Ba | 66 => g.Bb | 69 => h.Bb | _ => 0,
  fun k => match k with | 62 => g.Oa + i | 64 => h.Oa + i | 66 => g.Ob + i * 2 | 69 => h.Ob + i * 2 | _ => 0, avv_one, fun _ => [], fun _ _ h => by cases h⟩
section
variable {w : World} {g h : EvG} {i : Nat}
theorem a_fits (hg : g.OK w) (hh : h.OK w) (hi : i ≤ 260) : ∀ k, I64 (aint g h i k) := fun k => by
  have n1 := hg.nl
  have n2 := hg.nt
  have n3 := hh.nl
  have n4 := hh.nt
  unfold aint
  split
  · exact hg.fk
  · exact hg.fa
  · exact hg.fb
  · exact hg.fn
  · exact hg.fm
  · exact hg.f5
  · exact hg.f6
  · exact hg.f7
  · exact hg.f8
  · exact hg.f9
  · exact hg.f10
  · exact ⟨by omega, by omega⟩
  · exact ⟨by omega, by omega⟩
  · exact hh.fk
  · exact hh.fa
  · exact hh.fb
  · exact hh.fn
  · exact hh.fm
  · exact hh.f5
  · exact hh.f6
  · exact hh.f7
  · exact hh.f8
  · exact hh.f9
  · exact hh.f10
  · exact ⟨by omega, by omega⟩
  · exact ⟨by omega, by omega⟩
  · exact ⟨by omega, by omega⟩
  · exact ⟨by omega, by omega⟩
  · exact hg.fl i
  · exact hh.fl i
  · exact (hg.ft i).1
  · exact (hg.ft i).2
  · exact (hh.ft i).1
  · exact (hh.ft i).2
  · split <;> exact ⟨by decide, by decide⟩
  · split <;> exact ⟨by decide, by decide⟩
  · exact i64_0
theorem a_iv (hg : g.OK w) (hh : h.OK w) (hi : i ≤ 260) {c d : Int} (hc : c ≤ aint g h i 88 ∧ 0 ≤ aint g h i 88 ∧ aint g h i 88 ≤ 1) (hd : d ≤ aint g h i 89 ∧ aint g h i 89 ≤ 1) : IvOK (mmA :: mmA :: mmA :: mmA :: mmA :: mmA :: mmA :: mmA :: mmA :: mmA :: mmA :: mmA :: (0, 260) :: (0, 4) :: mmA :: mmA :: mmA :: mmA :: mmA :: mmA :: mmA :: mmA :: mmA :: mmA :: mmA :: mmA :: mmA :: mmA :: mmA :: mmA :: mmA :: mmA :: mmA :: mmA :: mmA :: mmA :: mmA :: mmA :: mmA :: mmA :: mmA :: mmA :: (0, 260) :: (0, 4) :: mmA :: mmA :: mmA :: mmA :: mmA :: mmA :: mmA :: mmA :: mmA :: mmA :: mmA :: mmA :: mmA :: mmA :: mmA :: mmA :: (0, 260) :: (1, 261) :: mmA :: mmA :: mmA :: mmA :: mmA :: mmA :: mmA :: mmA :: mmA :: mmA :: mmA :: mmA :: mmA :: mmA :: mmA :: mmA :: mmA :: mmA :: mmA :: mmA :: mmA :: mmA :: mmA :: mmA :: mmA :: mmA :: [(c, 1), (d, 1)]) (arho g h i) := by
  have f := a_fits hg hh hi
  have n1 := hg.nl
  have n2 := hg.nt
  have n3 := hh.nl
  have n4 := hh.nt
  exact iv_all (f := aint g h i) ⟨f 0, f 1, f 2, f 3, f 4, f 5, f 6, f 7, f 8, f 9, f 10, f 11, ⟨by show (0 : Int) ≤ (g.l.length : Int); omega, by show (g.l.length : Int) ≤ (260 : Int); omega⟩, ⟨by show (0 : Int) ≤ (g.t.length : Int); omega, by show (g.t.length : Int) ≤ (4 : Int); omega⟩, f 14, f 15, f 16, f 17, f 18, f 19, f 20, f 21, f 22, f 23, f 24, f 25, f 26, f 27, f 28, f 29, f 30, f 31, f 32, f 33, f 34, f 35, f 36, f 37, f 38, f 39, f 40, f 41,
    ⟨by show (0 : Int) ≤ (h.l.length : Int); omega, by show (h.l.length : Int) ≤ (260 : Int); omega⟩, ⟨by show (0 : Int) ≤ (h.t.length : Int); omega, by show (h.t.length : Int) ≤ (4 : Int); omega⟩, f 44, f 45, f 46, f 47, f 48, f 49, f 50, f 51, f 52, f 53, f 54, f 55, f 56, f 57, f 58, f 59, ⟨by show (0 : Int) ≤ (i : Int); omega, by show (i : Int) ≤ 260; omega⟩, ⟨by show (1 : Int) ≤ (i : Int) + 1; omega, by show (i : Int) + 1 ≤ 261; omega⟩,
    f 62, f 63, f 64, f 65, f 66, f 67, f 68, f 69, f 70, f 71, f 72, f 73, f 74, f 75, f 76, f 77, f 78, f 79, f 80, f 81, f 82, f 83, f 84, f 85, f 86, f 87, ⟨hc.1, hc.2.2⟩, hd, trivial⟩ f
theorem flag01 {p : Prop} [Decidable p] : (0 : Int) ≤ (if p then (1 : Int) else 0) ∧ (if p then (1 : Int) else 0) ≤ 1 := by split <;> decide
theorem a_iv0 (hg : g.OK w) (hh : h.OK w) (hi : i ≤ 260) : IvOK aliv0 (arho g h i) := a_iv hg hh hi ⟨flag01.1, flag01.1, flag01.2⟩ ⟨flag01.1, flag01.2⟩
theorem a_iv2 (hg : g.OK w) (hh : h.OK w) (hi : i ≤ 260) (h1 : g.l.length = h.l.length) (h2 : g.t.length = h.t.length) : IvOK aliv2 (arho g h i) := by
  have e1 : aint g h i 88 = 1 := if_pos h1
  have e2 : aint g h i 89 = 1 := if_pos h2
  exact a_iv hg hh hi ⟨by omega, by omega, by omega⟩ ⟨by omega, by omega⟩
theorem alE_or (iv : Ivs) (fs : List Fact) : (hasLss fs 60 12 = true ∧ 1 ≤ (ivAt iv 88).1 ∧ alE iv fs = ([.at 1 (.sym 0) (si 60) ⟨.sym 62, 0⟩, .at 1 (.sym 30) (si 60) ⟨.sym 64, 0⟩, .bin .add (si 60) (.int .i64 1) (si 61)], 1)) ∨
    (hasLss fs 60 13 = true ∧ 1 ≤ (ivAt iv 89).1 ∧ alE iv fs = ([.at 2 (.sym 11) (si 60) ⟨.sym 66, 0⟩, .at 2 (.sym 41) (si 60) ⟨.sym 69, 0⟩, .bin .add (si 60) (.int .i64 1) (si 61)], 2)) ∨ alE iv fs = ([], 0) := by
  unfold alE
  split
  · rename_i _ _ a b
    exact .inl ⟨a, of_decide_eq_true b, rfl⟩
  · rename_i a b _
    exact .inr (.inl ⟨a, of_decide_eq_true b, rfl⟩)
  · exact .inr (.inr rfl)
theorem alF_ok : FsOK alF (arho g h i) := fs_cons (fact_len rfl rfl) (fs_cons (fact_len rfl rfl) (fs_cons (fact_len rfl rfl) (fs_cons (fact_len rfl rfl) fs_nil)))
theorem eal_ok (hg : g.OK w) (hh : h.OK w) {iv : Ivs} {fs : List Fact} (h1 : IvOK iv (arho g h i)) (h2 : FsOK fs (arho g h i)) (φ : Phi) (hφ : φ.ρ = arho g h i) : EnvP (Eal iv fs) φ w := by
  have n1 := hg.nl
  have n2 := hg.nt
  have v : ∀ k, VR φ (sv iv .i64 k) (.int .i64 (aint g h i k)) := fun k => by have := VR_sv (φ := φ) (iv := iv) (by rw [hφ]; exact h1) .i64 k; rw [hφ] at this; exact this
  have one : ∀ {p : Prop} [Decidable p], (1 : Int) ≤ (if p then (1 : Int) else 0) → p := fun {p} _ k => by
    by_cases hp : p
    · exact hp
    · rw [if_neg hp] at k; omega
  rcases alE_or iv fs with ⟨a, b, e⟩ | ⟨a, b, e⟩ | e
  · have hi : (i : Int) < (g.l.length : Int) := lss_has w a h2
    have h88 := (h1 88).2
    have h88' := (h1 88).1
    have hl : g.l.length = h.l.length := one (show (1 : Int) ≤ (if g.l.length = h.l.length then (1 : Int) else 0) by show (1 : Int) ≤ (arho g h i).int 88; omega)
    obtain ⟨g1, g2, g3⟩ := hg.cl i _ (at_of (d := (0 : Int)) (by omega))
    obtain ⟨k1, k2, k3⟩ := hh.cl i _ (at_of (d := (0 : Int)) (by omega))
    unfold Eal
    rw [e]
    refine ⟨by rw [hφ]; exact h1, by
      rw [hφ]
      refine fs_app h2 (fs_app alF_ok (fs_cons ?_ (fs_cons ?_ (fs_cons (fact_add rfl (show -9223372036854775808 ≤ (i : Int) + 1 by omega) (show (i : Int) + 1 ≤ 9223372036854775807 by omega)) fs_nil))))
      · refine fact_at (n := i) (B := g.Ba) (O := g.Oa) (l := g.l.length) (c := g.ca) ?_ rfl (by omega) rfl (by show g.Oa + i = _; omega)
        show some (Value.slice g.oa g.l.length g.ca) = _
        rw [g1]
      · refine fact_at (n := i) (B := h.Ba) (O := h.Oa) (l := h.l.length) (c := h.ca) ?_ rfl (by omega) rfl (by show h.Oa + i = _; omega)
        show some (Value.slice h.oa h.l.length h.ca) = _
        rw [k1], fun k cs hk => ?_⟩
    simp only [alS] at hk
    split at hk
    · rename_i hb
      have := Nat.eq_of_beq_eq_true hb
      subst this
      cases hk
      rw [hφ]
      refine ⟨g2, fun j x hx => ?_⟩
      match j with
      | 0 => cases hx; exact ⟨_, g3, v 63⟩
      | j + 1 => simp at hx
    · rename_i hb _
      have := Nat.eq_of_beq_eq_true hb
      subst this
      cases hk
      rw [hφ]
      refine ⟨k2, fun j x hx => ?_⟩
      match j with
      | 0 => cases hx; exact ⟨_, k3, v 65⟩
      | j + 1 => simp at hx
    · cases hk
  · have hi : (i : Int) < (g.t.length : Int) := lss_has w a h2
    have h89 := (h1 89).2
    have h89' := (h1 89).1
    have hl : g.t.length = h.t.length := one (show (1 : Int) ≤ (if g.t.length = h.t.length then (1 : Int) else 0) by show (1 : Int) ≤ (arho g h i).int 89; omega)
    obtain ⟨g1, g2, g3, g4⟩ := hg.ct i _ (at_of (d := ((0, 0) : Int × Int)) (by omega))
    obtain ⟨k1, k2, k3, k4⟩ := hh.ct i _ (at_of (d := ((0, 0) : Int × Int)) (by omega))
    unfold Eal
    rw [e]
    refine ⟨by rw [hφ]; exact h1, by
      rw [hφ]
      refine fs_app h2 (fs_app alF_ok (fs_cons ?_ (fs_cons ?_ (fs_cons (fact_add rfl (show -9223372036854775808 ≤ (i : Int) + 1 by omega) (show (i : Int) + 1 ≤ 9223372036854775807 by omega)) fs_nil))))
      · refine fact_at (n := i) (B := g.Bb) (O := g.Ob) (l := g.t.length) (c := g.cb) ?_ rfl (by omega) rfl rfl
        show some (Value.slice g.ob g.t.length g.cb) = _
        rw [g1]
      · refine fact_at (n := i) (B := h.Bb) (O := h.Ob) (l := h.t.length) (c := h.cb) ?_ rfl (by omega) rfl rfl
        show some (Value.slice h.ob h.t.length h.cb) = _
        rw [k1], fun k cs hk => ?_⟩
    simp only [alS] at hk
    split at hk
    · rename_i hb
      have := Nat.eq_of_beq_eq_true hb
      subst this
      cases hk
      rw [hφ]
      refine ⟨g2, fun j x hx => ?_⟩
      match j with
      | 0 => cases hx; exact ⟨_, g3, v 67⟩
      | 1 => cases hx; exact ⟨_, g4, v 68⟩
      | j + 2 => simp at hx
    · rename_i hb _
      have := Nat.eq_of_beq_eq_true hb
      subst this
      cases hk
      rw [hφ]
      refine ⟨k2, fun j x hx => ?_⟩
      match j with
      | 0 => cases hx; exact ⟨_, k3, v 70⟩
      | 1 => cases hx; exact ⟨_, k4, v 71⟩
      | j + 2 => simp at hx
    · cases hk
  · unfold Eal
    rw [e]
    exact ⟨by rw [hφ]; exact h1, by rw [hφ]; exact fs_app h2 (fs_app alF_ok fs_nil), fun k cs hk => by simp [alS] at hk⟩
theorem a_agree (i j : Nat) : agree 60 (arho g h i) (arho g h j) := by
  have key : ∀ n, n < 60 → (arho g h j).int n = (arho g h i).int n ∧ (arho g h j).off n = (arho g h i).off n := by
    intro n hn
    rcases (show n = 0 ∨ n = 1 ∨ n = 2 ∨ n = 3 ∨ n = 4 ∨ n = 5 ∨ n = 6 ∨ n = 7 ∨ n = 8 ∨ n = 9 ∨ n = 10 ∨ n = 11 ∨ n = 12 ∨ n = 13 ∨ n = 14 ∨ n = 15 ∨ n = 16 ∨ n = 17 ∨ n = 18 ∨ n = 19 ∨ n = 20 ∨ n = 21 ∨ n = 22 ∨ n = 23 ∨ n = 24 ∨ n = 25 ∨ n = 26 ∨ n = 27 ∨ n = 28 ∨ n = 29 ∨ n = 30 ∨ n = 31 ∨ n = 32 ∨ n = 33 ∨ n = 34 ∨ n = 35 ∨ n = 36 ∨ n = 37 ∨ n = 38 ∨ n = 39 ∨ n = 40 ∨ n = 41 ∨ n = 42 ∨ n = 43 ∨ n = 44 ∨ n = 45 ∨ n = 46 ∨ n = 47 ∨ n = 48 ∨ n = 49 ∨ n = 50 ∨ n = 51 ∨ n = 52 ∨ n = 53 ∨ n = 54 ∨ n = 55 ∨ n = 56 ∨ n = 57 ∨ n = 58 ∨ n = 59 by omega) with e | e | e | e | e | e | e | e | e | e | e | e | e | e | e | e | e | e | e | e | e | e | e | e | e | e | e | e | e | e | e | e | e | e | e | e | e | e | e | e | e | e | e | e | e | e | e | e | e | e | e | e | e | e | e | e | e | e | e | e <;> rw [e] <;> exact ⟨rfl, rfl⟩
  exact fun k hk => ⟨(key k hk).1, rfl, rfl, (key k hk).2, rfl⟩
abbrev ARun (g h : EvG) (w : World) (b : Bool) (p i : Nat) : Prop := ∃ k, @Runs (extKA Tryd.prog alKT alK2) alC w (.bool b) k p (arho g h i)
theorem a_cut (hg : g.OK w) (hh : h.OK w) {c : CutP} (hiv : IvOK c.iv (arho g h i)) (hE : c.E = Eal) : @CutP.OK (extKA Tryd.prog alKT alK2) c w (arho g h i) := by
  letI : Ext := extKA Tryd.prog alKT alK2
  exact CutP.ok_of ⟨(fun e he => by cases he), fun e he => by cases he⟩ hiv fun iv fs h1 h2 φ hφ => by rw [hE]; exact eal_ok hg hh h1 h2 φ hφ
theorem arun3 (hg : g.OK w) (hh : h.OK w) (hi : i ≤ 260) : ARun g h w false 3 i := by
  letI : Ext := extKA Tryd.prog alKT alK2
  exact run_ret (c := alc3) (r := .bool false) rfl (a_cut hg hh (a_iv0 hg hh hi) rfl) rfl rfl
theorem arun1 (hg : g.OK w) (hh : h.OK w) (hi : i ≤ 260) : ARun g h w false 1 i := by
  letI : Ext := extKA Tryd.prog alKT alK2
  exact run_step (c := alc1) (d := alc3) rfl (a_cut hg hh (a_iv0 hg hh hi) rfl) (q := 3) (xs := [.int .i64 0]) rfl rfl (a_agree i 0) ⟨⟨.int .i64 0, rfl, rfl⟩, trivial⟩ (arun3 hg hh (Nat.zero_le _))
theorem drop_at {α : Type} {l : List α} {i : Nat} {d : α} (hi : i < l.length) : l.drop i = l.getD i d :: l.drop (i + 1) := by
  rw [List.drop_eq_getElem_cons hi]
  congr 1
  simp [List.getD_eq_getElem?_getD, List.getElem?_eq_getElem hi]
theorem arun4 (hg : g.OK w) (hh : h.OK w) (hl : g.l.length = h.l.length) (ht : g.t.length = h.t.length) : ∀ (m i : Nat) (b : Bool), i + m = g.t.length → (b = true ↔ g.t.drop i = h.t.drop i) → ARun g h w b 4 i := by
  letI : Ext := extKA Tryd.prog alKT alK2
  have n2 := hg.nt
  intro m
  induction m with
  | zero =>
    intro i b hi hb
    have e : b = true := hb.2 (by rw [List.drop_eq_nil_of_le (by omega), List.drop_eq_nil_of_le (by omega)])
    subst e
    refine run_ret (c := alc4) (r := .bool true) rfl (a_cut hg hh (a_iv2 hg hh (by omega) hl ht) rfl) ?_ rfl
    show valX alt4 _ = _
    simp only [alt4, valX]
    rw [if_neg (show ¬ (arho g h i).int 60 < (arho g h i).int 13 by show ¬ (i : Int) < (g.t.length : Int); omega)]
  | succ m ih =>
    intro i b hi hb
    rw [drop_at (d := ((0, 0) : Int × Int)) (show i < g.t.length by omega), drop_at (d := ((0, 0) : Int × Int)) (show i < h.t.length by omega), List.cons.injEq] at hb
    have ok := a_cut (c := alc4) hg hh (a_iv2 (i := i) hg hh (by omega) hl ht) rfl
    by_cases he : g.t.getD i (0, 0) = h.t.getD i (0, 0)
    · refine run_step (c := alc4) (d := alc4) rfl ok (q := 4) (xs := [.sint .i64 61]) ?_ rfl (a_agree i (i + 1)) ⟨⟨.int .i64 ((i : Int) + 1), rfl, rfl⟩, trivial⟩ (ih (i + 1) b (by omega) (by rw [hb]; exact ⟨fun k => k.2, fun k => ⟨he, k⟩⟩))
      show valX alt4 _ = _
      simp only [alt4, valX]
      rw [if_pos (show (arho g h i).int 60 < (arho g h i).int 13 by show (i : Int) < (g.t.length : Int); omega)]
      have e1 : (arho g h i).int 67 = (arho g h i).int 70 := by show (g.t.getD i (0, 0)).1 = (h.t.getD i (0, 0)).1; rw [he]
      have e2 : (arho g h i).int 68 = (arho g h i).int 71 := by show (g.t.getD i (0, 0)).2 = (h.t.getD i (0, 0)).2; rw [he]
      rw [e1, e2, if_neg (Int.lt_irrefl _), if_neg (Int.lt_irrefl _), if_neg (Int.lt_irrefl _), if_neg (Int.lt_irrefl _)]
    · have e : b = false := by
        cases b with
        | false => rfl
        | true => exact absurd (hb.1 rfl).1 he
      subst e
      refine run_step (c := alc4) (d := alc3) rfl ok (q := 3) (xs := [.sint .i64 61]) ?_ rfl (a_agree i (i + 1)) ⟨⟨.int .i64 ((i : Int) + 1), rfl, rfl⟩, trivial⟩ (arun3 hg hh (by omega))
      show valX alt4 _ = _
      simp only [alt4, valX]
      rw [if_pos (show (arho g h i).int 60 < (arho g h i).int 13 by show (i : Int) < (g.t.length : Int); omega)]
      have e67 : (arho g h i).int 67 = (g.t.getD i (0, 0)).1 := rfl
      have e68 : (arho g h i).int 68 = (g.t.getD i (0, 0)).2 := rfl
      have e70 : (arho g h i).int 70 = (h.t.getD i (0, 0)).1 := rfl
      have e71 : (arho g h i).int 71 = (h.t.getD i (0, 0)).2 := rfl
      rw [e67, e68, e70, e71]
      repeat' split
      all_goals first
        | rfl
        | (exfalso; exact he (Prod.ext (by omega) (by omega)))
theorem arun2 (hg : g.OK w) (hh : h.OK w) (hl : g.l.length = h.l.length) (ht : g.t.length = h.t.length) : ∀ (m i : Nat) (b : Bool), i + m = g.l.length → (b = true ↔ g.l.drop i = h.l.drop i ∧ g.t = h.t) → ARun g h w b 2 i := by
  letI : Ext := extKA Tryd.prog alKT alK2
  have n1 := hg.nl
  intro m
  induction m with
  | zero =>
    intro i b hi hb
    refine run_step (c := alc2) (d := alc4) rfl (a_cut hg hh (a_iv2 hg hh (by omega) hl ht) rfl) (q := 4) (xs := [.int .i64 0]) ?_ rfl (a_agree i 0) ⟨⟨.int .i64 0, rfl, rfl⟩, trivial⟩ (arun4 hg hh hl ht g.t.length 0 b (by omega) ?_)
    · show valX alt2 _ = _
      simp only [alt2, valX]
      rw [if_neg (show ¬ (arho g h i).int 60 < (arho g h i).int 12 by show ¬ (i : Int) < (g.l.length : Int); omega)]
    · rw [hb, List.drop_eq_nil_of_le (by omega), List.drop_eq_nil_of_le (by omega)]
      exact ⟨fun k => by rw [k.2], fun k => ⟨rfl, by simpa using k⟩⟩
  | succ m ih =>
    intro i b hi hb
    rw [drop_at (d := (0 : Int)) (show i < g.l.length by omega), drop_at (d := (0 : Int)) (show i < h.l.length by omega), List.cons.injEq] at hb
    have ok := a_cut (c := alc2) hg hh (a_iv2 (i := i) hg hh (by omega) hl ht) rfl
    have e63 : (arho g h i).int 63 = g.l.getD i 0 := rfl
    have e65 : (arho g h i).int 65 = h.l.getD i 0 := rfl
    by_cases he : g.l.getD i 0 = h.l.getD i 0
    · refine run_step (c := alc2) (d := alc2) rfl ok (q := 2) (xs := [.sint .i64 61]) ?_ rfl (a_agree i (i + 1)) ⟨⟨.int .i64 ((i : Int) + 1), rfl, rfl⟩, trivial⟩ (ih (i + 1) b (by omega) (by rw [hb]; exact ⟨fun k => ⟨k.1.2, k.2⟩, fun k => ⟨⟨he, k.1⟩, k.2⟩⟩))
      show valX alt2 _ = _
      simp only [alt2, valX]
      rw [if_pos (show (arho g h i).int 60 < (arho g h i).int 12 by show (i : Int) < (g.l.length : Int); omega)]
      rw [e63, e65, he, if_neg (Int.lt_irrefl _), if_neg (Int.lt_irrefl _)]
    · have e : b = false := by
        cases b with
        | false => rfl
        | true => exact absurd (hb.1 rfl).1.1 he
      subst e
      refine run_step (c := alc2) (d := alc1) rfl ok (q := 1) (xs := [.sint .i64 61]) ?_ rfl (a_agree i (i + 1)) ⟨⟨.int .i64 ((i : Int) + 1), rfl, rfl⟩, trivial⟩ (arun1 hg hh (by omega))
      show valX alt2 _ = _
      simp only [alt2, valX]
      rw [if_pos (show (arho g h i).int 60 < (arho g h i).int 12 by show (i : Int) < (g.l.length : Int); omega)]
      rw [e63, e65]
      repeat' split
      all_goals first
        | rfl
        | (exfalso; omega)
open Classical in
def alikeB (g h : EvG) : Bool := decide (Alike g h)
theorem alikeB_iff : alikeB g h = true ↔ Alike g h := by
  unfold alikeB
  exact @decide_eq_true_iff _ (Classical.propDecidable _)
theorem arun0 (hg : g.OK w) (hh : h.OK w) : ARun g h w (alikeB g h) 0 0 := by
  letI : Ext := extKA Tryd.prog alKT alK2
  have ok := a_cut (c := alc0) hg hh (a_iv0 (i := 0) hg hh (Nat.zero_le _)) rfl
  by_cases hs : g.k = h.k ∧ g.a = h.a ∧ g.b = h.b ∧ g.n = h.n ∧ g.m = h.m ∧ g.l.length = h.l.length ∧ g.t.length = h.t.length ∧ g.i5 = h.i5 ∧ g.i6 = h.i6 ∧ g.i7 = h.i7 ∧ g.i8 = h.i8 ∧ g.i9 = h.i9 ∧ g.i10 = h.i10
  · obtain ⟨q1, q2, q3, q4, q5, q6, q7, q8, q9, q10, q11, q12, q13⟩ := hs
    refine run_step (c := alc0) (d := alc2) rfl ok (q := 2) (xs := [.int .i64 0]) ?_ rfl (a_agree 0 0) ⟨⟨.int .i64 0, rfl, rfl⟩, trivial⟩ (arun2 hg hh q6 q7 g.l.length 0 _ (by omega) ?_)
    · have e1 : (arho g h 0).int 24 = (arho g h 0).int 48 := q1
      have e2 : (arho g h 0).int 1 = (arho g h 0).int 31 := q2
      have e3 : (arho g h 0).int 2 = (arho g h 0).int 32 := q3
      have e4 : (arho g h 0).int 3 = (arho g h 0).int 33 := q4
      have e5 : (arho g h 0).int 4 = (arho g h 0).int 34 := q5
      have e6 : (arho g h 0).int 12 = (arho g h 0).int 42 := congrArg Int.ofNat q6
      have e7 : (arho g h 0).int 13 = (arho g h 0).int 43 := congrArg Int.ofNat q7
      have e8 : (arho g h 0).int 5 = (arho g h 0).int 35 := q8
      have e9 : (arho g h 0).int 6 = (arho g h 0).int 36 := q9
      have e10 : (arho g h 0).int 7 = (arho g h 0).int 37 := q10
      have e11 : (arho g h 0).int 8 = (arho g h 0).int 38 := q11
      have e12 : (arho g h 0).int 9 = (arho g h 0).int 39 := q12
      have e13 : (arho g h 0).int 10 = (arho g h 0).int 40 := q13
      show valX alt0 _ = _
      simp only [alt0, valX, e1, e2, e3, e4, e5, e6, e7, e8, e9, e10, e11, e12, e13, Int.lt_irrefl, if_false]
    · rw [alikeB_iff]
      exact ⟨fun k => ⟨by rw [k.l], k.t⟩, fun k => ⟨q1, q2, q3, q4, q5, q8, q9, q10, q11, q12, q13, by simpa using k.1, k.2⟩⟩
  · have e : alikeB g h = false := by
      cases hb : alikeB g h with
      | false => rfl
      | true =>
        have k := alikeB_iff.1 hb
        exact absurd ⟨k.k, k.a, k.b, k.n, k.m, by rw [k.l], by rw [k.t], k.i5, k.i6, k.i7, k.i8, k.i9, k.i10⟩ hs
    rw [e]
    refine run_step (c := alc0) (d := alc1) rfl ok (q := 1) (xs := [.int .i64 0]) ?_ rfl (a_agree 0 0) ⟨⟨.int .i64 0, rfl, rfl⟩, trivial⟩ (arun1 hg hh (Nat.zero_le _))
    have f1 : (arho g h 0).int 24 = g.k ∧ (arho g h 0).int 48 = h.k ∧ (arho g h 0).int 1 = g.a ∧ (arho g h 0).int 31 = h.a ∧ (arho g h 0).int 2 = g.b ∧ (arho g h 0).int 32 = h.b ∧ (arho g h 0).int 3 = g.n ∧ (arho g h 0).int 33 = h.n ∧ (arho g h 0).int 4 = g.m ∧ (arho g h 0).int 34 = h.m ∧ (arho g h 0).int 12 = (g.l.length : Int) ∧ (arho g h 0).int 42 = (h.l.length : Int) ∧ (arho g h 0).int 13 = (g.t.length : Int) ∧ (arho g h 0).int 43 = (h.t.length : Int) := ⟨rfl, rfl, rfl, rfl, rfl, rfl, rfl, rfl, rfl, rfl, rfl, rfl, rfl, rfl⟩
    have f2 : (arho g h 0).int 5 = g.i5 ∧ (arho g h 0).int 35 = h.i5 ∧ (arho g h 0).int 6 = g.i6 ∧ (arho g h 0).int 36 = h.i6 ∧ (arho g h 0).int 7 = g.i7 ∧ (arho g h 0).int 37 = h.i7 ∧ (arho g h 0).int 8 = g.i8 ∧ (arho g h 0).int 38 = h.i8 ∧ (arho g h 0).int 9 = g.i9 ∧ (arho g h 0).int 39 = h.i9 ∧ (arho g h 0).int 10 = g.i10 ∧ (arho g h 0).int 40 = h.i10 := ⟨rfl, rfl, rfl, rfl, rfl, rfl, rfl, rfl, rfl, rfl, rfl, rfl⟩
    obtain ⟨a1, a2, a3, a4, a5, a6, a7, a8, a9, a10, a11, a12, a13, a14⟩ := f1
    obtain ⟨b1, b2, b3, b4, b5, b6, b7, b8, b9, b10, b11, b12⟩ := f2
    show valX alt0 _ = _
    simp only [alt0, valX]
    rw [a1, a2, a3, a4, a5, a6, a7, a8, a9, a10, a11, a12, a13, a14, b1, b2, b3, b4, b5, b6, b7, b8, b9, b10, b11, b12]
    by_cases c1 : g.k < h.k
    · rw [if_pos c1]
    rw [if_neg c1]
    by_cases c2 : h.k < g.k
    · rw [if_pos c2]
    rw [if_neg c2]
    by_cases c3 : g.a < h.a
    · rw [if_pos c3]
    rw [if_neg c3]
    by_cases c4 : h.a < g.a
    · rw [if_pos c4]
    rw [if_neg c4]
    by_cases c5 : g.b < h.b
    · rw [if_pos c5]
    rw [if_neg c5]
    by_cases c6 : h.b < g.b
    · rw [if_pos c6]
    rw [if_neg c6]
    by_cases c7 : g.n < h.n
    · rw [if_pos c7]
    rw [if_neg c7]
    by_cases c8 : h.n < g.n
    · rw [if_pos c8]
    rw [if_neg c8]
    by_cases c9 : g.m < h.m
    · rw [if_pos c9]
    rw [if_neg c9]
    by_cases c10 : h.m < g.m
    · rw [if_pos c10]
    rw [if_neg c10]
    by_cases c11 : (g.l.length : Int) < (h.l.length : Int)
    · rw [if_pos c11]
    rw [if_neg c11]
    by_cases c12 : (h.l.length : Int) < (g.l.length : Int)
    · rw [if_pos c12]
    rw [if_neg c12]
    by_cases c13 : (g.t.length : Int) < (h.t.length : Int)
    · rw [if_pos c13]
    rw [if_neg c13]
    by_cases c14 : (h.t.length : Int) < (g.t.length : Int)
    · rw [if_pos c14]
    rw [if_neg c14]
    by_cases c15 : g.i5 < h.i5
    · rw [if_pos c15]
    rw [if_neg c15]
    by_cases c16 : h.i5 < g.i5
    · rw [if_pos c16]
    rw [if_neg c16]
    by_cases c17 : g.i6 < h.i6
    · rw [if_pos c17]
    rw [if_neg c17]
    by_cases c18 : h.i6 < g.i6
    · rw [if_pos c18]
    rw [if_neg c18]
    by_cases c19 : g.i7 < h.i7
    · rw [if_pos c19]
    rw [if_neg c19]
    by_cases c20 : h.i7 < g.i7
    · rw [if_pos c20]
    rw [if_neg c20]
    by_cases c21 : g.i8 < h.i8
    · rw [if_pos c21]
    rw [if_neg c21]
    by_cases c22 : h.i8 < g.i8
    · rw [if_pos c22]
    rw [if_neg c22]
    by_cases c23 : g.i9 < h.i9
    · rw [if_pos c23]
    rw [if_neg c23]
    by_cases c24 : h.i9 < g.i9
    · rw [if_pos c24]
    rw [if_neg c24]
    by_cases c25 : g.i10 < h.i10
    · rw [if_pos c25]
    rw [if_neg c25]
    by_cases c26 : h.i10 < g.i10
    · rw [if_pos c26]
    rw [if_neg c26]
    exfalso
    exact hs ⟨by omega, by omega, by omega, by omega, by omega, by omega, by omega, by omega, by omega, by omega, by omega, by omega, by omega⟩
theorem alikeC (hg : g.OK w) (hh : h.OK w) : Calls Tryd.prog 14 #[g.val, h.val] w fun e w' => e = .returned (.bool (alikeB g h)) ∧ Below w.heap.size w w' := by
  letI : Ext := extKA Tryd.prog alKT alK2
  obtain ⟨k, hk⟩ := arun0 (w := w) hg hh
  refine auto_callsP alauto Tryd.func14 (by kernel_rfl) (args := [evV (si 24), evB]) (by kernel_rfl) (c := alc0) rfl rfl rfl rfl rfl (fun r b h => by cases h) ?_ hk
  simp only [VRs, VR, evV, evB, si]
  refine ⟨_, _, rfl, ⟨[.int .i64 g.k, .int .i64 g.a, .int .i64 g.b, .int .i64 g.n, .int .i64 g.m, .slice g.oa g.l.length g.ca, .int .i64 g.i5, .int .i64 g.i6, .int .i64 g.i7, .int .i64 g.i8, .int .i64 g.i9, .int .i64 g.i10, .slice g.ob g.t.length g.cb], ?_, rfl⟩, _, [], rfl, ⟨[.int .i64 h.k, .int .i64 h.a, .int .i64 h.b, .int .i64 h.n, .int .i64 h.m, .slice h.oa h.l.length h.ca, .int .i64 h.i5, .int .i64 h.i6, .int .i64 h.i7, .int .i64 h.i8, .int .i64 h.i9, .int .i64 h.i10, .slice h.ob h.t.length h.cb], ?_, rfl⟩, rfl⟩
  · exact ⟨_, _, rfl, rfl, _, _, rfl, rfl, _, _, rfl, rfl, _, _, rfl, rfl, _, _, rfl, rfl, _, _, rfl, rfl, _, _, rfl, rfl, _, _, rfl, rfl, _, _, rfl, rfl, _, _, rfl, rfl, _, _, rfl, rfl, _, _, rfl, rfl, _, _, rfl, rfl, rfl⟩
  · exact ⟨_, _, rfl, rfl, _, _, rfl, rfl, _, _, rfl, rfl, _, _, rfl, rfl, _, _, rfl, rfl, _, _, rfl, rfl, _, _, rfl, rfl, _, _, rfl, rfl, _, _, rfl, rfl, _, _, rfl, rfl, _, _, rfl, rfl, _, _, rfl, rfl, _, _, rfl, rfl, rfl⟩
end
end
end Go.Proofs.YtjfbakhebdhbmaaDoor.event
