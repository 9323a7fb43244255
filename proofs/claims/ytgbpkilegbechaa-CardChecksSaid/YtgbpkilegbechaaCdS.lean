/-
  Contracts: which codes and which cards may be, as the program's functions and the document's tell it.
-/
import Derived.Test.YtgbpkilegbechaaCdA
import Derived.Test.YtgbpkilegbechaaEv4
namespace Go.Proofs.Ytgbpkilegbechaa.cards
open Go.Ev Go.RowKit
set_option linter.unusedVariables false
noncomputable section
abbrev Ins := Int × Int × Int
def I64 (x : Int) : Prop := -9223372036854775808 ≤ x ∧ x ≤ 9223372036854775807
theorem i64_0 : I64 0 := ⟨by decide, by decide⟩
theorem i64_n {n : Nat} (h : (n : Int) ≤ 9223372036854775807) : I64 (n : Int) := ⟨by omega, h⟩
/-- A slice that holds these instructions. -/
structure Lst (w : World) (oa : Option Addr) (B O : Nat) (xs : List Ins) : Prop where
  cells : ∀ (i : Nat) (x : Ins), xs[i]? = some x → oa = some ⟨B, O, none⟩ ∧ B < w.heap.size ∧ w.cell? ⟨B, O + i * 3, none⟩ = some (.int .i64 x.1) ∧ w.cell? ⟨B, O + i * 3 + 1, none⟩ = some (.int .i64 x.2.1) ∧ w.cell? ⟨B, O + i * 3 + 2, none⟩ = some (.int .i64 x.2.2)
  fits : ∀ x ∈ xs, I64 x.1 ∧ I64 x.2.1 ∧ I64 x.2.2
theorem at_of {α : Type} {xs : List α} {i : Nat} {d : α} (h : i < xs.length) : xs[i]? = some (xs.getD i d) := by
  simp [List.getD_eq_getElem?_getD, h]
theorem Lst.fit {w : World} {oa : Option Addr} {B O : Nat} {xs : List Ins} (h : Lst w oa B O xs) (i : Nat) : I64 (xs.getD i (0, 0, 0)).1 ∧ I64 (xs.getD i (0, 0, 0)).2.1 ∧ I64 (xs.getD i (0, 0, 0)).2.2 := by
  by_cases hi : i < xs.length
  · exact h.fits _ (List.mem_of_getElem? (at_of hi))
  · have e : xs.getD i (0, 0, 0) = (0, 0, 0) := by simp [List.getD_eq_getElem?_getD, List.getElem?_eq_none (by omega : xs.length ≤ i)]
    rw [e]
    exact ⟨i64_0, i64_0, i64_0⟩
/-! ### codes -/
def cval (t c : Int) (xs : List Ins) (i : Nat) : Nat → Int
  | 0 => t
  | 1 => c
  | 2 => xs.length
  | 3 => i
  | 4 => if i < xs.length then i + 1 else 1
  | 6 => (xs.getD i (0, 0, 0)).1
  | 7 => (xs.getD i (0, 0, 0)).2.1
  | 8 => (xs.getD i (0, 0, 0)).2.2
  | _ => 0
def crho (oa : Option Addr) (cap B O : Nat) (t c : Int) (xs : List Ins) (i : Nat) : Rho :=
  ⟨cval t c xs i, fun _ => .slice oa xs.length cap, fun _ => B, fun k => if k = 5 then O + i * 3 else 0, fun _ => rfl⟩
section
variable {w : World} {oa : Option Addr} {cap B O : Nat} {t c : Int} {xs : List Ins} {i : Nat}
theorem cval_fits (hL : Lst w oa B O xs) (ht : I64 t) (hc : I64 c) (hn : (xs.length : Int) ≤ 9223372036854775807) (hi : i ≤ xs.length) : ∀ k, I64 (cval t c xs i k) := fun k => by
  obtain ⟨f1, f2, f3⟩ := hL.fit i
  match k with
  | 0 => exact ht
  | 1 => exact hc
  | 2 => exact i64_n (by omega)
  | 3 => exact i64_n (by omega)
  | 4 => exact ⟨by show _ ≤ (if i < xs.length then (i : Int) + 1 else 1); split <;> omega, by show (if i < xs.length then (i : Int) + 1 else 1) ≤ _; split <;> omega⟩
  | 5 => exact i64_0
  | 6 => exact f1
  | 7 => exact f2
  | 8 => exact f3
  | k + 9 => exact i64_0
theorem civ0 (hL : Lst w oa B O xs) (ht : I64 t) (hc : I64 c) (hn : (xs.length : Int) ≤ 9223372036854775807) (hi : i ≤ xs.length) : IvOK [(-9223372036854775808, 9223372036854775807), (-9223372036854775808, 9223372036854775807), (0, 9223372036854775807)] (crho oa cap B O t c xs i) :=
  iv_all (f := cval t c xs i) ⟨ht, hc, ⟨by show (0 : Int) ≤ (xs.length : Int); omega, by show (xs.length : Int) ≤ _; omega⟩, trivial⟩ (cval_fits hL ht hc hn hi)
/-- Inside the bounds of the loops. -/
structure In4 (t c : Int) (xs : List Ins) : Prop where
  t0 : 0 ≤ t
  t2 : t ≤ 2
  c0 : 0 ≤ c
  c40 : c ≤ 40
  n32 : xs.length ≤ 32
theorem civ1 (hL : Lst w oa B O xs) (hin : In4 t c xs) (hi : i ≤ xs.length) : IvOK [(0, 2), (0, 40), (0, 32), (0, 32), (1, 33), (-9223372036854775808, 9223372036854775807), (-9223372036854775808, 9223372036854775807), (-9223372036854775808, 9223372036854775807), (-9223372036854775808, 9223372036854775807)] (crho oa cap B O t c xs i) := by
  obtain ⟨h1, h2, h3, h4, h5⟩ := hin
  have f := cval_fits hL (t := t) (c := c) ⟨by omega, by omega⟩ ⟨by omega, by omega⟩ (by omega) hi
  exact iv_all (f := cval t c xs i) ⟨⟨h1, h2⟩, ⟨h3, h4⟩, ⟨by show (0 : Int) ≤ (xs.length : Int); omega, by show (xs.length : Int) ≤ _; omega⟩, ⟨by show 0 ≤ (i : Int); omega, by show (i : Int) ≤ _; omega⟩, ⟨by show 1 ≤ (if i < xs.length then (i : Int) + 1 else 1); split <;> omega, by show (if i < xs.length then (i : Int) + 1 else 1) ≤ _; split <;> omega⟩, f 5, f 6, f 7, f 8, trivial⟩ f
theorem hasLss_lt (w : World) {fs : List Fact} {a b : Nat} {ρ : Rho} (h : hasLss fs a b = true) (k : FsOK fs ρ) : ρ.int a < ρ.int b := by
  unfold hasLss at h
  rw [List.any_eq_true] at h
  obtain ⟨f, hf, hh⟩ := h
  split at hh
  · rename_i k1 x k2 y
    simp only [Bool.and_eq_true] at hh
    have e1 := Nat.eq_of_beq_eq_true hh.1
    have e2 := Nat.eq_of_beq_eq_true hh.2
    subst e1 e2
    exact lss_of Try.prog w (k _ hf)
  · cases hh
theorem codeF_ok : FsOK codeF (crho oa cap B O t c xs i) := fs_cons (fact_len rfl rfl) fs_nil
theorem kent_ok {iv : Ivs} {fs : List Fact} (h1 : IvOK iv (crho oa cap B O t c xs i)) (h2 : FsOK fs (crho oa cap B O t c xs i)) (φ : Phi) (hφ : φ.ρ = crho oa cap B O t c xs i) : EnvP (Kent iv fs) φ w :=
  ⟨by rw [hφ]; exact h1, by rw [hφ]; exact fs_app h2 codeF_ok, fun k cs h => by cases h⟩
theorem kloop_ok (hL : Lst w oa B O xs) (hn : (xs.length : Int) ≤ 9223372036854775807) {iv : Ivs} {fs : List Fact} (h1 : IvOK iv (crho oa cap B O t c xs i)) (h2 : FsOK fs (crho oa cap B O t c xs i)) (φ : Phi) (hφ : φ.ρ = crho oa cap B O t c xs i) : EnvP (Kloop iv fs) φ w := by
  unfold Kloop
  split
  · rename_i hh
    have hi : (i : Int) < (xs.length : Int) := hasLss_lt w hh h2
    obtain ⟨g1, g2, g3, g4, g5⟩ := hL.cells i _ (at_of (d := (0, 0, 0)) (by omega))
    refine ⟨by rw [hφ]; exact h1, by
      rw [hφ]
      refine fs_app h2 (fs_app codeF_ok (fs_cons ?_ (fs_cons ?_ fs_nil)))
      · refine fact_at (n := i) (B := B) (O := O) (l := xs.length) (c := cap) ?_ rfl (by omega) rfl rfl
        show some (Value.slice oa xs.length cap) = _
        rw [g1]
      · have e4 : cval t c xs i 4 = (i : Int) + 1 := by show (if i < xs.length then (i : Int) + 1 else 1) = _; rw [if_pos (by omega)]
        exact fact_add e4 (show -9223372036854775808 ≤ cval t c xs i 4 by rw [e4]; omega) (show cval t c xs i 4 ≤ 9223372036854775807 by rw [e4]; omega), fun k cs h => ?_⟩
    have hk : k = 5 ∧ cs = [sv iv .i64 6, si 7, si 8] := by
      simp only at h
      split at h
      · rename_i hb
        exact ⟨Nat.eq_of_beq_eq_true hb, (Option.some.inj h).symm⟩
      · cases h
    obtain ⟨rfl, rfl⟩ := hk
    have eb : φ.ρ.blk 5 = B := by rw [hφ]; rfl
    have eo : φ.ρ.off 5 = O + i * 3 := by rw [hφ]; rfl
    have v6 : VR φ (sv iv .i64 6) (.int .i64 (xs.getD i (0, 0, 0)).1) := by have := VR_sv (φ := φ) (iv := iv) (by rw [hφ]; exact h1) .i64 6; rw [hφ] at this; exact this
    rw [eb, eo]
    refine ⟨g2, fun j x hx => ?_⟩
    match j with
    | 0 => cases hx; exact ⟨_, g3, v6⟩
    | 1 => cases hx; exact ⟨_, g4, by simp only [si, VR, hφ]; rfl⟩
    | 2 => cases hx; exact ⟨_, g5, by simp only [si, VR, hφ]; rfl⟩
    | j + 3 => simp at hx
  · exact kent_ok h1 h2 φ hφ
/-- May an instruction be? -/
def goodI (t c : Int) (xs : List Ins) (i : Nat) : Bool := isGo (valX cct1L (cval t c xs i))
/-- Which codes may be: an error's number. -/
def spec4 (t c : Int) (xs : List Ins) : Int := if t < 0 ∨ 2 < t ∨ c < 0 ∨ 40 < c then 2 else if 32 < xs.length then 3 else if allF (goodI t c xs) xs.length 0 = true then 0 else 9
theorem spec4_in : 0 ≤ spec4 t c xs ∧ spec4 t c xs ≤ 1000 := by
  unfold spec4
  repeat' split
  all_goals omega
theorem cct1L_leaf : allL (goOr 1 4 9) cct1L = true := by kernel_rfl
theorem rct1L_leaf : allL (goOr 1 4 9) rct1L = true := by kernel_rfl
theorem rc_same : eqY (fun a b => bEq (isGo a) (isGo b)) rct1L cct1L cciv1 [(3, 2, true)] = true := by kernel_rfl
theorem ccShape : shapeC 2 3 2 4 0 ccC = true := by kernel_rfl
theorem rcShape : shapeC 2 3 2 4 0 rcC = true := by kernel_rfl
theorem same4 (hL : Lst w oa B O xs) (hin : In4 t c xs) (hi : i < xs.length) : isGo (valX rct1L (cval t c xs i)) = goodI t c xs i := by
  have h1 := civ1 (cap := 0) hL hin (i := i) (by omega)
  have hv : VOK cciv1 [(3, 2, true)] (cval t c xs i) := ⟨h1, fun p hp => by
    simp only [List.mem_singleton] at hp
    subst hp
    exact decide_eq_true (show (i : Int) < (xs.length : Int) by omega)⟩
  exact (bEq_eq (eqY_ok (p := fun a b => bEq (isGo a) (isGo b)) rc_same hv)).symm
theorem entry4 (t0 : TrX Leaf) (h : t0 = .cut 0 (-1) (.leaf (.ret (.int .i64 (2)))) (.cut 0 (2) (.cut 1 (-1) (.leaf (.ret (.int .i64 (2)))) (.cut 1 (40) (.cut 2 (32) (.leaf (.goto 1 [(.int .i64 (0))])) (.leaf (.ret (.int .i64 (3))))) (.leaf (.ret (.int .i64 (2)))))) (.leaf (.ret (.int .i64 (2)))))) :
    valX t0 (cval t c xs 0) = if t < 0 ∨ 2 < t ∨ c < 0 ∨ 40 < c then .ret (.int .i64 2) else if 32 < xs.length then .ret (.int .i64 3) else .goto 1 [.int .i64 0] := by
  subst h
  simp only [valX, cval]
  by_cases h1 : t ≤ -1
  · rw [if_pos h1, if_pos (by omega)]
  · rw [if_neg h1]
    by_cases h2 : t ≤ 2
    · rw [if_pos h2]
      by_cases h3 : c ≤ -1
      · rw [if_pos h3, if_pos (by omega)]
      · rw [if_neg h3]
        by_cases h4 : c ≤ 40
        · rw [if_pos h4, if_neg (c := t < 0 ∨ 2 < t ∨ c < 0 ∨ 40 < c) (by omega)]
          by_cases h5 : (xs.length : Int) ≤ 32
          · rw [if_pos h5, if_neg (by omega)]
          · rw [if_neg h5, if_pos (by omega)]
        · rw [if_neg h4, if_pos (by omega)]
    · rw [if_neg h2, if_pos (by omega)]
/-- Both automata tell the specification. -/
theorem rd4 {C : List CutP} {c0 c1 : CutP} {L : TrX Leaf} (hC0 : lget C 0 = some c0) (hC1 : lget C 1 = some c1) (h0 : ∀ t c xs, valX c0.tr (cval t c xs 0) = if t < 0 ∨ 2 < t ∨ c < 0 ∨ 40 < c then .ret (.int .i64 2) else if 32 < xs.length then .ret (.int .i64 3) else .goto 1 [.int .i64 0]) (h1 : c1.tr = .rel .i64 3 2 L (.leaf (.ret (.int .i64 0))))
    (hL : allL (goOr 1 4 9) L = true) (hg : In4 t c xs → ∀ i, i < xs.length → isGo (valX L (cval t c xs i)) = goodI t c xs i) : Rd C (cval t c xs) (fun p _ => p = 0 ∨ In4 t c xs) 0 0 (.int .i64 (spec4 t c xs)) := by
  have e0 := h0 t c xs
  unfold spec4
  by_cases k1 : t < 0 ∨ 2 < t ∨ c < 0 ∨ 40 < c
  · rw [if_pos k1] at e0
    rw [if_pos k1]
    exact .ret hC0 (.inl rfl) e0
  · rw [if_neg k1] at e0
    rw [if_neg k1]
    by_cases k2 : 32 < xs.length
    · rw [if_pos k2] at e0
      rw [if_pos k2]
      exact .ret hC0 (.inl rfl) e0
    · rw [if_neg k2] at e0
      rw [if_neg k2]
      have hin : In4 t c xs := ⟨by omega, by omega, by omega, by omega, by omega⟩
      have s := rd_search (v := cval t c xs) (n := xs.length) (g := goodI t c xs) (rB := .int .i64 9) (rG := .int .i64 0) (I := fun p _ => p = 0 ∨ In4 t c xs) hC1 (j := 4) (k := .i64) (fun i _ => .inr hin) (fun i hi => by
        rw [h1]
        simp only [valX]
        rw [if_pos (show cval t c xs i 3 < cval t c xs i 2 by show (i : Int) < (xs.length : Int); omega)]
        rw [← hg hin i hi]
        exact goOr_ok (allL_ok hL)) (.ret hC1 (.inr hin) (by
        rw [h1]
        simp only [valX]
        rw [if_neg (show ¬ cval t c xs xs.length 3 < cval t c xs xs.length 2 by show ¬ (xs.length : Int) < (xs.length : Int); omega)])) xs.length 0 (by omega)
      refine .zero hC0 (.inl rfl) e0 ?_
      split <;> rename_i hs <;> simp only [hs] at s <;> exact s
theorem cagree (i j : Nat) : agree 3 (crho oa cap B O t c xs i) (crho oa cap B O t c xs j) := fun k hk => by
  match k, hk with
  | 0, _ => exact ⟨rfl, rfl, rfl, rfl⟩
  | 1, _ => exact ⟨rfl, rfl, rfl, rfl⟩
  | 2, _ => exact ⟨rfl, rfl, rfl, rfl⟩
theorem cargs : VRs ⟨fun _ => none, crho oa cap B O t c xs 0⟩ [.sym 0, si 0, si 1] [.slice oa xs.length cap, .int .i64 t, .int .i64 c] := by
  simp only [VRs, VR, si]
  exact ⟨_, _, rfl, rfl, _, _, rfl, rfl, _, _, rfl, rfl, rfl⟩
/-- The program's check of a code. -/
theorem codeC (hL : Lst w oa B O xs) (ht : I64 t) (hc : I64 c) (hn : (xs.length : Int) ≤ 9223372036854775807) :
    Calls Try.prog 38 #[.slice oa xs.length cap, .int .i64 t, .int .i64 c] w fun e w' => e = .returned (.int .i64 (spec4 t c xs)) ∧ Below w.heap.size w w' := by
  refine ix_calls (KT := ccKT) ccauto Try.func38 (by kernel_rfl) (args := [.sym 0, si 0, si 1]) (by kernel_rfl) (c0 := ccc0) rfl rfl (by kernel_rfl) rfl rfl rfl (I := fun p _ => p = 0 ∨ In4 t c xs) (n := xs.length) (rho := crho oa cap B O t c xs) ccShape rfl (fun i => rfl) (fun i => rfl) (fun i hi => if_pos hi)
    (fun p c hp h0 i j => ?_) (fun i hi e he => by cases he) (fun p c hp i hi hI => ?_) (fun ρ => rfl) (rd4 (C := ccC) (c0 := ccc0) (c1 := ccc1) rfl rfl (fun t c xs => entry4 _ rfl) rfl cct1L_leaf (fun _ i _ => rfl)) cargs
  · match p, hp, h0 with
    | 1, hp, _ => cases hp; exact cagree i j
  · match p, hp with
    | 0, hp => cases hp; exact ⟨civ0 hL ht hc hn hi, fun iv fs => kent_ok⟩
    | 1, hp =>
      cases hp
      rcases hI with h | hin
      · cases h
      · exact ⟨civ1 hL hin hi, fun iv fs => kloop_ok hL hn⟩
/-- The document's. -/
theorem codeR (hL : Lst w oa B O xs) (ht : I64 t) (hc : I64 c) (hn : (xs.length : Int) ≤ 9223372036854775807) :
    Calls Try.prog 28 #[.slice oa xs.length cap, .int .i64 t, .int .i64 c] w fun e w' => e = .returned (.int .i64 (spec4 t c xs)) ∧ Below w.heap.size w w' := by
  refine ix_calls (KT := rcKT) rcauto Try.func28 (by kernel_rfl) (args := [.sym 0, si 0, si 1]) (by kernel_rfl) (c0 := rcc0) rfl rfl (by kernel_rfl) rfl rfl rfl (I := fun p _ => p = 0 ∨ In4 t c xs) (n := xs.length) (rho := crho oa cap B O t c xs) rcShape rfl (fun i => rfl) (fun i => rfl) (fun i hi => if_pos hi)
    (fun p c hp h0 i j => ?_) (fun i hi e he => by cases he) (fun p c hp i hi hI => ?_) (fun ρ => rfl) (rd4 (C := rcC) (c0 := rcc0) (c1 := rcc1) rfl rfl (fun t c xs => entry4 _ rfl) rfl rct1L_leaf (fun hin i hi => same4 hL hin hi)) cargs
  · match p, hp, h0 with
    | 1, hp, _ => cases hp; exact cagree i j
  · match p, hp with
    | 0, hp => cases hp; exact ⟨civ0 hL ht hc hn hi, fun iv fs => kent_ok⟩
    | 1, hp =>
      cases hp
      rcases hI with h | hin
      · cases h
      · exact ⟨civ1 hL hin hi, fun iv fs => kloop_ok hL hn⟩
end
end
end Go.Proofs.Ytgbpkilegbechaa.cards
