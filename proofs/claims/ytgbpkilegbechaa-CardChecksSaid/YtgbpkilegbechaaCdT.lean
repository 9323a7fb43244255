/-
  Contracts of the functions that tell which cards may be: the program's and the document's tell the same number.
-/
import Derived.Test.YtgbpkilegbechaaCdS
namespace Go.Proofs.Ytgbpkilegbechaa.cards
open Go.Ev Go.RowKit
set_option linter.unusedVariables false
noncomputable section
structure Ab where
  kind : Int
  event : Int
  who : Int
  c0 : Int
  c1 : Int
  c2 : Int
  c3 : Int
  tap : Bool
  tg : List Int
  code : List Ins
  op : Int
  a : Int
  b : Int
def Ab.zero : Ab := ⟨0, 0, 0, 0, 0, 0, 0, false, [], [], 0, 0, 0⟩
structure Ab.Fits (x : Ab) : Prop where
  ints : ∀ z ∈ [x.kind, x.event, x.who, x.c0, x.c1, x.c2, x.c3, x.op, x.a, x.b], I64 z
  tg : ∀ z ∈ x.tg, I64 z
  tl : (x.tg.length : Int) ≤ 9223372036854775807
  cl : (x.code.length : Int) ≤ 9223372036854775807
/-- A card, and where it lies. -/
structure Cx where
  name : ByteArray
  kind : Int
  c0 : Int
  c1 : Int
  c2 : Int
  c3 : Int
  color : Int
  power : Int
  tough : Int
  keys : Int
  abs : List Ab
  oa : Option Addr
  cap : Nat
  B : Nat
  O : Nat
  ta : Nat → Option Addr
  tc : Nat → Nat
  tB : Nat → Nat
  tO : Nat → Nat
  ca : Nat → Option Addr
  cc : Nat → Nat
  cB : Nat → Nat
  cO : Nat → Nat
def Cx.ab (D : Cx) (i : Nat) : Ab := D.abs.getD i Ab.zero
def Cx.v (D : Cx) (n : Int) (i : Nat) : Nat → Int
  | 0 => n
  | 1 => D.kind
  | 2 => D.c0
  | 3 => D.c1
  | 4 => D.c2
  | 5 => D.c3
  | 6 => D.color
  | 7 => D.power
  | 8 => D.tough
  | 9 => D.keys
  | 10 => D.name.size
  | 11 => D.abs.length
  | 12 => i
  | 13 => if i < D.abs.length then i + 1 else 1
  | 14 => (D.ab i).kind
  | 15 => (D.ab i).event
  | 16 => (D.ab i).who
  | 17 => (D.ab i).c0
  | 18 => (D.ab i).c1
  | 19 => (D.ab i).c2
  | 20 => (D.ab i).c3
  | 21 => if (D.ab i).tap = true then 1 else 0
  | 22 => (D.ab i).tg.length
  | 23 => (D.ab i).code.length
  | 24 => (D.ab i).op
  | 25 => (D.ab i).a
  | 26 => (D.ab i).b
  | 27 => (D.ab i).tg.getD 0 0
  | 28 => (D.ab i).tg.getD 1 0
  | 29 => spec4 ((D.ab i).tg.length : Int) n (D.ab i).code
  | _ => 0
def Cx.vals (D : Cx) (i : Nat) : Nat → Value
  | 0 => .string D.name
  | 1 => .slice D.oa D.abs.length D.cap
  | 32 => .slice (D.ta i) (D.ab i).tg.length (D.tc i)
  | 33 => .slice (D.ca i) (D.ab i).code.length (D.cc i)
  | _ => .slice none 0 0
def Cx.rho (D : Cx) (n : Int) (i : Nat) : Rho :=
  ⟨D.v n i, D.vals i, fun k => if k = 30 then D.B else if k = 31 then D.tB i else 0, fun k => if k = 30 then D.O + i * 13 else if k = 31 then D.tO i else 0,
    fun k => by
      unfold Cx.vals
      split <;> rfl⟩
/-- What an ability's cells hold. -/
def Cx.cells (D : Cx) (i : Nat) : List Value := [.int .i64 (D.ab i).kind, .int .i64 (D.ab i).event, .int .i64 (D.ab i).who, .int .i64 (D.ab i).c0, .int .i64 (D.ab i).c1, .int .i64 (D.ab i).c2, .int .i64 (D.ab i).c3, .bool (D.ab i).tap,
  .slice (D.ta i) (D.ab i).tg.length (D.tc i), .slice (D.ca i) (D.ab i).code.length (D.cc i), .int .i64 (D.ab i).op, .int .i64 (D.ab i).a, .int .i64 (D.ab i).b]
structure Cx.OK (D : Cx) (w : World) : Prop where
  cells : ∀ i, i < D.abs.length → D.oa = some ⟨D.B, D.O, none⟩ ∧ D.B < w.heap.size ∧ ∀ j v, (D.cells i)[j]? = some v → w.cell? ⟨D.B, D.O + i * 13 + j, none⟩ = some v
  tgs : ∀ i j, i < D.abs.length → j < (D.ab i).tg.length → D.ta i = some ⟨D.tB i, D.tO i, none⟩ ∧ D.tB i < w.heap.size ∧ w.cell? ⟨D.tB i, D.tO i + j, none⟩ = some (.int .i64 ((D.ab i).tg.getD j 0))
  codes : ∀ i, i < D.abs.length → Lst w (D.ca i) (D.cB i) (D.cO i) (D.ab i).code
  ints : ∀ z ∈ [D.kind, D.c0, D.c1, D.c2, D.c3, D.color, D.power, D.tough, D.keys], I64 z
  nm : (D.name.size : Int) ≤ 9223372036854775807
  len : (D.abs.length : Int) ≤ 9223372036854775807
  abf : ∀ x ∈ D.abs, x.Fits
/-- The card as a value. -/
def Cx.val (D : Cx) : Value := .agg ⟨[.string D.name, .int .i64 D.kind, .int .i64 D.c0, .int .i64 D.c1, .int .i64 D.c2, .int .i64 D.c3, .int .i64 D.color, .int .i64 D.power, .int .i64 D.tough, .int .i64 D.keys, .slice D.oa D.abs.length D.cap]⟩
theorem zero_fits : Ab.zero.Fits := ⟨by intro z hz; simp [Ab.zero] at hz; subst hz; exact i64_0, (fun z hz => by cases hz), by decide, by decide⟩
theorem Lst.later {w w' : World} {oa : Option Addr} {B O : Nat} {xs : List Ins} (h : Lst w oa B O xs) (hs : w.heap.size ≤ w'.heap.size) (ho : ∀ k, k < w.heap.size → w'.heap[k]? = w.heap[k]?) : Lst w' oa B O xs := by
  refine ⟨fun i x hi => ?_, h.fits⟩
  obtain ⟨g1, g2, g3, g4, g5⟩ := h.cells i x hi
  have e : ∀ o, w'.cell? ⟨B, o, none⟩ = w.cell? ⟨B, o, none⟩ := fun o => by simp only [World.cell?, ho B g2]
  exact ⟨g1, Nat.lt_of_lt_of_le g2 hs, by rw [e]; exact g3, by rw [e]; exact g4, by rw [e]; exact g5⟩
section
variable {D : Cx} {w : World} {n : Int} {i : Nat}
theorem Cx.OK.later {w' : World} (h : D.OK w) (hs : w.heap.size ≤ w'.heap.size) (ho : ∀ k, k < w.heap.size → w'.heap[k]? = w.heap[k]?) : D.OK w' := by
  refine ⟨fun i hi => ?_, fun i j hi hj => ?_, fun i hi => (h.codes i hi).later hs ho, h.ints, h.nm, h.len, h.abf⟩
  · obtain ⟨g1, g2, g3⟩ := h.cells i hi
    have e : ∀ o, w'.cell? ⟨D.B, o, none⟩ = w.cell? ⟨D.B, o, none⟩ := fun o => by simp only [World.cell?, ho D.B g2]
    exact ⟨g1, Nat.lt_of_lt_of_le g2 hs, fun j v hv => by rw [e]; exact g3 j v hv⟩
  · obtain ⟨g1, g2, g3⟩ := h.tgs i j hi hj
    have e : ∀ o, w'.cell? ⟨D.tB i, o, none⟩ = w.cell? ⟨D.tB i, o, none⟩ := fun o => by simp only [World.cell?, ho _ g2]
    exact ⟨g1, Nat.lt_of_lt_of_le g2 hs, by rw [e]; exact g3⟩
theorem Cx.OK.fit (h : D.OK w) (i : Nat) : (D.ab i).Fits := by
  unfold Cx.ab
  by_cases hi : i < D.abs.length
  · exact h.abf _ (List.mem_of_getElem? (at_of hi))
  · have e : D.abs.getD i Ab.zero = Ab.zero := by simp [List.getD_eq_getElem?_getD, List.getElem?_eq_none (by omega : D.abs.length ≤ i)]
    rw [e]
    exact zero_fits
theorem Cx.OK.code (h : D.OK w) (i : Nat) : Lst w (D.ca i) (D.cB i) (D.cO i) (D.ab i).code := by
  by_cases hi : i < D.abs.length
  · exact h.codes i hi
  · have e : (D.ab i).code = [] := by
      unfold Cx.ab
      simp [List.getD_eq_getElem?_getD, List.getElem?_eq_none (by omega : D.abs.length ≤ i), Ab.zero]
    rw [e]
    exact ⟨fun i x hx => by simp at hx, fun x hx => by cases hx⟩
theorem getD_fits {l : List Int} (h : ∀ z ∈ l, I64 z) (j : Nat) : I64 (l.getD j 0) := by
  by_cases hj : j < l.length
  · exact h _ (List.mem_of_getElem? (at_of hj))
  · rw [show l.getD j 0 = 0 by simp [List.getD_eq_getElem?_getD, List.getElem?_eq_none (by omega : l.length ≤ j)]]
    exact i64_0
theorem v_fits (h : D.OK w) (hn : I64 n) (hi : i ≤ D.abs.length) : ∀ k, I64 (D.v n i k) := fun k => by
  have f := h.fit i
  have hl := h.len
  have h1 := h.ints
  have h2 := f.ints
  match k with
  | 0 => exact hn
  | 1 => exact h1 D.kind (by simp)
  | 2 => exact h1 D.c0 (by simp)
  | 3 => exact h1 D.c1 (by simp)
  | 4 => exact h1 D.c2 (by simp)
  | 5 => exact h1 D.c3 (by simp)
  | 6 => exact h1 D.color (by simp)
  | 7 => exact h1 D.power (by simp)
  | 8 => exact h1 D.tough (by simp)
  | 9 => exact h1 D.keys (by simp)
  | 10 => exact i64_n h.nm
  | 11 => exact i64_n (by omega)
  | 12 => exact i64_n (by omega)
  | 13 => exact ⟨by show _ ≤ (if i < D.abs.length then (i : Int) + 1 else 1); split <;> omega, by show (if i < D.abs.length then (i : Int) + 1 else 1) ≤ _; split <;> omega⟩
  | 14 => exact h2 (D.ab i).kind (by simp)
  | 15 => exact h2 (D.ab i).event (by simp)
  | 16 => exact h2 (D.ab i).who (by simp)
  | 17 => exact h2 (D.ab i).c0 (by simp)
  | 18 => exact h2 (D.ab i).c1 (by simp)
  | 19 => exact h2 (D.ab i).c2 (by simp)
  | 20 => exact h2 (D.ab i).c3 (by simp)
  | 21 => show I64 (if (D.ab i).tap = true then 1 else 0); split <;> exact ⟨by decide, by decide⟩
  | 22 => exact i64_n (by have := f.tl; omega)
  | 23 => exact i64_n (by have := f.cl; omega)
  | 24 => exact h2 (D.ab i).op (by simp)
  | 25 => exact h2 (D.ab i).a (by simp)
  | 26 => exact h2 (D.ab i).b (by simp)
  | 27 => exact getD_fits f.tg 0
  | 28 => exact getD_fits f.tg 1
  | 29 => have := @spec4_in ((D.ab i).tg.length : Int) n (D.ab i).code; exact ⟨by show _ ≤ spec4 _ _ _; omega, by show spec4 _ _ _ ≤ _; omega⟩
  | k + 30 => exact i64_0
theorem ivE_ok (h : D.OK w) (hn : I64 n) (hi : i ≤ D.abs.length) : IvOK vdiv0 (D.rho n i) := by
  have f := v_fits h hn hi
  have h10 := h.nm
  exact iv_all (f := D.v n i) ⟨f 0, f 1, f 2, f 3, f 4, f 5, f 6, f 7, f 8, f 9, ⟨by show (0 : Int) ≤ (D.name.size : Int); omega, (f 10).2⟩, ⟨by show (0 : Int) ≤ (D.abs.length : Int); omega, (f 11).2⟩, trivial⟩ f
theorem tap_in : (0 : Int) ≤ (if (D.ab i).tap = true then 1 else 0) ∧ (if (D.ab i).tap = true then (1 : Int) else 0) ≤ 1 := by split <;> decide
theorem ivW_ok (h : D.OK w) (hn : I64 n) (hi : i ≤ D.abs.length) : IvOK cliv1 (D.rho n i) := by
  have f := v_fits h hn hi
  have h29 := @spec4_in ((D.ab i).tg.length : Int) n (D.ab i).code
  exact iv_all (f := D.v n i) ⟨f 0, f 1, f 2, f 3, f 4, f 5, f 6, f 7, f 8, f 9, ⟨by show (0 : Int) ≤ (D.name.size : Int); omega, (f 10).2⟩, ⟨by show (0 : Int) ≤ (D.abs.length : Int); omega, (f 11).2⟩, ⟨by show (0 : Int) ≤ (i : Int); omega, (f 12).2⟩, f 13, f 14, f 15, f 16, f 17, f 18, f 19, f 20, tap_in,
    ⟨by show (0 : Int) ≤ ((D.ab i).tg.length : Int); omega, (f 22).2⟩, ⟨by show (0 : Int) ≤ ((D.ab i).code.length : Int); omega, (f 23).2⟩, f 24, f 25, f 26, f 27, f 28, h29, trivial⟩ f
theorem ivN_ok (h : D.OK w) (hn : I64 n) (hi : i ≤ D.abs.length) (ht : (D.ab i).tg.length ≤ 2) (hc : (D.ab i).code.length ≤ 32) : IvOK vdiv1 (D.rho n i) := by
  have f := v_fits h hn hi
  have h29 := @spec4_in ((D.ab i).tg.length : Int) n (D.ab i).code
  exact iv_all (f := D.v n i) ⟨f 0, f 1, f 2, f 3, f 4, f 5, f 6, f 7, f 8, f 9, ⟨by show (0 : Int) ≤ (D.name.size : Int); omega, (f 10).2⟩, ⟨by show (0 : Int) ≤ (D.abs.length : Int); omega, (f 11).2⟩, ⟨by show (0 : Int) ≤ (i : Int); omega, (f 12).2⟩, f 13, f 14, f 15, f 16, f 17, f 18, f 19, f 20, tap_in,
    ⟨by show (0 : Int) ≤ ((D.ab i).tg.length : Int); omega, by show ((D.ab i).tg.length : Int) ≤ 2; omega⟩, ⟨by show (0 : Int) ≤ ((D.ab i).code.length : Int); omega, by show ((D.ab i).code.length : Int) ≤ 32; omega⟩, f 24, f 25, f 26, f 27, f 28, h29, trivial⟩ f
theorem baseF_ok : FsOK baseF (D.rho n i) := fs_cons ⟨.string D.name, D.name.size, rfl, ⟨_, rfl, rfl⟩, rfl⟩ (fs_cons (fact_len rfl rfl) fs_nil)
theorem eent_ok {x : List Fact} (hx : FsOK x (D.rho n i)) {iv : Ivs} {fs : List Fact} (h1 : IvOK iv (D.rho n i)) (h2 : FsOK fs (D.rho n i)) (φ : Phi) (hφ : φ.ρ = D.rho n i) : EnvP (Eent x iv fs) φ w :=
  ⟨by rw [hφ]; exact h1, by rw [hφ]; exact fs_app h2 (fs_app hx baseF_ok), fun k cs h => by cases h⟩
theorem isAt_le {iv : Ivs} {k : Nat} {z : Int} {ρ : Rho} (h : isAt iv k z = true) (h1 : IvOK iv ρ) : z ≤ ρ.int k := by
  have := of_decide_eq_true h
  have := (h1 k).1
  omega
theorem tgF_ok (h : D.OK w) (hi : i < D.abs.length) {iv : Ivs} (h1 : IvOK iv (D.rho n i)) : FsOK (tgF iv) (D.rho n i) := by
  have at_ : ∀ j : Nat, (j : Int) + 1 ≤ ((D.ab i).tg.length : Int) → FactOK (D.rho n i) (.at 1 (.sym 32) (.int .i64 (j : Int)) ⟨.sym 31, j⟩) := fun j hj => by
    obtain ⟨g1, g2, g3⟩ := h.tgs i j hi (by omega)
    refine ⟨⟨D.tB i, D.tO i, none⟩, (D.ab i).tg.length, D.tc i, .i64, j, 31, ?_, rfl, rfl, by omega, by omega, rfl, rfl, ?_⟩
    · show some (Value.slice (D.ta i) _ _) = _
      rw [g1]
    · show D.tO i + j = D.tO i + (j : Int).toNat * 1
      simp
  unfold tgF
  refine fs_app ?_ ?_
  · split
    · rename_i hh
      have := isAt_le hh h1
      exact fs_cons (at_ 0 (by show (0 : Int) + 1 ≤ _; exact this)) fs_nil
    · exact fs_nil
  · split
    · rename_i hh
      have := isAt_le hh h1
      exact fs_cons (at_ 1 (by show (1 : Int) + 1 ≤ _; exact this)) fs_nil
    · exact fs_nil
theorem tapV_ok {iv : Ivs} {φ : Phi} (hφ : φ.ρ = D.rho n i) (h1 : IvOK iv (D.rho n i)) : VR φ (tapV iv) (.bool (D.ab i).tap) := by
  have e : (D.rho n i).int 21 = if (D.ab i).tap = true then 1 else 0 := rfl
  have h21 := h1 21
  rw [e] at h21
  unfold tapV
  cases e1 : isAt iv 21 1 with
  | true =>
    have := isAt_le e1 h1
    rw [e] at this
    cases ht : (D.ab i).tap with
    | true => simp only [VR]
    | false => rw [ht] at this; simp at this
  | false => cases e2 : decide ((ivAt iv 21).2 ≤ 0) with
    | true =>
      have := of_decide_eq_true e2
      cases ht : (D.ab i).tap with
      | true => rw [ht] at h21; simp at h21; omega
      | false => simp only [VR]
    | false =>
      simp only [VR]
      rfl
theorem eloop_ok (h : D.OK w) {x : List Fact} (hx : FsOK x (D.rho n i)) {iv : Ivs} {fs : List Fact} (h1 : IvOK iv (D.rho n i)) (h2 : FsOK fs (D.rho n i)) (φ : Phi) (hφ : φ.ρ = D.rho n i) : EnvP (Eloop x iv fs) φ w := by
  unfold Eloop
  split
  · rename_i hh
    have hi : (i : Int) < (D.abs.length : Int) := hasLss_lt w hh h2
    have hl := h.len
    obtain ⟨g1, g2, g3⟩ := h.cells i (by omega)
    refine ⟨by rw [hφ]; exact h1, by
      rw [hφ]
      refine fs_app h2 (fs_app hx (fs_app baseF_ok (fs_app (fs_cons ?_ (fs_cons ?_ (fs_cons (fact_len rfl rfl) (fs_cons (fact_len rfl rfl) fs_nil)))) (tgF_ok h (by omega) h1))))
      · refine fact_at (n := i) (B := D.B) (O := D.O) (l := D.abs.length) (c := D.cap) ?_ rfl (by omega) rfl rfl
        show some (Value.slice D.oa D.abs.length D.cap) = _
        rw [g1]
      · have e13 : D.v n i 13 = (i : Int) + 1 := by show (if i < D.abs.length then (i : Int) + 1 else 1) = _; rw [if_pos (by omega)]
        exact fact_add e13 (show -9223372036854775808 ≤ D.v n i 13 by rw [e13]; omega) (show D.v n i 13 ≤ 9223372036854775807 by rw [e13]; omega), fun k cs hk => ?_⟩
    simp only at hk
    split at hk
    · rename_i hb
      have e := Nat.eq_of_beq_eq_true hb
      subst e
      obtain rfl := (Option.some.inj hk).symm
      have eb : φ.ρ.blk 30 = D.B := by rw [hφ]; rfl
      have eo : φ.ρ.off 30 = D.O + i * 13 := by rw [hφ]; rfl
      rw [eb, eo]
      refine ⟨g2, fun j x hx => ?_⟩
      have v14 : VR φ (sv iv .i64 14) (.int .i64 (D.ab i).kind) := by have := VR_sv (φ := φ) (iv := iv) (by rw [hφ]; exact h1) .i64 14; rw [hφ] at this; exact this
      have c := g3 j
      match j with
      | 0 => cases hx; exact ⟨_, c _ rfl, v14⟩
      | 1 => cases hx; exact ⟨_, c _ rfl, by simp only [si, VR, hφ]; rfl⟩
      | 2 => cases hx; exact ⟨_, c _ rfl, by simp only [si, VR, hφ]; rfl⟩
      | 3 => cases hx; exact ⟨_, c _ rfl, by simp only [si, VR, hφ]; rfl⟩
      | 4 => cases hx; exact ⟨_, c _ rfl, by simp only [si, VR, hφ]; rfl⟩
      | 5 => cases hx; exact ⟨_, c _ rfl, by simp only [si, VR, hφ]; rfl⟩
      | 6 => cases hx; exact ⟨_, c _ rfl, by simp only [si, VR, hφ]; rfl⟩
      | 7 => cases hx; exact ⟨_, c _ rfl, tapV_ok hφ h1⟩
      | 8 => cases hx; exact ⟨_, c _ rfl, by simp only [VR, hφ]; rfl⟩
      | 9 => cases hx; exact ⟨_, c _ rfl, by simp only [VR, hφ]; rfl⟩
      | 10 => cases hx; exact ⟨_, c _ rfl, by simp only [si, VR, hφ]; rfl⟩
      | 11 => cases hx; exact ⟨_, c _ rfl, by simp only [si, VR, hφ]; rfl⟩
      | 12 => cases hx; exact ⟨_, c _ rfl, by simp only [si, VR, hφ]; rfl⟩
      | j + 13 => simp [cellsA] at hx
    · split at hk
      · rename_i hb h22
        have e := Nat.eq_of_beq_eq_true hb
        subst e
        obtain rfl := (Option.some.inj hk).symm
        have eb : φ.ρ.blk 31 = D.tB i := by rw [hφ]; rfl
        have eo : φ.ρ.off 31 = D.tO i := by rw [hφ]; rfl
        rw [eb, eo]
        have l1 : (1 : Int) ≤ ((D.ab i).tg.length : Int) := isAt_le h22 h1
        obtain ⟨t1, t2, t3⟩ := h.tgs i 0 (by omega) (by omega)
        refine ⟨t2, fun j x hx => ?_⟩
        match j with
        | 0 =>
          have : x = si 27 := by
            split at hx <;> cases hx <;> rfl
          subst this
          exact ⟨_, t3, by simp only [si, VR, hφ]; rfl⟩
        | 1 =>
          split at hx
          · rename_i h2
            cases hx
            have l2 : (2 : Int) ≤ ((D.ab i).tg.length : Int) := isAt_le h2 h1
            obtain ⟨_, _, u3⟩ := h.tgs i 1 (by omega) (by omega)
            exact ⟨_, u3, by simp only [si, VR, hφ]; rfl⟩
          · simp at hx
        | j + 2 => split at hx <;> simp at hx
      · cases hk
  · exact eent_ok hx h1 h2 φ hφ
end
end
end Go.Proofs.Ytgbpkilegbechaa.cards
