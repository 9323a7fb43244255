/-
  CharsSplit: the loop that lays the effects.
-/
import Derived.Test.YtgbhmkdldfhamaaTxA
import Derived.Test.YtgbhmkdldfhamaaTxP
namespace Go.Proofs.Ytgbhmkdldfhamaa.split
open Go.Ev Go.RowKit
set_option linter.unusedVariables false
noncomputable section
/-- The law's arguments: numbers in memory, and where they are parted. -/
structure LaIn where
  L : List Int
  oa : Option Addr
  ca : Nat
  B : Nat
  O : Nat
  at_ : Int
structure LaIn.OK (g : LaIn) (w : World) : Prop where
  n : g.L.length ≤ 9223372036854775807
  fit : ∀ x ∈ g.L, 0 ≤ x ∧ x ≤ 65535
  cl : ∀ i x, g.L[i]? = some x → g.oa = some ⟨g.B, g.O, none⟩ ∧ g.B < w.heap.size ∧ w.cell? ⟨g.B, g.O + i, none⟩ = some (.int .u16 x)
  a0 : 0 ≤ g.at_
  a1 : g.at_ ≤ 255
def LaIn.x (g : LaIn) (n : Nat) : Int := g.L.getD n 0
def aOf (x : Int) : Int := if 1 + x % 4 ≤ 2 then x / 16 % 128 else x / 4 % 40 - 20
def effOf (x : Int) (n : Nat) : Eff := ⟨1 + x % 4, aOf x, x / 256 % 40 - 20, n⟩
def dint (x : Int) (k : Nat) : Int :=
  if k = 0 then x else if k = 1 then x % 4 else if k = 3 then 1 + x % 4 else if k = 4 then x / 4 else if k = 5 then x / 4 % 40 else if k = 7 then x / 4 % 40 - 20 else
  if k = 8 then x / 256 else if k = 9 then x / 256 % 40 else if k = 11 then x / 256 % 40 - 20 else if k = 12 then x / 16 else if k = 13 then x / 16 % 128 else 0
def lint (g : LaIn) (es : List Eff) (k : Nat) : Int :=
  if k < 4 then (if k = 1 then g.at_ else if k = 2 then (g.L.length : Int) else 0) else if k < 100 then (es.getD ((k - 4) / 4) eff0).cell ((k - 4) % 4) else dint (g.x es.length) (k - 100)
def lval (g : LaIn) (k : Nat) : Value := match k with
  | 0 => .slice g.oa g.L.length g.ca
  | _ => .bool false
theorem lval_one {g : LaIn} (k : Nat) : (lval g k).oneCell' = true := by
  unfold lval
  split <;> rfl
def lrho (g : LaIn) (es : List Eff) : Rho :=
  ⟨lint g es, lval g, fun _ => g.B, fun k => if k = 90 then g.O + es.length else g.O, lval_one, fun _ => [], fun _ _ h => by cases h⟩
structure LGd (n : Nat) (es : List Eff) : Prop where
  len : es.length = n
  le : n ≤ 20
  eb : ∀ e ∈ es, EB e
  st : ∀ e ∈ es, 0 ≤ e.st ∧ e.st ≤ 20
theorem mod_i {x m : Int} (hm : 0 < m) : 0 ≤ x % m ∧ x % m < m := ⟨Int.emod_nonneg _ (by omega), Int.emod_lt_of_pos _ hm⟩
theorem effOf_eb (x : Int) (n : Nat) : EB (effOf x n) := by
  obtain ⟨a1, a2⟩ := mod_i (x := x) (m := 4) (by omega)
  obtain ⟨b1, b2⟩ := mod_i (x := x / 16) (m := 128) (by omega)
  obtain ⟨c1, c2⟩ := mod_i (x := x / 4) (m := 40) (by omega)
  obtain ⟨d1, d2⟩ := mod_i (x := x / 256) (m := 40) (by omega)
  refine ⟨?_, ?_, ?_, ?_, ?_, ?_, ?_⟩
  · show 1 ≤ 1 + x % 4; omega
  · show 1 + x % 4 ≤ 4; omega
  · show -20 ≤ aOf x
    unfold aOf
    split <;> omega
  · show aOf x ≤ 127
    unfold aOf
    split <;> omega
  · show 3 ≤ 1 + x % 4 → aOf x ≤ 19
    intro h
    unfold aOf
    rw [if_neg (by omega)]
    omega
  · show -20 ≤ x / 256 % 40 - 20; omega
  · show x / 256 % 40 - 20 ≤ 19; omega
theorem LGd.next {n : Nat} {es : List Eff} (h : LGd n es) (hn : n < 20) (x : Int) : LGd (n + 1) (es ++ [effOf x n]) := by
  refine ⟨by simp [h.len], hn, fun e he => ?_, fun e he => ?_⟩
  · rcases List.mem_append.1 he with he | he
    · exact h.eb e he
    · simp only [List.mem_singleton] at he
      subst he
      exact effOf_eb x n
  · rcases List.mem_append.1 he with he | he
    · exact h.st e he
    · simp only [List.mem_singleton] at he
      subst he
      exact ⟨by show (0 : Int) ≤ (n : Int); omega, by show (n : Int) ≤ 20; omega⟩
section
variable {w : World} {g : LaIn} {n : Nat} {es : List Eff}
theorem x_fit (h : g.OK w) (i : Nat) : 0 ≤ g.x i ∧ g.x i ≤ 65535 := by
  unfold LaIn.x
  rw [List.getD_eq_getElem?_getD]
  cases hx : g.L[i]? with
  | none => exact ⟨by show (0 : Int) ≤ 0; omega, by show (0 : Int) ≤ 65535; omega⟩
  | some e => exact h.fit e (List.mem_of_getElem? hx)
theorem dint_fits {x : Int} (h0 : 0 ≤ x) (h1 : x ≤ 65535) (k : Nat) : I64 (dint x k) := by
  unfold dint I64
  repeat' split
  all_goals omega
theorem cell_fits (he : ∀ e ∈ es, EB e) (hs : ∀ e ∈ es, 0 ≤ e.st ∧ e.st ≤ 20) (j c : Nat) : I64 ((es.getD j eff0).cell c) := by
  have : I64 (es.getD j eff0).op ∧ I64 (es.getD j eff0).a ∧ I64 (es.getD j eff0).b ∧ I64 (es.getD j eff0).st := by
    rw [List.getD_eq_getElem?_getD]
    cases hx : es[j]? with
    | none => exact ⟨i64_0, i64_0, i64_0, i64_0⟩
    | some e =>
      obtain ⟨o1, o4, a0, a1, a2, b0, b1⟩ := he e (List.mem_of_getElem? hx)
      obtain ⟨s0, s1⟩ := hs e (List.mem_of_getElem? hx)
      simp only [Option.getD_some]
      exact ⟨⟨by omega, by omega⟩, ⟨by omega, by omega⟩, ⟨by omega, by omega⟩, ⟨by omega, by omega⟩⟩
  unfold Eff.cell
  split
  · exact this.1
  · exact this.2.1
  · exact this.2.2.1
  · exact this.2.2.2
theorem lint_fits (h : g.OK w) (hg : LGd n es) (k : Nat) : I64 (lint g es k) := by
  have hn := h.n
  have := h.a0
  have := h.a1
  obtain ⟨x0, x1⟩ := x_fit h es.length
  unfold lint
  split
  · split
    · exact ⟨by omega, by omega⟩
    split
    · exact ⟨by omega, by omega⟩
    · exact i64_0
  split
  · exact cell_fits hg.eb hg.st _ _
  · exact dint_fits x0 x1 _
theorem ivAt_many : ∀ (m i : Nat), ivAt (manyI m) i = big1
  | 0, i => by simp [manyI, ivAt, lget, big1]
  | m + 1, 0 => by simp [manyI, ivAt, lget]
  | m + 1, i + 1 => by
    have := ivAt_many m i
    simp only [ivAt] at this ⊢
    simpa [manyI, lget] using this
theorem iv_la (h : g.OK w) (hg : LGd n es) : IvOK laiv (lrho g es) := by
  intro i
  have f := lint_fits h hg i
  match i, f with
  | 0, f => exact f
  | 1, f => exact f
  | 2, _ =>
    have e : (lrho g es).int 2 = (g.L.length : Int) := rfl
    rw [e]
    have := h.n
    exact ⟨by show (0 : Int) ≤ _; omega, by show _ ≤ (9223372036854775807 : Int); omega⟩
  | i + 3, f =>
    have e : ivAt laiv (i + 3) = big1 := by
      have := ivAt_many 112 i
      simp only [ivAt] at this ⊢
      simpa [laiv, lget] using this
    rw [e]
    exact f
theorem li (k : Nat) (hk : k < 20) : (lrho g es).int (100 + k) = dint (g.x es.length) k := by
  show lint g es (100 + k) = _
  unfold lint
  rw [if_neg (by omega), if_neg (by omega), Nat.add_sub_cancel_left]
theorem lc (j c : Nat) (hc : c < 4) (hj : j < 24) : (lrho g es).int (4 * j + 4 + c) = (es.getD j eff0).cell c := by
  show lint g es (4 * j + 4 + c) = _
  unfold lint
  rw [if_neg (by omega), if_pos (by omega)]
  congr 2 <;> omega
theorem fact_remN {ρ : Rho} {k : IntKind} {i j : Nat} {m : Int} (hm : 0 < m) (hi : 0 ≤ ρ.int i) (hj : ρ.int j = ρ.int i % m) : FactOK ρ (.bin .rem (.sint k i) (.int k m) (.sint k j)) :=
  fact_rem (a := ρ.int i) (b := m) rfl rfl (by omega) (by simp only [sval, hj, Int.tmod_eq_emod_of_nonneg hi])
theorem fact_shr {ρ : Rho} {k : IntKind} {i j : Nat} {c : Nat} {m : Int} (hm : m = 2 ^ c) (hc : c ≤ k.bits) (hi : 0 ≤ ρ.int i) (hj : ρ.int j = ρ.int i / m) : FactOK ρ (.bin .shr (.sint k i) (.int .u64 (c : Int)) (.sint k j)) := by
  refine ⟨_, _, _, rfl, rfl, rfl, by simp, by simp, fun P t w => ?_⟩
  have e : min ((c : Int).toNat) k.bits = c := by simp; omega
  have e2 : (ρ.int i).fdiv m = ρ.int i / m := Int.fdiv_eq_ediv_of_nonneg _ (by rw [hm]; exact Int.le_of_lt (Int.pow_pos (by omega)))
  unfold binOp
  show (Op.shift .shr k (ρ.int i) .u64 (c : Int)).run P w = _
  unfold Op.shift
  rw [if_neg (by omega)]
  simp only [e]
  rw [hj, ← e2, hm]
  rfl
theorem fact_subN {ρ : Rho} {i j : Nat} {z : Int} (h : ρ.int j = ρ.int i - z) (h1 : -9223372036854775808 ≤ ρ.int j) (h2 : ρ.int j ≤ 9223372036854775807) : FactOK ρ (.bin .sub (.sint .i64 i) (.int .i64 z) (.sint .i64 j)) := by
  refine ⟨_, _, _, rfl, rfl, rfl, by simp, by simp, fun P t w => ?_⟩
  have e : IntKind.i64.wrap (ρ.int i - z) = ρ.int j := by
    rw [← h]
    exact w64_id h1 h2
  simp [binOp, Op.intArith, e]
theorem fact_addL {ρ : Rho} {i j : Nat} {z : Int} (h : ρ.int j = z + ρ.int i) (h1 : -9223372036854775808 ≤ ρ.int j) (h2 : ρ.int j ≤ 9223372036854775807) : FactOK ρ (.bin .add (.int .i64 z) (.sint .i64 i) (.sint .i64 j)) := by
  refine ⟨_, _, _, rfl, rfl, rfl, by simp, by simp, fun P t w => ?_⟩
  have e : IntKind.i64.wrap (z + ρ.int i) = ρ.int j := by
    rw [← h]
    exact w64_id h1 h2
  simp [binOp, Op.intArith, e]
theorem fact_atC {ρ : Rho} {B O l c size j n : Nat} {x : VV} {a : Option Addr} (hx : sval ρ x = some (.slice a l c)) (ha : a = some ⟨B, O, none⟩) (hn : n < l) (hb : ρ.blk j = B) (ho : ρ.off j = O + n * size) : FactOK ρ (.at size x (.int .i64 (n : Int)) ⟨.sym j, 0⟩) := by
  subst ha
  exact ⟨⟨B, O, none⟩, l, c, .i64, n, j, hx, rfl, rfl, by omega, by omega, rfl, hb, by rw [ho]; rfl⟩
theorem laF_ok : FsOK laF (lrho g es) := fs_cons (fact_len rfl rfl) fs_nil
theorem laEl_ok (h : g.OK w) (hg : LGd n es) (hn : n < g.L.length) : FsOK (laEl n) (lrho g es) := by
  obtain ⟨g1, _, _⟩ := h.cl n _ (List.getElem?_eq_getElem hn)
  obtain ⟨x0, x1⟩ := x_fit h es.length
  have v : ∀ k, k < 20 → (lrho g es).int (100 + k) = dint (g.x es.length) k := fun k hk => li k hk
  have e0 : (lrho g es).int 100 = g.x es.length := (v 0 (by omega)).trans rfl
  have e1 : (lrho g es).int 101 = g.x es.length % 4 := (v 1 (by omega)).trans rfl
  have e3 : (lrho g es).int 103 = 1 + g.x es.length % 4 := (v 3 (by omega)).trans rfl
  have e4 : (lrho g es).int 104 = g.x es.length / 4 := (v 4 (by omega)).trans rfl
  have e5 : (lrho g es).int 105 = g.x es.length / 4 % 40 := (v 5 (by omega)).trans rfl
  have e7 : (lrho g es).int 107 = g.x es.length / 4 % 40 - 20 := (v 7 (by omega)).trans rfl
  have e8 : (lrho g es).int 108 = g.x es.length / 256 := (v 8 (by omega)).trans rfl
  have e9 : (lrho g es).int 109 = g.x es.length / 256 % 40 := (v 9 (by omega)).trans rfl
  have e11 : (lrho g es).int 111 = g.x es.length / 256 % 40 - 20 := (v 11 (by omega)).trans rfl
  have e12 : (lrho g es).int 112 = g.x es.length / 16 := (v 12 (by omega)).trans rfl
  have e13 : (lrho g es).int 113 = g.x es.length / 16 % 128 := (v 13 (by omega)).trans rfl
  refine fs_cons (fact_atC (n := n) (B := g.B) (O := g.O) (l := g.L.length) (c := g.ca) rfl g1 hn rfl ?_) ?_
  · show (if 90 = 90 then g.O + es.length else g.O) = g.O + n * 1
    rw [if_pos rfl, hg.len]
    omega
  refine fs_cons (fact_remN (by omega) (by omega) (by rw [e1, e0])) (fs_cons (fact_addL (by rw [e3, e1]) (by omega) (by omega)) (fs_cons (fact_shr (c := 2) (m := 4) (by decide) (by decide) (by omega) (by rw [e4, e0])) (fs_cons (fact_remN (by omega) (by omega) (by rw [e5, e4])) (fs_cons (fact_subN (by rw [e7, e5]) (by omega) (by omega)) (fs_cons (fact_shr (c := 8) (m := 256) (by decide) (by decide) (by omega) (by rw [e8, e0])) (fs_cons (fact_remN (by omega) (by omega) (by rw [e9, e8])) (fs_cons (fact_subN (by rw [e11, e9]) (by omega) (by omega)) (fs_cons (fact_shr (c := 4) (m := 16) (by decide) (by decide) (by omega) (by rw [e12, e0])) (fs_cons (fact_remN (by omega) (by omega) (by rw [e13, e12])) fs_nil)))))))))
theorem la_ok (h : g.OK w) (hg : LGd n es) {iv : Ivs} {fs : List Fact} (h1 : IvOK iv (lrho g es)) (h2 : FsOK fs (lrho g es)) (φ : Phi) (hφ : φ.ρ = lrho g es) : EnvP (Elaw n iv fs) φ w := by
  unfold Elaw
  split
  · rename_i hb hh
    have hn : n < g.L.length := by
      have := of_decide_eq_true hh
      have h3 := (h1 2).1
      have e : (lrho g es).int 2 = (g.L.length : Int) := rfl
      rw [e] at h3
      omega
    refine ⟨by rw [hφ]; exact h1, by rw [hφ]; exact fs_app h2 (fs_app laF_ok (laEl_ok h hg hn)), fun k cs hk => ?_⟩
    simp only at hk
    split at hk
    · rename_i hb
      have := Nat.eq_of_beq_eq_true hb
      subst this
      cases hk
      have hat : g.L[n]? = some (g.x es.length) := by
        unfold LaIn.x
        rw [List.getD_eq_getElem?_getD, hg.len, List.getElem?_eq_getElem hn]
        rfl
      obtain ⟨g1, g2, g3⟩ := h.cl n _ hat
      have eb : φ.ρ.blk 90 = g.B := by rw [hφ]; rfl
      have eo : φ.ρ.off 90 = g.O + n := by rw [hφ]; show (if 90 = 90 then g.O + es.length else g.O) = _; rw [if_pos rfl, hg.len]
      rw [eb, eo]
      refine ⟨g2, fun j x hx => ?_⟩
      match j with
      | 0 =>
        cases hx
        refine ⟨_, g3, ?_⟩
        simp only [su, VR, hφ]
        rw [show (lrho g es).int 100 = g.x es.length from (li 0 (by omega)).trans rfl]
      | j + 1 => simp at hx
    · cases hk
  · exact ⟨by rw [hφ]; exact h1, by rw [hφ]; exact fs_app h2 laF_ok, fun k cs h => by cases h⟩
/-! ### works() -/
theorem ran15 : runV Try.prog 20000 15 = true := by kernel_rfl
theorem walk15 (w : World) : Calls Try.prog 15 #[] w fun e w' => e = .returned (.bool true) ∧ Below w.heap.size w w' := runV_calls (noNG_of noNG) mixed ran15 w
theorem extLa {ρ : Rho} {w : World} : ∀ e ∈ laKT, KEok Try.prog ρ w e := by
  intro e he
  simp only [laKT, List.mem_singleton] at he
  subst he
  intro φ vs w' hφ h1 h2 hv hp
  simp only [VRs] at hv
  subst hv
  refine (walk15 w').mono ?_
  rintro en w'' ⟨rfl, hb⟩
  exact ⟨_, rfl, by simp only [VR], hb⟩
abbrev XL : Ext := extKT Try.prog laKT
theorem okL (h : g.OK w) (hg : LGd n es) : @CutP.OK XL (lac n) w (lrho g es) :=
  @CutP.ok_of XL (lac n) w (lrho g es) extLa (iv_la h hg) fun iv fs h1 h2 φ hφ => la_ok h hg h1 h2 φ hφ
theorem hrcL {K : List KE} : @CEokT (extKT Try.prog K) Try.prog False (fun _ => True) (rcN K) := by
  letI : Ext := extKT Try.prog K
  exact evN_rc2 (noNG_of noNG) mixed (knL_ok fun _ _ h => h) 20000
theorem lchk20 : lchk 20 = true := by kernel_rfl
theorem lchk_at : ∀ {m n : Nat}, lchk m = true → n < m → chkPN (rcN laKT) Try.f7.ntmps [0] 1000 labody laC (lac n) = true
  | 0, n, _, h => by omega
  | m + 1, n, h, hn => by
    simp only [lchk] at h
    split at h
    · rename_i h1
      by_cases e : n = m
      · rw [e]; exact h
      · exact lchk_at h1 (by omega)
    · cases h
theorem lget_app {α : Type} : ∀ {l m : List α} {i : Nat}, i < l.length → lget (l ++ m) i = lget l i
  | [], m, i, h => by simp at h
  | x :: l, m, 0, h => rfl
  | x :: l, m, i + 1, h => by
    simp only [List.cons_append, lget]
    exact lget_app (by simpa using h)
theorem lget_last {α : Type} : ∀ {l : List α} {x : α}, lget (l ++ [x]) l.length = some x
  | [], x => rfl
  | y :: l, x => by
    simp only [List.cons_append, List.length_cons, lget]
    exact lget_last
theorem lacs_len : ∀ n, (lacs n).length = n
  | 0 => rfl
  | n + 1 => by simp [lacs, lacs_len n]
theorem lget_lacs : ∀ {m n : Nat}, n < m → lget (lacs m) n = some (lac n)
  | 0, n, h => by omega
  | m + 1, n, h => by
    simp only [lacs]
    by_cases e : n = m
    · subst e
      have := lget_last (l := lacs n) (x := lac n)
      rwa [lacs_len] at this
    · rw [lget_app (by rw [lacs_len]; omega)]
      exact lget_lacs (by omega)
theorem carry_old {ρ ρ' : Rho} : ∀ {n : Nat}, (∀ k, 4 ≤ k → k < 4 * n + 4 → ρ'.int k = ρ.int k) → carry ρ ρ' (ysE n) (ysE n)
  | 0, _ => trivial
  | n + 1, h => ⟨car_i (h _ (by omega) (by omega)), car_i (h _ (by omega) (by omega)), car_i (h _ (by omega) (by omega)), car_i (h _ (by omega) (by omega)), carry_old fun k h1 h2 => h k h1 (by omega)⟩
theorem lagree {es es' : List Eff} : agree 4 (lrho g es) (lrho g es') := fun k hk => by
  have e : lint g es' k = lint g es k := by unfold lint; rw [if_pos hk, if_pos hk]
  refine ⟨e, rfl, rfl, ?_, rfl⟩
  show (if k = 90 then g.O + es'.length else g.O) = (if k = 90 then g.O + es.length else g.O)
  rw [if_neg (by omega), if_neg (by omega)]
theorem old_int (hg : LGd n es) (e : Eff) {k : Nat} (h1 : 4 ≤ k) (h2 : k < 4 * n + 4) : (lrho g (es ++ [e])).int k = (lrho g es).int k := by
  have hn := hg.le
  show lint g (es ++ [e]) k = lint g es k
  unfold lint
  rw [if_neg (by omega), if_pos (by omega), if_neg (by omega), if_pos (by omega)]
  have hj : (k - 4) / 4 < es.length := by rw [hg.len]; omega
  rw [List.getD_eq_getElem?_getD, List.getD_eq_getElem?_getD, List.getElem?_append_left hj]
theorem new_int (hg : LGd n es) (e : Eff) {c : Nat} (hc : c < 4) : (lrho g (es ++ [e])).int (4 * n + 4 + c) = e.cell c := by
  have hn := hg.le
  rw [lc n c hc (by omega)]
  have : (es ++ [e]).getD n eff0 = e := by
    rw [List.getD_eq_getElem?_getD, ← hg.len, List.getElem?_append_right (Nat.le_refl _)]
    simp
  rw [this]
/-- A round, told by the tree. -/
theorem round_val (h : g.OK w) (hg : LGd n es) (hn : n < 20) (hL : n < g.L.length) : ∃ xs, valX (lat n) (lrho g es).int = .goto (n + 1) xs ∧ carry (lrho g es) (lrho g (es ++ [effOf (g.x n) n])) xs (ysE (n + 1)) := by
  have v : ∀ k, k < 20 → (lrho g es).int (100 + k) = dint (g.x n) k := fun k hk => by rw [li k hk, hg.len]
  have e3 : (lrho g es).int 103 = 1 + g.x n % 4 := (v 3 (by omega)).trans rfl
  have e7 : (lrho g es).int 107 = g.x n / 4 % 40 - 20 := (v 7 (by omega)).trans rfl
  have e11 : (lrho g es).int 111 = g.x n / 256 % 40 - 20 := (v 11 (by omega)).trans rfl
  have e13 : (lrho g es).int 113 = g.x n / 16 % 128 := (v 13 (by omega)).trans rfl
  have e2 : (lrho g es).int 2 = (g.L.length : Int) := rfl
  have eb : Nat.blt n 20 = true := blt_t hn
  have c0 : ∀ {c : Nat}, c < 4 → (lrho g (es ++ [effOf (g.x n) n])).int (4 * n + 4 + c) = (effOf (g.x n) n).cell c := fun hc => new_int hg _ hc
  have old := carry_old (ρ := lrho g es) (ρ' := lrho g (es ++ [effOf (g.x n) n])) (n := n) fun k h1 h2 => old_int hg _ h1 h2
  have hcut : ¬ (lrho g es).int 2 ≤ (n : Int) := by rw [e2]; omega
  by_cases ho : 1 + g.x n % 4 ≤ 2
  · refine ⟨i8 n :: si 111 :: si 113 :: si 103 :: ysE n, ?_, car_c ?_, car_i ?_, car_i ?_, car_i ?_, old⟩
    · unfold lat
      rw [eb]
      simp only [valX]
      rw [if_neg hcut, if_pos (by rw [e3]; exact ho)]
    · exact c0 (c := 3) (by omega)
    · rw [e11]; exact c0 (c := 2) (by omega)
    · rw [e13, show 4 * n + 5 = 4 * n + 4 + 1 by omega, c0 (c := 1) (by omega)]
      show aOf (g.x n) = _
      unfold aOf
      rw [if_pos ho]
    · rw [e3]; exact c0 (c := 0) (by omega)
  · refine ⟨i8 n :: si 111 :: si 107 :: si 103 :: ysE n, ?_, car_c ?_, car_i ?_, car_i ?_, car_i ?_, old⟩
    · unfold lat
      rw [eb]
      simp only [valX]
      rw [if_neg hcut, if_neg (by rw [e3]; exact ho)]
    · exact c0 (c := 3) (by omega)
    · rw [e11]; exact c0 (c := 2) (by omega)
    · rw [e7, show 4 * n + 5 = 4 * n + 4 + 1 by omega, c0 (c := 1) (by omega)]
      show aOf (g.x n) = _
      unfold aOf
      rw [if_neg ho]
    · rw [e3]; exact c0 (c := 0) (by omega)
end
end
end Go.Proofs.Ytgbhmkdldfhamaa.split
