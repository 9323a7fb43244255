/- Engine, part 3: trees held against each other; helps for cuts. -/
import Derived.Test.YtgbhmkdldfhamaaEv2
namespace Go.Ev
set_option linter.unusedVariables false
noncomputable section
open Go.RowKit
abbrev Rels := List (Nat × Nat × Bool)
section
variable {α β : Type}
/-- All leaves that can be reached. -/
def allX (p : β → Bool) : TrX β → Ivs → Rels → Bool
  | .leaf b, _, _ => p b
  | .cut i c l r, iv, rs => match decide ((ivAt iv i).2 ≤ c), decide (c < (ivAt iv i).1) with
    | true, _ => allX p l iv rs
    | _, true => allX p r iv rs
    | _, _ => match allX p l (ivHi iv i c) rs with
      | true => allX p r (ivLo iv i (c + 1)) rs
      | false => false
  | .rel _ i j l r, iv, rs => match boxB.relAt rs i j with
    | some true => allX p l iv rs
    | some false => allX p r iv rs
    | none => match allX p l iv ((i, j, true) :: rs) with
      | true => allX p r iv ((i, j, false) :: rs)
      | false => false
/-- All pairs of leaves that can be reached at once. -/
def eqX (p : α → β → Bool) (u : TrX β) : TrX α → Ivs → Rels → Bool
  | .leaf a, iv, rs => allX (p a) u iv rs
  | .cut i c l r, iv, rs => match decide ((ivAt iv i).2 ≤ c), decide (c < (ivAt iv i).1) with
    | true, _ => eqX p u l iv rs
    | _, true => eqX p u r iv rs
    | _, _ => match eqX p u l (ivHi iv i c) rs with
      | true => eqX p u r (ivLo iv i (c + 1)) rs
      | false => false
  | .rel _ i j l r, iv, rs => match boxB.relAt rs i j with
    | some true => eqX p u l iv rs
    | some false => eqX p u r iv rs
    | none => match eqX p u l iv ((i, j, true) :: rs) with
      | true => eqX p u r iv ((i, j, false) :: rs)
      | false => false
theorem relAt_val {iv : Ivs} {rs : Rels} {v : Nat → Int} (hv : VOK iv rs v) {i j : Nat} {b : Bool} (h : boxB.relAt rs i j = some b) : decide (v i < v j) = b := hv.2 _ (relAt_mem h)
theorem allX_ok {p : β → Bool} {v : Nat → Int} : ∀ {t : TrX β} {iv : Ivs} {rs : Rels}, allX p t iv rs = true → VOK iv rs v → p (valX t v) = true
  | .leaf b, iv, rs, h, _ => h
  | .cut i c l r, iv, rs, h, hv => by
    simp only [allX] at h
    simp only [valX]
    have hi := hv.1 i
    cases e1 : decide ((ivAt iv i).2 ≤ c) with
    | true =>
      simp only [e1] at h
      have := of_decide_eq_true e1
      rw [if_pos (by omega)]
      exact allX_ok h hv
    | false => cases e2 : decide (c < (ivAt iv i).1) with
      | true =>
        simp only [e1, e2] at h
        have := of_decide_eq_true e2
        rw [if_neg (by omega)]
        exact allX_ok h hv
      | false =>
        simp only [e1, e2] at h
        split at h
        · rename_i h1
          split
          · exact allX_ok h1 (hv.hi ‹_›)
          · exact allX_ok h (hv.lo (by omega))
        · cases h
  | .rel k i j l r, iv, rs, h, hv => by
    simp only [allX] at h
    simp only [valX]
    split at h
    · rename_i h1
      rw [if_pos (of_decide_eq_true (relAt_val hv h1))]
      exact allX_ok h hv
    · rename_i h1
      rw [if_neg (of_decide_eq_false (relAt_val hv h1))]
      exact allX_ok h hv
    · split at h
      · rename_i h1
        split
        · rename_i hlt
          exact allX_ok h1 (hv.rel (decide_eq_true hlt))
        · rename_i hlt
          exact allX_ok h (hv.rel (decide_eq_false hlt))
      · cases h
theorem eqX_ok {p : α → β → Bool} {u : TrX β} {v : Nat → Int} : ∀ {t : TrX α} {iv : Ivs} {rs : Rels}, eqX p u t iv rs = true → VOK iv rs v → p (valX t v) (valX u v) = true
  | .leaf b, iv, rs, h, hv => allX_ok (p := p b) h hv
  | .cut i c l r, iv, rs, h, hv => by
    simp only [eqX] at h
    simp only [valX]
    have hi := hv.1 i
    cases e1 : decide ((ivAt iv i).2 ≤ c) with
    | true =>
      simp only [e1] at h
      have := of_decide_eq_true e1
      rw [if_pos (by omega)]
      exact eqX_ok h hv
    | false => cases e2 : decide (c < (ivAt iv i).1) with
      | true =>
        simp only [e1, e2] at h
        have := of_decide_eq_true e2
        rw [if_neg (by omega)]
        exact eqX_ok h hv
      | false =>
        simp only [e1, e2] at h
        split at h
        · rename_i h1
          split
          · exact eqX_ok h1 (hv.hi ‹_›)
          · exact eqX_ok h (hv.lo (by omega))
        · cases h
  | .rel k i j l r, iv, rs, h, hv => by
    simp only [eqX] at h
    simp only [valX]
    split at h
    · rename_i h1
      rw [if_pos (of_decide_eq_true (relAt_val hv h1))]
      exact eqX_ok h hv
    · rename_i h1
      rw [if_neg (of_decide_eq_false (relAt_val hv h1))]
      exact eqX_ok h hv
    · split at h
      · rename_i h1
        split
        · rename_i hlt
          exact eqX_ok h1 (hv.rel (decide_eq_true hlt))
        · rename_i hlt
          exact eqX_ok h (hv.rel (decide_eq_false hlt))
      · cases h
end
section
variable {β : Type}
/-- All leaves that can be reached, with what is known there. -/
def allI (p : Ivs → Rels → β → Bool) : TrX β → Ivs → Rels → Bool
  | .leaf b, iv, rs => p iv rs b
  | .cut i c l r, iv, rs => match decide ((ivAt iv i).2 ≤ c), decide (c < (ivAt iv i).1) with
    | true, _ => allI p l iv rs
    | _, true => allI p r iv rs
    | _, _ => match allI p l (ivHi iv i c) rs with
      | true => allI p r (ivLo iv i (c + 1)) rs
      | false => false
  | .rel _ i j l r, iv, rs => match boxB.relAt rs i j with
    | some true => allI p l iv rs
    | some false => allI p r iv rs
    | none => match allI p l iv ((i, j, true) :: rs) with
      | true => allI p r iv ((i, j, false) :: rs)
      | false => false
theorem allI_ok {p : Ivs → Rels → β → Bool} {v : Nat → Int} : ∀ {t : TrX β} {iv : Ivs} {rs : Rels}, allI p t iv rs = true → VOK iv rs v → ∃ iv' rs', VOK iv' rs' v ∧ p iv' rs' (valX t v) = true
  | .leaf b, iv, rs, h, hv => ⟨iv, rs, hv, h⟩
  | .cut i c l r, iv, rs, h, hv => by
    simp only [allI] at h
    simp only [valX]
    have hi := hv.1 i
    cases e1 : decide ((ivAt iv i).2 ≤ c) with
    | true =>
      simp only [e1] at h
      have := of_decide_eq_true e1
      rw [if_pos (by omega)]
      exact allI_ok h hv
    | false => cases e2 : decide (c < (ivAt iv i).1) with
      | true =>
        simp only [e1, e2] at h
        have := of_decide_eq_true e2
        rw [if_neg (by omega)]
        exact allI_ok h hv
      | false =>
        simp only [e1, e2] at h
        split at h
        · rename_i h1
          split
          · exact allI_ok h1 (hv.hi ‹_›)
          · exact allI_ok h (hv.lo (by omega))
        · cases h
  | .rel k i j l r, iv, rs, h, hv => by
    simp only [allI] at h
    simp only [valX]
    split at h
    · rename_i h1
      rw [if_pos (of_decide_eq_true (relAt_val hv h1))]
      exact allI_ok h hv
    · rename_i h1
      rw [if_neg (of_decide_eq_false (relAt_val hv h1))]
      exact allI_ok h hv
    · split at h
      · rename_i h1
        split
        · rename_i hlt
          exact allI_ok h1 (hv.rel (decide_eq_true hlt))
        · rename_i hlt
          exact allI_ok h (hv.rel (decide_eq_false hlt))
      · cases h
end
/-- What holds at a cut, by its intervals. -/
theorem CutP.ok_of [Ext] {c : CutP} {w0 : World} {ρ : Rho} (h : Ext.ok ρ w0) (hiv : IvOK c.iv ρ) (hE : ∀ iv fs, IvOK iv ρ → FsOK fs ρ → ∀ φ : Phi, φ.ρ = ρ → EnvP (c.E iv fs) φ w0) : c.OK w0 ρ :=
  ⟨h, fun φ hφ => by
    obtain ⟨g1, g2⟩ := leafX_ok (t := c.tr.tr) hiv (fs := []) fun f hf => by cases hf
    exact (hE _ _ g1 g2 φ hφ).toM⟩
/-- Likewise, with lists of old memory. -/
theorem CutP.ok_ofM [Ext] {c : CutP} {w0 : World} {ρ : Rho} (h : Ext.ok ρ w0) (hiv : IvOK c.iv ρ) (hE : ∀ iv fs, IvOK iv ρ → FsOK fs ρ → ∀ φ : Phi, φ.ρ = ρ → EnvM (c.E iv fs) φ w0) : c.OK w0 ρ :=
  ⟨h, fun φ hφ => by
    obtain ⟨g1, g2⟩ := leafX_ok (t := c.tr.tr) hiv (fs := []) fun f hf => by cases hf
    exact hE _ _ g1 g2 φ hφ⟩
theorem fs_app {f1 f2 : List Fact} {ρ : Rho} (h1 : FsOK f1 ρ) (h2 : FsOK f2 ρ) : FsOK (f1 ++ f2) ρ := fun f hf => by
  rcases List.mem_append.1 hf with h | h
  · exact h1 f h
  · exact h2 f h
theorem fs_nil {ρ : Rho} : FsOK [] ρ := fun f hf => by cases hf
theorem fs_cons {f : Fact} {l : List Fact} {ρ : Rho} (h1 : FactOK ρ f) (h2 : FsOK l ρ) : FsOK (f :: l) ρ := fun g hg => by
  rcases List.mem_cons.1 hg with rfl | h
  · exact h1
  · exact h2 g h
theorem VOK_of {iv : Ivs} {ρ : Rho} (h : IvOK iv ρ) : VOK iv [] ρ.int := ⟨h, fun p hp => by cases hp⟩
theorem run_ret [Ext] {C : List CutP} {w0 : World} {res : Value} {p : Nat} {ρ : Rho} {c : CutP} {r : VV} (h1 : lget C p = some c) (h2 : c.OK w0 ρ) (h3 : valX c.tr ρ.int = .ret r) (h4 : sval ρ r = some res) : ∃ k, Runs C w0 res k p ρ := ⟨0, .ret h1 h2 h3 h4⟩
theorem run_step [Ext] {C : List CutP} {w0 : World} {res : Value} {p q : Nat} {ρ ρ' : Rho} {c d : CutP} {xs : List VV} (h1 : lget C p = some c) (h2 : c.OK w0 ρ) (h3 : valX c.tr ρ.int = .goto q xs) (h4 : lget C q = some d) (h5 : agree d.N ρ ρ') (h6 : carry ρ ρ' xs d.ys) (h7 : ∃ k, Runs C w0 res k q ρ') : ∃ k, Runs C w0 res k p ρ :=
  let ⟨k, h⟩ := h7
  ⟨k + 1, .step h1 h2 h3 h4 h5 h6 h⟩
def AllC (f : CutP → Prop) : List CutP → Prop
  | [] => True
  | c :: l => f c ∧ AllC f l
theorem AllC.get {f : CutP → Prop} : ∀ {C : List CutP} {p : Nat} {c : CutP}, AllC f C → lget C p = some c → f c
  | [], _, _, _, h => by simp [lget] at h
  | x :: l, 0, c, k, h => by
    simp only [lget, Option.some.injEq] at h
    exact h ▸ k.1
  | x :: l, p + 1, c, k, h => AllC.get k.2 (by simpa only [lget] using h)
theorem auto_of {P : Program} (hng : noNGb P = true) (hm : P.follows .mixedOrders = true) {KT : List KE} {n : Nat} {fn : Func} {body : Code} {S : List Nat} {fuel : Nat} {C : List CutP} {B : Nat → Option BO} (hnt : Nat.ble fn.ntmps top = true)
    (h1 : AllC (fun c => chkP P (rcKT P KT n) fn.ntmps S fuel fn.results.toList body C c = true) C) (h2 : AllC (fun c => ∀ iv fs, (c.E iv fs).blk = B) C) : @Auto (extKT P KT) P (rcKT P KT n) fn body S fuel C B := by
  letI : Ext := extKT P KT
  exact ⟨evN_rc (noNG_of hng) hm (knL_ok (fun _ _ h => h)) n, fun p c h => h1.get h, fun p c h => h2.get h, Nat.le_of_ble_eq_true hnt⟩
end
end Go.Ev
