/-
  Which cards may be: the contracts of the functions that ask whether a card is long, and what it is besides of its abilities.
-/
import Derived.Test.YtgbpkilegbechaaCdT
namespace Go.Proofs.Ytgbpkilegbechaa.cards
open Go.Ev Go.RowKit
set_option linter.unusedVariables false
noncomputable section
section
variable {D : Cx} {w : World} {n : Int} {i : Nat}
theorem dagree (i j : Nat) : agree 12 (D.rho n i) (D.rho n j) := fun k hk => by
  match k, hk with
  | 0, _ => exact ⟨rfl, rfl, rfl, rfl⟩
  | 1, _ => exact ⟨rfl, rfl, rfl, rfl⟩
  | 2, _ => exact ⟨rfl, rfl, rfl, rfl⟩
  | 3, _ => exact ⟨rfl, rfl, rfl, rfl⟩
  | 4, _ => exact ⟨rfl, rfl, rfl, rfl⟩
  | 5, _ => exact ⟨rfl, rfl, rfl, rfl⟩
  | 6, _ => exact ⟨rfl, rfl, rfl, rfl⟩
  | 7, _ => exact ⟨rfl, rfl, rfl, rfl⟩
  | 8, _ => exact ⟨rfl, rfl, rfl, rfl⟩
  | 9, _ => exact ⟨rfl, rfl, rfl, rfl⟩
  | 10, _ => exact ⟨rfl, rfl, rfl, rfl⟩
  | 11, _ => exact ⟨rfl, rfl, rfl, rfl⟩
theorem dargs1 {φ : Phi} (hφ : φ.ρ = D.rho n i) : VRs φ [cardV] [D.val] := by
  simp only [VRs, VR, cardV, si, Cx.val, hφ]
  exact ⟨_, _, rfl, ⟨_, ⟨_, _, rfl, rfl, _, _, rfl, rfl, _, _, rfl, rfl, _, _, rfl, rfl, _, _, rfl, rfl, _, _, rfl, rfl, _, _, rfl, rfl, _, _, rfl, rfl, _, _, rfl, rfl, _, _, rfl, rfl, _, _, rfl, rfl, rfl⟩, rfl⟩, rfl⟩
theorem dargs1_inv {φ : Phi} (hφ : φ.ρ = D.rho n i) {vs : List Value} (h : VRs φ [cardV] vs) : vs = [D.val] := by
  simp only [VRs, VR, cardV, si, hφ] at h
  obtain ⟨_, _, rfl, ⟨_, ⟨_, _, rfl, rfl, _, _, rfl, rfl, _, _, rfl, rfl, _, _, rfl, rfl, _, _, rfl, rfl, _, _, rfl, rfl, _, _, rfl, rfl, _, _, rfl, rfl, _, _, rfl, rfl, _, _, rfl, rfl, _, _, rfl, rfl, rfl⟩, rfl⟩, rfl⟩ := h
  rfl
/-! ### is something long? -/
def Cx.fine (D : Cx) (i : Nat) : Bool := decide ((D.ab i).tg.length ≤ 2) && decide ((D.ab i).code.length ≤ 32)
def Cx.isLong (D : Cx) : Bool := !(allF D.fine D.abs.length 0 && (decide (D.name.size ≤ 16) && decide (D.abs.length ≤ 4)))
theorem clShape : shapeC 2 12 11 13 0 clC = true := by kernel_rfl
theorem fine_iff : D.fine i = true ↔ ((D.ab i).tg.length : Int) ≤ 2 ∧ ((D.ab i).code.length : Int) ≤ 32 := by
  simp only [Cx.fine, Bool.and_eq_true, decide_eq_true_eq]
  omega
theorem long_step (t : TrX Leaf) (a b : Leaf) (ht : t = .cut 22 (2) (.cut 23 (32) (.leaf a) (.leaf b)) (.leaf b)) : valX t (D.v n i) = if D.fine i = true then a else b := by
  subst ht
  simp only [valX]
  have e22 : D.v n i 22 = ((D.ab i).tg.length : Int) := rfl
  have e23 : D.v n i 23 = ((D.ab i).code.length : Int) := rfl
  rw [e22, e23]
  by_cases h : D.fine i = true
  · obtain ⟨h1, h2⟩ := fine_iff.1 h
    rw [if_pos h, if_pos h1, if_pos h2]
  · rw [if_neg h]
    have := mt fine_iff.2 h
    by_cases h1 : ((D.ab i).tg.length : Int) ≤ 2
    · rw [if_pos h1, if_neg (fun h2 => this ⟨h1, h2⟩)]
    · rw [if_neg h1]
theorem rel_in {L R : TrX Leaf} {k : IntKind} (hi : i < D.abs.length) : valX (.rel k 12 11 L R) (D.v n i) = valX L (D.v n i) := by
  simp only [valX]
  rw [if_pos (show D.v n i 12 < D.v n i 11 by show (i : Int) < (D.abs.length : Int); omega)]
theorem rel_out {L R : TrX Leaf} {k : IntKind} : valX (.rel k 12 11 L R) (D.v n D.abs.length) = valX R (D.v n D.abs.length) := by
  simp only [valX]
  rw [if_neg (show ¬ D.v n D.abs.length 12 < D.v n D.abs.length 11 by show ¬ (D.abs.length : Int) < (D.abs.length : Int); omega)]
theorem small_iff : (decide (D.name.size ≤ 16) && decide (D.abs.length ≤ 4)) = true ↔ (D.name.size : Int) ≤ 16 ∧ (D.abs.length : Int) ≤ 4 := by
  simp only [Bool.and_eq_true, decide_eq_true_eq]
  omega
theorem long_end (t : TrX Leaf) (a b : Leaf) (ht : t = .cut 10 (16) (.cut 11 (4) (.leaf a) (.leaf b)) (.leaf b)) : valX t (D.v n i) = if (decide (D.name.size ≤ 16) && decide (D.abs.length ≤ 4)) = true then a else b := by
  subst ht
  simp only [valX]
  have e10 : D.v n i 10 = (D.name.size : Int) := rfl
  have e11 : D.v n i 11 = (D.abs.length : Int) := rfl
  rw [e10, e11]
  by_cases h : (decide (D.name.size ≤ 16) && decide (D.abs.length ≤ 4)) = true
  · obtain ⟨h1, h2⟩ := small_iff.1 h
    rw [if_pos h, if_pos h1, if_pos h2]
  · rw [if_neg h]
    have := mt small_iff.2 h
    by_cases h1 : (D.name.size : Int) ≤ 16
    · rw [if_pos h1, if_neg (fun h2 => this ⟨h1, h2⟩)]
    · rw [if_neg h1]
theorem longC (h : D.OK w) : Calls Try.prog 14 #[D.val] w fun e w' => e = .returned (.bool D.isLong) ∧ Below w.heap.size w w' := by
  have hr : Rd clC (D.v 0) (fun _ _ => True) 0 0 (.bool D.isLong) := by
    refine .zero (c := clc0) (q := 1) (k := .i64) (z := 0) rfl trivial rfl ?_
    have s := rd_search (C := clC) (v := D.v 0) (I := fun _ _ => True) (p := 1) (n := D.abs.length) (j := 13) (k := .i64) (c := clc1) (g := D.fine) (rB := .bool true) (rG := .bool !(decide (D.name.size ≤ 16) && decide (D.abs.length ≤ 4))) rfl (fun _ _ => trivial)
      (fun i hi => (rel_in hi).trans (long_step _ _ _ rfl)) (.ret (c := clc1) rfl trivial ((rel_out).trans ((long_end _ _ _ rfl).trans (by split <;> rename_i hs <;> simp only [hs] <;> rfl)))) D.abs.length 0 (by omega)
    unfold Cx.isLong
    cases ha : allF D.fine D.abs.length 0 with
    | true => rw [ha] at s; simpa using s
    | false => rw [ha] at s; simpa using s
  refine ix_calls (KT := clKT) clauto Try.func14 (by kernel_rfl) (args := [cardV]) (by kernel_rfl) (c0 := clc0) rfl rfl (by kernel_rfl) rfl rfl rfl (I := fun _ _ => True) (n := D.abs.length) (rho := D.rho 0) clShape rfl (fun i => rfl) (fun i => rfl) (fun i hi => if_pos hi)
    (fun p c hp h0 i j => ?_) (fun i hi e he => by cases he) (fun p c hp i hi _ => ?_) (fun ρ => rfl) hr (dargs1 rfl)
  · match p, hp, h0 with
    | 1, hp, _ => cases hp; exact dagree i j
  · match p, hp with
    | 0, hp => cases hp; exact ⟨ivE_ok h i64_0 hi, fun iv fs => eent_ok fs_nil⟩
    | 1, hp => cases hp; exact ⟨ivW_ok h i64_0 hi, fun iv fs => eloop_ok h fs_nil⟩
/-! ### all but the abilities -/
def leafB : Leaf → Bool
  | .ret r => match r with
    | .bool b => b
    | _ => false
  | _ => false
def isB : Leaf → Bool
  | .ret r => match r with
    | .bool _ => true
    | _ => false
  | _ => false
theorem isB_ok {o : Leaf} (h : isB o = true) : o = .ret (.bool (leafB o)) := by
  cases o with
  | goto _ _ => simp [isB] at h
  | ret r => cases r <;> simp [isB] at h; rfl
def Cx.body (D : Cx) : Bool := leafB (valX cbt0 (D.v 0 0))
theorem cbLeaf : allL isB cbt0 = true := by kernel_rfl
theorem rbLeaf : allL isB rbt0 = true := by kernel_rfl
theorem cbShape : shapeC 1 12 11 13 0 cbC = true := by kernel_rfl
theorem rbShape : shapeC 1 12 11 13 0 rbC = true := by kernel_rfl
theorem body_same : eqY (fun a b => bEq (leafB a) (leafB b)) rbt0 cbt0 vdiv0 [] = true := by kernel_rfl
theorem bodyC (h : D.OK w) : Calls Try.prog 15 #[D.val] w fun e w' => e = .returned (.bool D.body) ∧ Below w.heap.size w w' := by
  have hr : Rd cbC (D.v 0) (fun _ _ => True) 0 0 (.bool D.body) := .ret (c := cbc0) rfl trivial (isB_ok (allL_ok cbLeaf))
  refine ix_calls (KT := cbKT) cbauto Try.func15 (by kernel_rfl) (args := [cardV]) (by kernel_rfl) (c0 := cbc0) rfl rfl (by kernel_rfl) rfl rfl rfl (I := fun _ _ => True) (n := D.abs.length) (rho := D.rho 0) cbShape rfl (fun i => rfl) (fun i => rfl) (fun i hi => if_pos hi)
    (fun p c hp h0 i j => ?_) (fun i hi e he => by cases he) (fun p c hp i hi _ => ?_) (fun ρ => rfl) hr (dargs1 rfl)
  · match p, hp, h0 with
    | p + 1, hp, _ => cases hp
  · match p, hp with
    | 0, hp => cases hp; exact ⟨ivE_ok h i64_0 hi, fun iv fs => eent_ok fs_nil⟩
theorem bodyR (h : D.OK w) : Calls Try.prog 18 #[D.val] w fun e w' => e = .returned (.bool D.body) ∧ Below w.heap.size w w' := by
  have e : leafB (valX rbt0 (D.v 0 0)) = D.body := (bEq_eq (eqY_ok (p := fun a b => bEq (leafB a) (leafB b)) body_same (VOK_of (ivE_ok h i64_0 (Nat.zero_le _))))).symm
  have hr : Rd rbC (D.v 0) (fun _ _ => True) 0 0 (.bool D.body) := .ret (c := rbc0) rfl trivial (by rw [← e]; exact isB_ok (allL_ok rbLeaf))
  refine ix_calls (KT := rbKT) rbauto Try.func18 (by kernel_rfl) (args := [cardV]) (by kernel_rfl) (c0 := rbc0) rfl rfl (by kernel_rfl) rfl rfl rfl (I := fun _ _ => True) (n := D.abs.length) (rho := D.rho 0) rbShape rfl (fun i => rfl) (fun i => rfl) (fun i hi => if_pos hi)
    (fun p c hp h0 i j => ?_) (fun i hi e he => by cases he) (fun p c hp i hi _ => ?_) (fun ρ => rfl) hr (dargs1 rfl)
  · match p, hp, h0 with
    | p + 1, hp, _ => cases hp
  · match p, hp with
    | 0, hp => cases hp; exact ⟨ivE_ok h i64_0 hi, fun iv fs => eent_ok fs_nil⟩
end
end
end Go.Proofs.Ytgbpkilegbechaa.cards
