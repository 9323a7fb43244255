/-
  Which cards may be: the document's check tells the same number as the program's.
-/
import Derived.Test.YtgbpkilegbechaaCdV
namespace Go.Proofs.Ytgbpkilegbechaa.cards
open Go.Ev Go.RowKit
set_option linter.unusedVariables false
noncomputable section
section
variable {D : Cx} {w : World} {n : Int} {i : Nat}
theorem waShape : shapeC 5 12 11 13 0 waC = true := by kernel_rfl
theorem wbShape : shapeC 5 12 11 13 0 wbC = true := by kernel_rfl
theorem wcShape : shapeC 7 12 11 13 0 wcC = true := by kernel_rfl
theorem wc3leaf : allL (goGo 3 6 13) wct3L = true := by kernel_rfl
theorem wc5leaf : allL (goGo 5 4 13) wct5L = true := by kernel_rfl
theorem wc3same : eqY (fun a b => bEq (isGo a) (goesTo 3 b)) wct3L vdt1L vdiv1 [(12, 11, true)] = true := by kernel_rfl
theorem wc5same : eqY (fun a b => bEq (isGo a) (goesTo 5 b)) wct5L vdt2L vdiv1 [(12, 11, true)] = true := by kernel_rfl
def toAll (q : Nat) : Leaf → Bool
  | .goto q' xs => match xs with
    | [.sint .i64 k] => match Nat.beq q' q with
      | true => Nat.beq k 13
      | false => false
    | _ => false
  | .ret _ => false
theorem toAll_ok {q : Nat} {o : Leaf} (h : toAll q o = true) : o = .goto q [.sint .i64 13] := by
  cases o with
  | goto q' xs =>
    simp only [toAll] at h
    split at h
    · split at h
      · rename_i h1
        rw [Nat.eq_of_beq_eq_true h1, Nat.eq_of_beq_eq_true h]
      · cases h
    · cases h
  | ret r => simp [toAll] at h
theorem wa3 : allL (toAll 3) wat3L = true := by kernel_rfl
theorem wa4 : allL (toAll 4) wat4L = true := by kernel_rfl
theorem wb3 : allL (toAll 3) wbt3L = true := by kernel_rfl
theorem wb4 : allL (toAll 4) wbt4L = true := by kernel_rfl
theorem wc4 : allL (toAll 4) wct4L = true := by kernel_rfl
theorem wc6 : allL (toAll 6) wct6L = true := by kernel_rfl
def entTree : TrX Leaf := .cut 0 (-1) (.leaf (.ret (.int .i64 (2)))) (.cut 0 (40) (.cut 10 (16) (.cut 11 (4) (.leaf (.goto 1 [(.int .i64 (0))])) (.leaf (.goto 2 [(.int .i64 (0))]))) (.leaf (.goto 2 [(.int .i64 (0))]))) (.leaf (.ret (.int .i64 (2)))))
theorem ent_ok : valX entTree (D.v n i) = if n < 0 ∨ 40 < n then .ret (.int .i64 2) else if (decide (D.name.size ≤ 16) && decide (D.abs.length ≤ 4)) = true then .goto 1 [.int .i64 0] else .goto 2 [.int .i64 0] := by
  unfold entTree
  have l := long_end (D := D) (n := n) (i := i) (.cut 10 (16) (.cut 11 (4) (.leaf (.goto 1 [(.int .i64 (0))])) (.leaf (.goto 2 [(.int .i64 (0))]))) (.leaf (.goto 2 [(.int .i64 (0))]))) (.goto 1 [.int .i64 0]) (.goto 2 [.int .i64 0]) rfl
  have e : ∀ (a b : Leaf) (t : TrX Leaf), valX (.cut 0 (-1) (.leaf a) (.cut 0 40 t (.leaf b))) (D.v n i) = if n ≤ -1 then a else if n ≤ 40 then valX t (D.v n i) else b := fun a b t => by
    simp only [valX]
    rw [e0]
  rw [e, l]
  by_cases h1 : n ≤ -1
  · rw [if_pos h1, if_pos (by omega)]
  · rw [if_neg h1]
    by_cases h2 : n ≤ 40
    · rw [if_pos h2, if_neg (c := n < 0 ∨ 40 < n) (by omega)]
    · rw [if_neg h2, if_pos (by omega)]
/-- The first loop, and the end where something is long. -/
theorem rd_long {C : List CutP} {I : Nat → Nat → Prop} {c0 c1 c2 : CutP} {r : VV} (h0 : lget C 0 = some c0) (h1 : lget C 1 = some c1) (h2 : lget C 2 = some c2) (I0 : I 0 0) (I1 : ∀ i, I 1 i) (I2 : ∀ i, I 2 i) (t0 : c0.tr = entTree) {R1 : TrX Leaf} (t1 : c1.tr = .rel .i64 12 11 (.cut 22 (2) (.cut 23 (32) (.leaf (.goto 1 [(.sint .i64 13)])) (.leaf (.goto 2 [(.sint .i64 13)]))) (.leaf (.goto 2 [(.sint .i64 13)]))) R1)
    (t2 : c2.tr = .rel .i64 12 11 (.leaf (.goto 2 [(.sint .i64 13)])) (.leaf (.ret (.int .i64 (3))))) (hr : D.isLong = false → Rd C (D.v n) I 1 D.abs.length r) :
    Rd C (D.v n) I 0 0 (if n < 0 ∨ 40 < n then .int .i64 2 else if D.isLong = true then .int .i64 3 else r) := by
  have ent := ent_ok (D := D) (n := n) (i := 0)
  rw [← t0] at ent
  by_cases k1 : n < 0 ∨ 40 < n
  · rw [if_pos k1] at ent ⊢
    exact .ret h0 I0 ent
  · rw [if_neg k1] at ent ⊢
    have end2 : Rd C (D.v n) I 2 D.abs.length (.int .i64 3) := .ret h2 (I2 _) (by rw [t2]; exact rel_out)
    have all2 := rd_all (C := C) (v := D.v n) (I := I) (p := 2) (n := D.abs.length) (j := 13) (k := .i64) h2 (fun i _ => I2 i) (fun i hi => by rw [t2]; exact rel_in hi) end2
    cases hs : (decide (D.name.size ≤ 16) && decide (D.abs.length ≤ 4)) with
    | true =>
      rw [hs, if_pos rfl] at ent
      refine .zero h0 I0 ent ?_
      cases hf : allF D.fine D.abs.length 0 with
      | true =>
        have hl : D.isLong = false := by unfold Cx.isLong; rw [hs, hf]; rfl
        rw [if_neg (by rw [hl]; simp)]
        have s := rd_acc (C := C) (v := D.v n) (I := I) (p := 1) (q := 2) (n := D.abs.length) (j := 13) (k := .i64) (g := D.fine) (rA := r) (rB := .int .i64 3) h1 h2 (fun i _ => I1 i) (fun i _ => I2 i) (fun i hi => by rw [t1]; exact (rel_in hi).trans (long_step _ _ _ rfl)) (fun i hi => by rw [t2]; exact rel_in hi) (hr hl) end2 D.abs.length 0 (by omega)
        rw [hf] at s
        exact s
      | false =>
        have hl : D.isLong = true := by unfold Cx.isLong; rw [hs, hf]; rfl
        rw [if_pos hl]
        have bad : ∃ m i, i + m + 1 = D.abs.length ∧ allF D.fine i 0 = true ∧ D.fine i = false := by
          have key : ∀ m i, allF D.fine m i = false → ∃ k, i ≤ k ∧ k < i + m ∧ D.fine k = false ∧ ∀ l, i ≤ l → l < k → D.fine l = true := by
            intro m
            induction m with
            | zero => intro i h; simp [allF] at h
            | succ m ih =>
              intro i h
              cases hg : D.fine i with
              | false => exact ⟨i, Nat.le_refl _, by omega, hg, fun l h1 h2 => by omega⟩
              | true =>
                simp only [allF, hg, Bool.true_and] at h
                obtain ⟨k, k1, k2, k3, k4⟩ := ih (i + 1) h
                exact ⟨k, by omega, by omega, k3, fun l h1 h2 => by
                  by_cases e : l = i
                  · subst e; exact hg
                  · exact k4 l (by omega) h2⟩
          obtain ⟨k, k1, k2, k3, k4⟩ := key _ _ hf
          exact ⟨D.abs.length - k - 1, k, by omega, allF_iff.2 fun l h1 h2 => k4 l h1 (by omega), k3⟩
        obtain ⟨m, k, hk, ha, hb⟩ := bad
        have go : ∀ j, j ≤ k → Rd C (D.v n) I 1 (k - j) (.int .i64 3) := by
          intro j
          induction j with
          | zero =>
            intro _
            exact .next h1 (I1 _) (by rw [t1]; exact (rel_in (by omega)).trans ((long_step _ _ _ rfl).trans (by rw [Nat.sub_zero, hb]; rfl))) (all2 m (k + 1) (by omega))
          | succ j ih =>
            intro hj
            have hg : D.fine (k - (j + 1)) = true := allF_iff.1 ha _ (Nat.zero_le _) (by omega)
            have := ih (by omega)
            rw [show k - j = k - (j + 1) + 1 by omega] at this
            exact .next h1 (I1 _) (by rw [t1]; exact (rel_in (by omega)).trans ((long_step _ _ _ rfl).trans (by rw [hg]; rfl))) this
        have := go k (Nat.le_refl _)
        rwa [Nat.sub_self] at this
    | false =>
      have hl : D.isLong = true := by unfold Cx.isLong; rw [hs]; simp
      rw [hs, if_neg (by simp)] at ent
      rw [if_pos hl]
      exact .zero h0 I0 ent (all2 D.abs.length 0 (by omega))
def kindTree (a b : Leaf) : TrX Leaf := .cut 1 (2) (.leaf a) (.cut 1 (3) (.leaf b) (.leaf a))
theorem kind_ok (a b : Leaf) : valX (kindTree a b) (D.v n i) = if D.kind = 3 then b else a := by
  unfold kindTree
  simp only [valX]
  rw [e1]
  by_cases h1 : D.kind ≤ 2
  · rw [if_pos h1, if_neg (by omega)]
  · rw [if_neg h1]
    by_cases h2 : D.kind ≤ 3
    · rw [if_pos h2, if_pos (by omega)]
    · rw [if_neg h2, if_neg (by omega)]
/-- The second loop where it cannot be any more. -/
theorem rd_no {C : List CutP} {I : Nat → Nat → Prop} {c1 c3 c4 : CutP} (h1 : lget C 1 = some c1) (h3 : lget C 3 = some c3) (h4 : lget C 4 = some c4) (I1 : ∀ i, I 1 i) (I3 : ∀ i, I 3 i) (I4 : ∀ i, I 4 i) {L1 L3 L4 : TrX Leaf} (t1 : c1.tr = .rel .i64 12 11 L1 (kindTree (.goto 3 [(.int .i64 0)]) (.goto 4 [(.int .i64 0)])))
    (t3 : c3.tr = .rel .i64 12 11 L3 (.leaf (.ret (.int .i64 10)))) (t4 : c4.tr = .rel .i64 12 11 L4 (.leaf (.ret (.int .i64 10)))) (a3 : allL (toAll 3) L3 = true) (a4 : allL (toAll 4) L4 = true) : Rd C (D.v n) I 1 D.abs.length (.int .i64 10) := by
  have all3 := rd_all (C := C) (v := D.v n) (I := I) (p := 3) (n := D.abs.length) (j := 13) (k := .i64) h3 (fun i _ => I3 i) (fun i hi => by rw [t3]; exact (rel_in hi).trans (toAll_ok (allL_ok a3))) (.ret h3 (I3 _) (by rw [t3]; exact rel_out)) D.abs.length 0 (by omega)
  have all4 := rd_all (C := C) (v := D.v n) (I := I) (p := 4) (n := D.abs.length) (j := 13) (k := .i64) h4 (fun i _ => I4 i) (fun i hi => by rw [t4]; exact (rel_in hi).trans (toAll_ok (allL_ok a4))) (.ret h4 (I4 _) (by rw [t4]; exact rel_out)) D.abs.length 0 (by omega)
  have e : valX c1.tr (D.v n D.abs.length) = if D.kind = 3 then .goto 4 [.int .i64 0] else .goto 3 [.int .i64 0] := by rw [t1]; exact rel_out.trans (kind_ok _ _)
  by_cases hk : D.kind = 3
  · rw [if_pos hk] at e
    exact .zero h1 (I1 _) e all4
  · rw [if_neg hk] at e
    exact .zero h1 (I1 _) e all3
theorem ret_if {a b c : Int} {p q : Prop} [Decidable p] [Decidable q] : (if p then VV.int .i64 a else if q then .int .i64 b else .int .i64 c) = .int .i64 (if p then a else if q then b else c) := by
  split
  · rfl
  · split <;> rfl
theorem same3 (h : D.OK w) (hn : I64 n) (hl : D.isLong = false) (hk : D.kind ≠ 3) (hi : i < D.abs.length) : goesTo 3 (valX wct3L (D.v n i)) = D.good n i := by
  obtain ⟨_, hf⟩ := not_long hl
  have hv : VOK vdiv1 [(12, 11, true)] (D.v n i) := ⟨ivN_ok h hn (by omega) (hf i).1 (hf i).2, fun p hp => by
    simp only [List.mem_singleton] at hp
    subst hp
    exact decide_eq_true (show (i : Int) < (D.abs.length : Int) by omega)⟩
  unfold Cx.good
  rw [decide_eq_false hk]
  exact (bEq_eq (eqY_ok (p := fun a b => bEq (isGo a) (goesTo 3 b)) wc3same hv)).symm
theorem same5 (h : D.OK w) (hn : I64 n) (hl : D.isLong = false) (hk : D.kind = 3) (hi : i < D.abs.length) : goesTo 5 (valX wct5L (D.v n i)) = D.good n i := by
  obtain ⟨_, hf⟩ := not_long hl
  have hv : VOK vdiv1 [(12, 11, true)] (D.v n i) := ⟨ivN_ok h hn (by omega) (hf i).1 (hf i).2, fun p hp => by
    simp only [List.mem_singleton] at hp
    subst hp
    exact decide_eq_true (show (i : Int) < (D.abs.length : Int) by omega)⟩
  unfold Cx.good
  rw [decide_eq_true hk]
  exact (bEq_eq (eqY_ok (p := fun a b => bEq (isGo a) (goesTo 5 b)) wc5same hv)).symm
theorem checkR (h : D.OK w) (hn : I64 n) : Calls Try.prog 9 #[D.val, .int .i64 n] w fun e w' => e = .returned (.int .i64 (D.spec n)) ∧ Below w.heap.size w w' := by
  cases hm : decide (D.name.size = 0) with
  | true =>
    have e : D.spec n = if n < 0 ∨ 40 < n then 2 else if D.isLong = true then 3 else 10 := by unfold Cx.spec; rw [if_pos (c := D.name.size = 0 ∨ D.body = false) (.inl (of_decide_eq_true hm))]
    rw [e]
    have hr := rd_long (D := D) (n := n) (C := waC) (I := fun p _ => p < 3 ∨ D.isLong = false) (c0 := wac0) (c1 := wac1) (c2 := wac2) (r := .int .i64 10) rfl rfl rfl (.inl (by decide)) (fun _ => .inl (by decide)) (fun _ => .inl (by decide)) rfl rfl rfl (fun hl => rd_no (C := waC) (c1 := wac1) (c3 := wac3) (c4 := wac4) rfl rfl rfl (fun _ => .inl (by decide)) (fun _ => .inr hl) (fun _ => .inr hl) rfl rfl rfl wa3 wa4)
    rw [ret_if] at hr
    refine ix_calls (KT := waKT) waauto Try.func9 (by kernel_rfl) (args := [cardV, si 0]) (by kernel_rfl) (c0 := wac0) rfl rfl (by kernel_rfl) rfl rfl rfl (n := D.abs.length) (rho := D.rho n) waShape rfl (fun i => rfl) (fun i => rfl) (fun i hi => if_pos hi)
      (fun p c hp h0 i j => ?_) (fun i hi e he => by cases he) (fun p c hp i hi hI => ?_) (fun ρ => rfl) hr dargs2
    · match p, hp, h0 with
      | 1, hp, _ => cases hp; exact dagree i j
      | 2, hp, _ => cases hp; exact dagree i j
      | 3, hp, _ => cases hp; exact dagree i j
      | 4, hp, _ => cases hp; exact dagree i j
    · have nar : ¬ p < 3 → IvOK vdiv1 (D.rho n i) := fun h3 => by
        have hl := hI.resolve_left h3
        obtain ⟨_, hf⟩ := not_long hl
        exact ivN_ok h hn hi (hf i).1 (hf i).2
      match p, hp with
      | 0, hp => cases hp; exact ⟨ivE_ok h hn hi, fun iv fs => eent_ok (nameF_ok hm)⟩
      | 1, hp => cases hp; exact ⟨ivW_ok h hn hi, fun iv fs => eloop_ok h (nameF_ok hm)⟩
      | 2, hp => cases hp; exact ⟨ivW_ok h hn hi, fun iv fs => eloop_ok h (nameF_ok hm)⟩
      | 3, hp => cases hp; exact ⟨nar (by decide), fun iv fs => eloop_ok h (nameF_ok hm)⟩
      | 4, hp => cases hp; exact ⟨nar (by decide), fun iv fs => eloop_ok h (nameF_ok hm)⟩
  | false =>
    have hm' := of_decide_eq_false hm
    cases hb : D.body with
    | false =>
      have e : D.spec n = if n < 0 ∨ 40 < n then 2 else if D.isLong = true then 3 else 10 := by unfold Cx.spec; rw [if_pos (c := D.name.size = 0 ∨ D.body = false) (.inr hb)]
      rw [e]
      have hr := rd_long (D := D) (n := n) (C := wbC) (I := fun p _ => p < 3 ∨ D.isLong = false) (c0 := wbc0) (c1 := wbc1) (c2 := wbc2) (r := .int .i64 10) rfl rfl rfl (.inl (by decide)) (fun _ => .inl (by decide)) (fun _ => .inl (by decide)) rfl rfl rfl (fun hl => rd_no (C := wbC) (c1 := wbc1) (c3 := wbc3) (c4 := wbc4) rfl rfl rfl (fun _ => .inl (by decide)) (fun _ => .inr hl) (fun _ => .inr hl) rfl rfl rfl wb3 wb4)
      rw [ret_if] at hr
      refine ix_calls (KT := wbKT) wbauto Try.func9 (by kernel_rfl) (args := [cardV, si 0]) (by kernel_rfl) (c0 := wbc0) rfl rfl (by kernel_rfl) rfl rfl rfl (n := D.abs.length) (rho := D.rho n) wbShape rfl (fun i => rfl) (fun i => rfl) (fun i hi => if_pos hi)
        (fun p c hp h0 i j => ?_) (fun i hi e he => ?_) (fun p c hp i hi hI => ?_) (fun ρ => rfl) hr dargs2
      · match p, hp, h0 with
        | 1, hp, _ => cases hp; exact dagree i j
        | 2, hp, _ => cases hp; exact dagree i j
        | 3, hp, _ => cases hp; exact dagree i j
        | 4, hp, _ => cases hp; exact dagree i j
      · simp only [wbKT, List.mem_singleton] at he
        subst he
        exact ke18 h hb
      · have nar : ¬ p < 3 → IvOK vdiv1 (D.rho n i) := fun h3 => by
          have hl := hI.resolve_left h3
          obtain ⟨_, hf⟩ := not_long hl
          exact ivN_ok h hn hi (hf i).1 (hf i).2
        match p, hp with
        | 0, hp => cases hp; exact ⟨ivE_ok h hn hi, fun iv fs => eent_ok (nameF_ok hm)⟩
        | 1, hp => cases hp; exact ⟨ivW_ok h hn hi, fun iv fs => eloop_ok h (nameF_ok hm)⟩
        | 2, hp => cases hp; exact ⟨ivW_ok h hn hi, fun iv fs => eloop_ok h (nameF_ok hm)⟩
        | 3, hp => cases hp; exact ⟨nar (by decide), fun iv fs => eloop_ok h (nameF_ok hm)⟩
        | 4, hp => cases hp; exact ⟨nar (by decide), fun iv fs => eloop_ok h (nameF_ok hm)⟩
    | true =>
      have e : D.spec n = if n < 0 ∨ 40 < n then 2 else if D.isLong = true then 3 else if allF (D.good n) D.abs.length 0 = true ∧ (D.kind = 3 → D.abs.length = 1) then 0 else 10 := by unfold Cx.spec; rw [if_neg (c := D.name.size = 0 ∨ D.body = false) (by rw [hb]; rintro (h | h); exact hm' h; cases h)]
      rw [e]
      have hr := rd_long (D := D) (n := n) (C := wcC) (I := fun p _ => p < 3 ∨ D.isLong = false) (c0 := wcc0) (c1 := wcc1) (c2 := wcc2) (r := .int .i64 (if allF (D.good n) D.abs.length 0 = true ∧ (D.kind = 3 → D.abs.length = 1) then 0 else 10)) rfl rfl rfl (.inl (by decide)) (fun _ => .inl (by decide)) (fun _ => .inl (by decide)) rfl rfl rfl (fun hl => by
        have ent : valX wcc1.tr (D.v n D.abs.length) = if D.kind = 3 then (if D.abs.length = 1 then .goto 5 [.int .i64 0] else .goto 4 [.int .i64 0]) else .goto 3 [.int .i64 0] := by
          refine Eq.trans (b := valX wct1R (D.v n D.abs.length)) rel_out ?_
          simp only [wct1R, valX]
          rw [e1, e11]
          by_cases h1 : D.kind ≤ 2
          · rw [if_pos h1, if_neg (by omega)]
          · rw [if_neg h1]
            by_cases h2 : D.kind ≤ 3
            · rw [if_pos h2, if_pos (c := D.kind = 3) (by omega)]
              by_cases g1 : (D.abs.length : Int) ≤ 0
              · rw [if_pos g1, if_neg (by omega)]
              · rw [if_neg g1]
                by_cases g2 : (D.abs.length : Int) ≤ 1
                · rw [if_pos g2, if_pos (by omega)]
                · rw [if_neg g2, if_neg (by omega)]
            · rw [if_neg h2, if_neg (by omega)]
        have no4 : Rd wcC (D.v n) (fun p _ => p < 3 ∨ D.isLong = false) 4 D.abs.length (.int .i64 10) := .ret (c := wcc4) rfl (.inr hl) rel_out
        have no6 : Rd wcC (D.v n) (fun p _ => p < 3 ∨ D.isLong = false) 6 D.abs.length (.int .i64 10) := .ret (c := wcc6) rfl (.inr hl) rel_out
        have st4 : ∀ i, i < D.abs.length → valX wcc4.tr (D.v n i) = .goto 4 [.sint .i64 13] := fun i hi => (rel_in hi).trans (toAll_ok (allL_ok wc4))
        have st6 : ∀ i, i < D.abs.length → valX wcc6.tr (D.v n i) = .goto 6 [.sint .i64 13] := fun i hi => (rel_in hi).trans (toAll_ok (allL_ok wc6))
        by_cases hk : D.kind = 3
        · rw [if_pos hk] at ent
          by_cases h1 : D.abs.length = 1
          · rw [if_pos h1] at ent
            refine .zero (c := wcc1) rfl (.inr hl) ent ?_
            have s := rd_acc (C := wcC) (v := D.v n) (I := fun p _ => p < 3 ∨ D.isLong = false) (p := 5) (q := 4) (n := D.abs.length) (j := 13) (k := .i64) (c := wcc5) (d := wcc4) (g := D.good n) (rA := .int .i64 0) (rB := .int .i64 10) rfl rfl (fun i _ => .inr hl) (fun i _ => .inr hl)
              (fun i hi => (rel_in hi).trans (by rw [← same5 h hn hl hk hi]; exact goGo_ok (allL_ok wc5leaf))) st4 (.ret (c := wcc5) rfl (.inr hl) rel_out) no4 D.abs.length 0 (by omega)
            cases ha : allF (D.good n) D.abs.length 0 with
            | true => rw [ha] at s; simpa [h1] using s
            | false => rw [ha] at s; simpa using s
          · rw [if_neg h1] at ent
            refine .zero (c := wcc1) rfl (.inr hl) ent ?_
            rw [if_neg (fun k => h1 (k.2 hk))]
            exact rd_all (C := wcC) (v := D.v n) (p := 4) (n := D.abs.length) (j := 13) (k := .i64) (c := wcc4) rfl (fun i _ => .inr hl) st4 no4 D.abs.length 0 (by omega)
        · rw [if_neg hk] at ent
          refine .zero (c := wcc1) rfl (.inr hl) ent ?_
          have s := rd_acc (C := wcC) (v := D.v n) (I := fun p _ => p < 3 ∨ D.isLong = false) (p := 3) (q := 6) (n := D.abs.length) (j := 13) (k := .i64) (c := wcc3) (d := wcc6) (g := D.good n) (rA := .int .i64 0) (rB := .int .i64 10) rfl rfl (fun i _ => .inr hl) (fun i _ => .inr hl)
            (fun i hi => (rel_in hi).trans (by rw [← same3 h hn hl hk hi]; exact goGo_ok (allL_ok wc3leaf))) st6 (.ret (c := wcc3) rfl (.inr hl) rel_out) no6 D.abs.length 0 (by omega)
          cases ha : allF (D.good n) D.abs.length 0 with
          | true => rw [ha] at s; simpa [hk] using s
          | false => rw [ha] at s; simpa using s)
      rw [ret_if] at hr
      refine ix_calls (KT := wcKT) wcauto Try.func9 (by kernel_rfl) (args := [cardV, si 0]) (by kernel_rfl) (c0 := wcc0) rfl rfl (by kernel_rfl) rfl rfl rfl (n := D.abs.length) (rho := D.rho n) wcShape rfl (fun i => rfl) (fun i => rfl) (fun i hi => if_pos hi)
        (fun p c hp h0 i j => ?_) (fun i hi e he => ?_) (fun p c hp i hi hI => ?_) (fun ρ => rfl) hr dargs2
      · match p, hp, h0 with
        | 1, hp, _ => cases hp; exact dagree i j
        | 2, hp, _ => cases hp; exact dagree i j
        | 3, hp, _ => cases hp; exact dagree i j
        | 4, hp, _ => cases hp; exact dagree i j
        | 5, hp, _ => cases hp; exact dagree i j
        | 6, hp, _ => cases hp; exact dagree i j
      · simp only [wcKT, List.mem_cons, List.not_mem_nil, or_false] at he
        rcases he with rfl | rfl
        · exact ke18 h hb
        · exact ke28 h hn
      · have nar : ¬ p < 3 → IvOK vdiv1 (D.rho n i) := fun h3 => by
          have hl := hI.resolve_left h3
          obtain ⟨_, hf⟩ := not_long hl
          exact ivN_ok h hn hi (hf i).1 (hf i).2
        match p, hp with
        | 0, hp => cases hp; exact ⟨ivE_ok h hn hi, fun iv fs => eent_ok (nameF_ok hm)⟩
        | 1, hp => cases hp; exact ⟨ivW_ok h hn hi, fun iv fs => eloop_ok h (nameF_ok hm)⟩
        | 2, hp => cases hp; exact ⟨ivW_ok h hn hi, fun iv fs => eloop_ok h (nameF_ok hm)⟩
        | 3, hp => cases hp; exact ⟨nar (by decide), fun iv fs => eloop_ok h (nameF_ok hm)⟩
        | 4, hp => cases hp; exact ⟨nar (by decide), fun iv fs => eloop_ok h (nameF_ok hm)⟩
        | 5, hp => cases hp; exact ⟨nar (by decide), fun iv fs => eloop_ok h (nameF_ok hm)⟩
        | 6, hp => cases hp; exact ⟨nar (by decide), fun iv fs => eloop_ok h (nameF_ok hm)⟩
end
end
end Go.Proofs.Ytgbpkilegbechaa.cards
