/-
  Which cards may be: the program's check and the document's tell the same number.
-/
import Derived.Test.YtgbpkilegbechaaCdU
namespace Go.Proofs.Ytgbpkilegbechaa.cards
open Go.Ev Go.RowKit
set_option linter.unusedVariables false
noncomputable section
section
variable {D : Cx} {w : World} {n : Int} {i : Nat}
def Cx.good (D : Cx) (n : Int) (i : Nat) : Bool := isGo (valX (match decide (D.kind = 3) with | true => vdt2L | false => vdt1L) (D.v n i))
/-- Which cards may be: an error's number. -/
def Cx.spec (D : Cx) (n : Int) : Int := if n < 0 ∨ 40 < n then 2 else if D.isLong = true then 3 else if D.name.size = 0 ∨ D.body = false then 10 else if allF (D.good n) D.abs.length 0 = true ∧ (D.kind = 3 → D.abs.length = 1) then 0 else 10
theorem spec_in : 0 ≤ D.spec n ∧ D.spec n ≤ 1000 := by
  unfold Cx.spec
  repeat' split
  all_goals omega
theorem not_long (h : D.isLong = false) : (D.name.size ≤ 16 ∧ D.abs.length ≤ 4) ∧ ∀ i, (D.ab i).tg.length ≤ 2 ∧ (D.ab i).code.length ≤ 32 := by
  unfold Cx.isLong at h
  simp only [Bool.not_eq_false', Bool.and_eq_true, decide_eq_true_eq] at h
  obtain ⟨h1, h2⟩ := h
  refine ⟨h2, fun i => ?_⟩
  by_cases hi : i < D.abs.length
  · have := allF_iff.1 h1 i (Nat.zero_le _) (by omega)
    simpa [Cx.fine] using this
  · have e : D.ab i = Ab.zero := by
      unfold Cx.ab
      simp [List.getD_eq_getElem?_getD, List.getElem?_eq_none (by omega : D.abs.length ≤ i)]
    rw [e]
    simp [Ab.zero]
/-! ### facts and known calls -/
theorem str_eq (nm : ByteArray) {b : Bool} (hb : decide (nm.size = 0) = b) (P : Program) (t : TypeId) (w : World) : (binOp .eql t (.string nm) (.string .empty)).run P w = .ok (.bool b) w ∧ (binOp .neq t (.string nm) (.string .empty)).run P w = .ok (.bool (!b)) w := by
  obtain ⟨⟨l⟩⟩ := nm
  cases l with
  | nil =>
    subst hb
    have e : (⟨⟨[]⟩⟩ : ByteArray) = .empty := rfl
    rw [e]
    exact ⟨by simp [binOp, Op.stringOp], by simp [binOp, Op.stringOp]⟩
  | cons x l =>
    have : b = false := by rw [← hb]; simp [ByteArray.size]
    subst this
    have e : (⟨⟨x :: l⟩⟩ : ByteArray) ≠ .empty := fun h => by
      have := congrArg ByteArray.size h
      simp [ByteArray.size] at this
    exact ⟨by simp [binOp, Op.stringOp], by simp [binOp, Op.stringOp]⟩
theorem nameF_ok {b : Bool} (hb : decide (D.name.size = 0) = b) : FsOK (nameF b) (D.rho n i) :=
  fs_cons ⟨.string D.name, .string .empty, .bool b, rfl, rfl, rfl, by simp, by simp, fun P t w => (str_eq D.name hb P t w).1⟩
    (fs_cons ⟨.string D.name, .string .empty, .bool (!b), rfl, rfl, rfl, by simp, by simp, fun P t w => (str_eq D.name hb P t w).2⟩ fs_nil)
theorem ke14 (h : D.OK w) {b : Bool} (hb : D.isLong = b) : KEok Try.prog (D.rho n i) w ⟨14, [cardV], [], .bool b⟩ := fun φ vs w' hφ hs ho hv _ => by
  rw [dargs1_inv hφ hv]
  refine (longC (h.later hs ho)).mono ?_
  rintro e w'' ⟨rfl, hbl⟩
  exact ⟨_, rfl, by simp only [VR, hb], hbl⟩
theorem ke15 (h : D.OK w) {b : Bool} (hb : D.body = b) : KEok Try.prog (D.rho n i) w ⟨15, [cardV], [], .bool b⟩ := fun φ vs w' hφ hs ho hv _ => by
  rw [dargs1_inv hφ hv]
  refine (bodyC (h.later hs ho)).mono ?_
  rintro e w'' ⟨rfl, hbl⟩
  exact ⟨_, rfl, by simp only [VR, hb], hbl⟩
theorem ke18 (h : D.OK w) {b : Bool} (hb : D.body = b) : KEok Try.prog (D.rho n i) w ⟨18, [cardV], [], .bool b⟩ := fun φ vs w' hφ hs ho hv _ => by
  rw [dargs1_inv hφ hv]
  refine (bodyR (h.later hs ho)).mono ?_
  rintro e w'' ⟨rfl, hbl⟩
  exact ⟨_, rfl, by simp only [VR, hb], hbl⟩
theorem cinv {φ : Phi} (hφ : φ.ρ = D.rho n i) {vs : List Value} (h : VRs φ [.sym 33, si 22, si 0] vs) : vs = [.slice (D.ca i) (D.ab i).code.length (D.cc i), .int .i64 ((D.ab i).tg.length : Int), .int .i64 n] := by
  simp only [VRs, VR, si, hφ] at h
  obtain ⟨_, _, rfl, rfl, _, _, rfl, rfl, _, _, rfl, rfl, rfl⟩ := h
  rfl
theorem ke38 (h : D.OK w) (hn : I64 n) : KEok Try.prog (D.rho n i) w ⟨38, [.sym 33, si 22, si 0], [], si 29⟩ := fun φ vs w' hφ hs ho hv _ => by
  rw [cinv hφ hv]
  have f := h.fit i
  refine (codeC ((h.later hs ho).code i) (i64_n (by have := f.tl; omega)) hn f.cl).mono ?_
  rintro e w'' ⟨rfl, hbl⟩
  exact ⟨_, rfl, by simp only [VR, si, hφ]; rfl, hbl⟩
theorem ke28 (h : D.OK w) (hn : I64 n) : KEok Try.prog (D.rho n i) w ⟨28, [.sym 33, si 22, si 0], [], si 29⟩ := fun φ vs w' hφ hs ho hv _ => by
  rw [cinv hφ hv]
  have f := h.fit i
  refine (codeR ((h.later hs ho).code i) (i64_n (by have := f.tl; omega)) hn f.cl).mono ?_
  rintro e w'' ⟨rfl, hbl⟩
  exact ⟨_, rfl, by simp only [VR, si, hφ]; rfl, hbl⟩
theorem dargs2 : VRs ⟨fun _ => none, D.rho n 0⟩ [cardV, si 0] [D.val, .int .i64 n] := by
  have h := dargs1 (D := D) (n := n) (i := 0) (φ := ⟨fun _ => none, D.rho n 0⟩) rfl
  simp only [VRs] at h ⊢
  obtain ⟨y, ys, e, h1, h2⟩ := h
  simp only [List.cons.injEq] at e
  obtain ⟨rfl, rfl⟩ := e
  exact ⟨_, _, rfl, h1, _, _, rfl, by simp only [si, VR]; rfl, rfl⟩
/-! ### the program's check -/
theorem vaShape : shapeC 1 12 11 13 0 vaC = true := by kernel_rfl
theorem vbShape : shapeC 1 12 11 13 0 vbC = true := by kernel_rfl
theorem vcShape : shapeC 1 12 11 13 0 vcC = true := by kernel_rfl
theorem vdShape : shapeC 3 12 11 13 0 vdC = true := by kernel_rfl
theorem vd1leaf : allL (goOr 1 13 10) vdt1L = true := by kernel_rfl
theorem vd2leaf : allL (goOr 2 13 10) vdt2L = true := by kernel_rfl
theorem e0 : D.v n i 0 = n := rfl
theorem e1 : D.v n i 1 = D.kind := rfl
theorem e11 : D.v n i 11 = (D.abs.length : Int) := rfl
theorem out3 (t : TrX Leaf) (z : Int) (ht : t = .cut 0 (-1) (.leaf (.ret (.int .i64 2))) (.cut 0 (40) (.leaf (.ret (.int .i64 z))) (.leaf (.ret (.int .i64 2))))) : valX t (D.v n i) = .ret (.int .i64 (if n < 0 ∨ 40 < n then 2 else z)) := by
  subst ht
  simp only [valX]
  rw [e0]
  by_cases h1 : n ≤ -1
  · rw [if_pos h1, if_pos (by omega)]
  · rw [if_neg h1]
    by_cases h2 : n ≤ 40
    · rw [if_pos h2, if_neg (by omega)]
    · rw [if_neg h2, if_pos (by omega)]
theorem checkC (h : D.OK w) (hn : I64 n) : Calls Try.prog 8 #[D.val, .int .i64 n] w fun e w' => e = .returned (.int .i64 (D.spec n)) ∧ Below w.heap.size w w' := by
  cases hl : D.isLong with
  | true =>
    have e : D.spec n = if n < 0 ∨ 40 < n then 2 else 3 := by unfold Cx.spec; rw [if_pos hl]
    rw [e]
    refine ix_calls (KT := vaKT) vaauto Try.func8 (by kernel_rfl) (args := [cardV, si 0]) (by kernel_rfl) (c0 := vac0) rfl rfl (by kernel_rfl) rfl rfl rfl (I := fun _ _ => True) (n := D.abs.length) (rho := D.rho n) vaShape rfl (fun i => rfl) (fun i => rfl) (fun i hi => if_pos hi)
      (fun p c hp h0 i j => ?_) (fun i hi e he => ?_) (fun p c hp i hi _ => ?_) (fun ρ => rfl) (.ret (c := vac0) rfl trivial (out3 _ 3 rfl)) dargs2
    · match p, hp, h0 with
      | p + 1, hp, _ => cases hp
    · simp only [vaKT, List.mem_singleton] at he
      subst he
      exact ke14 h hl
    · match p, hp with
      | 0, hp => cases hp; exact ⟨ivE_ok h hn hi, fun iv fs => eent_ok fs_nil⟩
  | false =>
    obtain ⟨hs, hf⟩ := not_long hl
    cases hm : decide (D.name.size = 0) with
    | true =>
      have e : D.spec n = if n < 0 ∨ 40 < n then 2 else 10 := by unfold Cx.spec; rw [if_neg (c := D.isLong = true) (by rw [hl]; simp), if_pos (c := D.name.size = 0 ∨ D.body = false) (.inl (of_decide_eq_true hm))]
      rw [e]
      refine ix_calls (KT := vbKT) vbauto Try.func8 (by kernel_rfl) (args := [cardV, si 0]) (by kernel_rfl) (c0 := vbc0) rfl rfl (by kernel_rfl) rfl rfl rfl (I := fun _ _ => True) (n := D.abs.length) (rho := D.rho n) vbShape rfl (fun i => rfl) (fun i => rfl) (fun i hi => if_pos hi)
        (fun p c hp h0 i j => ?_) (fun i hi e he => ?_) (fun p c hp i hi _ => ?_) (fun ρ => rfl) (.ret (c := vbc0) rfl trivial (out3 _ 10 rfl)) dargs2
      · match p, hp, h0 with
        | p + 1, hp, _ => cases hp
      · simp only [vbKT, List.mem_singleton] at he
        subst he
        exact ke14 h hl
      · match p, hp with
        | 0, hp => cases hp; exact ⟨ivE_ok h hn hi, fun iv fs => eent_ok (nameF_ok hm)⟩
    | false =>
      have hm' := of_decide_eq_false hm
      cases hb : D.body with
      | false =>
        have e : D.spec n = if n < 0 ∨ 40 < n then 2 else 10 := by unfold Cx.spec; rw [if_neg (c := D.isLong = true) (by rw [hl]; simp), if_pos (c := D.name.size = 0 ∨ D.body = false) (.inr hb)]
        rw [e]
        refine ix_calls (KT := vcKT) vcauto Try.func8 (by kernel_rfl) (args := [cardV, si 0]) (by kernel_rfl) (c0 := vcc0) rfl rfl (by kernel_rfl) rfl rfl rfl (I := fun _ _ => True) (n := D.abs.length) (rho := D.rho n) vcShape rfl (fun i => rfl) (fun i => rfl) (fun i hi => if_pos hi)
          (fun p c hp h0 i j => ?_) (fun i hi e he => ?_) (fun p c hp i hi _ => ?_) (fun ρ => rfl) (.ret (c := vcc0) rfl trivial (out3 _ 10 rfl)) dargs2
        · match p, hp, h0 with
          | p + 1, hp, _ => cases hp
        · simp only [vcKT, List.mem_cons, List.not_mem_nil, or_false] at he
          rcases he with rfl | rfl
          · exact ke14 h hl
          · exact ke15 h hb
        · match p, hp with
          | 0, hp => cases hp; exact ⟨ivE_ok h hn hi, fun iv fs => eent_ok (nameF_ok hm)⟩
      | true =>
        have e : D.spec n = if n < 0 ∨ 40 < n then 2 else if allF (D.good n) D.abs.length 0 = true ∧ (D.kind = 3 → D.abs.length = 1) then 0 else 10 := by unfold Cx.spec; rw [if_neg (c := D.isLong = true) (by rw [hl]; simp), if_neg (c := D.name.size = 0 ∨ D.body = false) (by rw [hb]; rintro (h | h); exact hm' h; cases h)]
        rw [e]
        have hr : Rd vdC (D.v n) (fun _ _ => True) 0 0 (.int .i64 (if n < 0 ∨ 40 < n then 2 else if allF (D.good n) D.abs.length 0 = true ∧ (D.kind = 3 → D.abs.length = 1) then 0 else 10)) := by
          have ent : valX vdt0 (D.v n 0) = if n < 0 ∨ 40 < n then .ret (.int .i64 2) else if D.kind = 3 then .goto 2 [.int .i64 0] else .goto 1 [.int .i64 0] := by
            simp only [vdt0, vdt0L, vdt0R, valX]
            rw [e0, e1]
            by_cases h1 : n ≤ -1
            · rw [if_pos h1, if_pos (by omega)]
            · rw [if_neg h1]
              by_cases h2 : n ≤ 40
              · rw [if_pos h2, if_neg (c := n < 0 ∨ 40 < n) (by omega)]
                by_cases h3 : D.kind ≤ 2
                · rw [if_pos h3, if_neg (by omega)]
                · rw [if_neg h3]
                  by_cases h4 : D.kind ≤ 3
                  · rw [if_pos h4, if_pos (by omega)]
                  · rw [if_neg h4, if_neg (by omega)]
              · rw [if_neg h2, if_pos (by omega)]
          by_cases k1 : n < 0 ∨ 40 < n
          · rw [if_pos k1] at ent ⊢
            exact .ret (c := vdc0) rfl trivial ent
          · rw [if_neg k1] at ent ⊢
            by_cases k3 : D.kind = 3
            · rw [if_pos k3] at ent
              refine .zero (c := vdc0) rfl trivial ent ?_
              have s := rd_search (C := vdC) (v := D.v n) (I := fun _ _ => True) (p := 2) (n := D.abs.length) (j := 13) (k := .i64) (c := vdc2) (g := D.good n) (rB := .int .i64 10) (rG := .int .i64 (if D.abs.length = 1 then 0 else 10)) rfl (fun _ _ => trivial)
                (fun i hi => (rel_in hi).trans (by
                  have := goOr_ok (allL_ok vd2leaf (v := D.v n i))
                  unfold Cx.good
                  rw [decide_eq_true k3]
                  exact this)) (.ret (c := vdc2) rfl trivial ((rel_out).trans (by
                  simp only [vdt2R, valX]
                  rw [e11]
                  by_cases g1 : (D.abs.length : Int) ≤ 0
                  · rw [if_pos g1, if_neg (by omega)]
                  · rw [if_neg g1]
                    by_cases g2 : (D.abs.length : Int) ≤ 1
                    · rw [if_pos g2, if_pos (by omega)]
                    · rw [if_neg g2, if_neg (by omega)]))) D.abs.length 0 (by omega)
              cases ha : allF (D.good n) D.abs.length 0 with
              | true =>
                rw [ha] at s
                simp only [if_true] at s
                simp only [k3, true_and, forall_const]
                exact s
              | false => rw [ha] at s; simpa using s
            · rw [if_neg k3] at ent
              refine .zero (c := vdc0) rfl trivial ent ?_
              have s := rd_search (C := vdC) (v := D.v n) (I := fun _ _ => True) (p := 1) (n := D.abs.length) (j := 13) (k := .i64) (c := vdc1) (g := D.good n) (rB := .int .i64 10) (rG := .int .i64 0) rfl (fun _ _ => trivial)
                (fun i hi => (rel_in hi).trans (by
                  have := goOr_ok (allL_ok vd1leaf (v := D.v n i))
                  unfold Cx.good
                  rw [decide_eq_false k3]
                  exact this)) (.ret (c := vdc1) rfl trivial rel_out) D.abs.length 0 (by omega)
              cases ha : allF (D.good n) D.abs.length 0 with
              | true =>
                rw [ha] at s
                simp only [if_true] at s
                simp only [k3, false_implies, and_true, if_true]
                exact s
              | false => rw [ha] at s; simpa using s
        refine ix_calls (KT := vdKT) vdauto Try.func8 (by kernel_rfl) (args := [cardV, si 0]) (by kernel_rfl) (c0 := vdc0) rfl rfl (by kernel_rfl) rfl rfl rfl (I := fun _ _ => True) (n := D.abs.length) (rho := D.rho n) vdShape rfl (fun i => rfl) (fun i => rfl) (fun i hi => if_pos hi)
          (fun p c hp h0 i j => ?_) (fun i hi e he => ?_) (fun p c hp i hi _ => ?_) (fun ρ => rfl) hr dargs2
        · match p, hp, h0 with
          | 1, hp, _ => cases hp; exact dagree i j
          | 2, hp, _ => cases hp; exact dagree i j
        · simp only [vdKT, List.mem_cons, List.not_mem_nil, or_false] at he
          rcases he with rfl | rfl | rfl
          · exact ke14 h hl
          · exact ke15 h hb
          · exact ke38 h hn
        · match p, hp with
          | 0, hp => cases hp; exact ⟨ivE_ok h hn hi, fun iv fs => eent_ok (nameF_ok hm)⟩
          | 1, hp => cases hp; exact ⟨ivN_ok h hn hi (hf i).1 (hf i).2, fun iv fs => eloop_ok h (nameF_ok hm)⟩
          | 2, hp => cases hp; exact ⟨ivN_ok h hn hi (hf i).1 (hf i).2, fun iv fs => eloop_ok h (nameF_ok hm)⟩
end
end
end Go.Proofs.Ytgbpkilegbechaa.cards
