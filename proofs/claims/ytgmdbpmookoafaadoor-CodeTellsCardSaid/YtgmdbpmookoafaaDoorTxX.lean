/-
  The text of a code: the program's function tells these lines, one behind the other.
-/
import Derived.Test.YtgmdbpmookoafaaDoorTxW
import Derived.Lib.AppendIntMem
namespace Go.Proofs.YtgmdbpmookoafaaDoor.text
open Go.Ev Go.RowKit Go.Lib
set_option linter.unusedVariables false
noncomputable section
/-- The lines from one on, so many. -/
def linesFrom (xs : List Ins) : Nat → Nat → List UInt8
  | _, 0 => []
  | i, m + 1 => lineA xs i ++ linesFrom xs (i + 1) m
def textB (xs : List Ins) : List UInt8 := linesFrom xs 0 xs.length
/-- The library's Itoa, in all later worlds. -/
def ItoaOK (w0 : World) : Prop := ∀ n, I64 n → ∀ w : World, w0.heap.size ≤ w.heap.size → (∀ k, k < w0.heap.size → w.heap[k]? = w0.heap[k]?) → Calls Tryd.prog 26 #[.int .i64 n] w fun e w' => e = .returned (.string (bstr (itoa n))) ∧ Below w.heap.size w w'
section
variable {w : World} {oa : Option Addr} {cap B O : Nat} {xs : List Ins} {s : List UInt8} {i : Nat}
theorem zeroI_ok {iv : Ivs} {rs : Rels} {v : Nat → Int} (hv : VOK iv rs v) {j : Nat} {b : Bool} (h : zeroI iv j = some b) : b = decide (v j = 0) := by
  have := hv.1 j
  unfold zeroI at h
  cases h1 : decide ((ivAt iv j).1 = 0 ∧ (ivAt iv j).2 = 0) with
  | true =>
    have := of_decide_eq_true h1
    simp only [h1, Option.some.injEq] at h
    rw [← h]
    exact (decide_eq_true (by omega)).symm
  | false => cases h2 : decide (0 < (ivAt iv j).1 ∨ (ivAt iv j).2 < 0) with
    | true =>
      have := of_decide_eq_true h2
      simp only [h1, h2, Option.some.injEq] at h
      rw [← h]
      exact (decide_eq_false (by omega)).symm
    | false => simp [h1, h2] at h
theorem wordI_ok {iv : Ivs} {rs : Rels} {v : Nat → Int} (hv : VOK iv rs v) {l : List UInt8} (h : wordI iv = some l) : l = wordOf (v 6) := by
  have := hv.1 6
  unfold wordI at h
  cases h1 : decide ((ivAt iv 6).2 < 1 ∨ 24 < (ivAt iv 6).1) with
  | true =>
    have := of_decide_eq_true h1
    simp only [h1, Option.some.injEq] at h
    rw [← h]
    unfold wordOf
    rw [if_neg (by omega)]
  | false => cases h2 : decide ((ivAt iv 6).1 = (ivAt iv 6).2) with
    | true =>
      have := of_decide_eq_true h2
      simp only [h1, h2, Option.some.injEq] at h
      rw [← h]
      congr 1
      omega
    | false => simp [h1, h2] at h
theorem leafP_ok {pre : List VV} {iv : Ivs} {rs : Rels} {v : Nat → Int} (hv : VOK iv rs v) {o : Leaf} (h : leafP pre iv rs o = true) :
    ∃ x, o = .goto 2 [.cat (pre ++ lineP (wordOf (v 6)) (decide (v 7 = 0)) (decide (v 8 = 0))), x, .sint .i64 4] ∧ lenOK (pre ++ lineP (wordOf (v 6)) (decide (v 7 = 0)) (decide (v 8 = 0))) x = true := by
  unfold leafP at h
  split at h
  · split at h
    · rename_i h1 h2 h3 h4 h5
      split at h
      · rename_i h6
        rw [wordI_ok hv h3, zeroI_ok hv h4, zeroI_ok hv h5] at h6
        have e := vvsEq_eq _ _ h6
        subst e
        rw [Nat.eq_of_beq_eq_true h1, Nat.eq_of_beq_eq_true h2]
        exact ⟨_, rfl, h⟩
      · cases h
    · cases h
  · cases h
theorem lenOK_ok {ρ : Rho} {ps : List VV} {x : VV} {t : List UInt8} (h : lenOK ps x = true) (ht : textS ρ ps = some (bstr t)) : sval ρ x = some (.int .i64 t.length) := by
  unfold lenOK at h
  split at h
  · have e := vvsEq_eq _ _ h
    subst e
    simp only [sval, ht]
    rfl
  · split at h
    · rename_i n s
      have := of_decide_eq_true h
      subst this
      have : textS ρ [.string s] = some s := textS_one rfl
      rw [this] at ht
      cases ht
      rfl
    · cases h
  · cases h
theorem textS_pre {ρ : Rho} {p : VV} {l : List VV} {a b : List UInt8} (h1 : pieceS ρ p = some (bstr a)) (h2 : textS ρ l = some (bstr b)) : textS ρ ([p] ++ l) = some (bstr (a ++ b)) := by
  rw [List.singleton_append, textS_cons h1 h2, bstr_app]
theorem extT (hK : ItoaOK w) (hL : Lst w oa B O xs) : ∀ e ∈ ctKT, KEok Tryd.prog (trho oa cap B O xs s i) w e := by
  intro e he
  obtain ⟨_, f2, f3⟩ := hL.fit i
  simp only [ctKT, List.mem_cons, List.not_mem_nil, or_false] at he
  rcases he with rfl | rfl
  · intro φ vs w' hφ h1 h2 hv hp
    obtain ⟨v, vl, rfl, hv1, rfl⟩ : ∃ v vl, vs = v :: vl ∧ VR φ (.sint .i64 7) v ∧ vl = [] := by
      simp only [VRs] at hv
      obtain ⟨v, vl, h1, h2, h3⟩ := hv
      exact ⟨v, vl, h1, h2, h3⟩
    simp only [VR, hφ] at hv1
    subst hv1
    refine (hK _ f2 w' h1 h2).mono ?_
    rintro en w'' ⟨rfl, hb⟩
    exact ⟨_, rfl, by simp only [VR, hφ]; rfl, hb⟩
  · intro φ vs w' hφ h1 h2 hv hp
    obtain ⟨v, vl, rfl, hv1, rfl⟩ : ∃ v vl, vs = v :: vl ∧ VR φ (.sint .i64 8) v ∧ vl = [] := by
      simp only [VRs] at hv
      obtain ⟨v, vl, h1, h2, h3⟩ := hv
      exact ⟨v, vl, h1, h2, h3⟩
    simp only [VR, hφ] at hv1
    subst hv1
    refine (hK _ f3 w' h1 h2).mono ?_
    rintro en w'' ⟨rfl, hb⟩
    exact ⟨_, rfl, by simp only [VR, hφ]; rfl, hb⟩
theorem tagree {t : List UInt8} (i j : Nat) : agree 3 (trho oa cap B O xs s i) (trho oa cap B O xs t j) := fun k hk => by
  match k, hk with
  | 0, _ => exact ⟨rfl, rfl, rfl, rfl, rfl⟩
  | 1, _ => exact ⟨rfl, rfl, rfl, rfl, rfl⟩
  | 2, _ => exact ⟨rfl, rfl, rfl, rfl, rfl⟩
theorem lineP_here : textS (trho oa cap B O xs s i) (lineP (wordOf (tval xs s i 6)) (decide (tval xs s i 7 = 0)) (decide (tval xs s i 8 = 0))) = some (bstr (lineA xs i)) := lineP_text rfl rfl rfl rfl
theorem ok2 (hK : ItoaOK w) (hL : Lst w oa B O xs) (hn : xs.length ≤ 40) (h1 : 1 ≤ s.length) (hs : s.length ≤ 4000) (hi : i ≤ xs.length) : @CutP.OK (extKT Tryd.prog ctKT) ctc2 w (trho oa cap B O xs s i) := by
  letI : Ext := extKT Tryd.prog ctKT
  exact CutP.ok_of (extT hK hL) (tiv1 hL hn h1 hs hi) fun iv fs => tloop_ok hL hn
theorem ok1 (hK : ItoaOK w) (hL : Lst w oa B O xs) (hn : xs.length ≤ 40) (h1 : 1 ≤ s.length) (hs : s.length ≤ 4000) (hi : i ≤ xs.length) : @CutP.OK (extKT Tryd.prog ctKT) ctc1 w (trho oa cap B O xs s i) := by
  letI : Ext := extKT Tryd.prog ctKT
  exact CutP.ok_of (extT hK hL) (tiv1 hL hn h1 hs hi) fun iv fs => tloop_ok hL hn
theorem ok0 (hK : ItoaOK w) (hL : Lst w oa B O xs) (hn : xs.length ≤ 40) (hs : s.length ≤ 4000) (hi : i ≤ xs.length) : @CutP.OK (extKT Tryd.prog ctKT) ctc0 w (trho oa cap B O xs s i) := by
  letI : Ext := extKT Tryd.prog ctKT
  exact CutP.ok_of (extT hK hL) (tiv0 hL hn hs hi) fun iv fs => tent_ok
theorem carry2 {t : List UInt8} {ps : List VV} {x : VV} (hi : i < xs.length) (hp : textS (trho oa cap B O xs s i) ps = some (bstr t)) (hx : lenOK ps x = true) : carry (trho oa cap B O xs s i) (trho oa cap B O xs t (i + 1)) [.cat ps, x, .sint .i64 4] ctc2.ys := by
  have e : ctc2.ys = [.sym 9, .sint .i64 10, .sint .i64 3] ∨ ctc2.ys = [.sym 9, .tlen [.sym 9], .sint .i64 3] := by first | exact .inl rfl | exact .inr rfl
  have c1 : Car (trho oa cap B O xs s i) (trho oa cap B O xs t (i + 1)) (.cat ps, .sym 9) := ⟨_, by simp only [sval, hp]; rfl, rfl⟩
  have c3 : Car (trho oa cap B O xs s i) (trho oa cap B O xs t (i + 1)) (.sint .i64 4, .sint .i64 3) := ⟨.int .i64 ((i : Int) + 1), by
    show some (Value.int .i64 (if i < xs.length then (i : Int) + 1 else 1)) = _
    rw [if_pos hi], rfl⟩
  have hl := lenOK_ok hx hp
  rcases e with e | e
  · rw [e]
    refine ⟨c1, ?_, c3, trivial⟩
    unfold lenOK at hx
    split at hx
    · exact ⟨_, hl, rfl⟩
    · exact ⟨_, hl, rfl⟩
    · cases hx
  · rw [e]
    refine ⟨c1, ?_, c3, trivial⟩
    have h9 : sval (trho oa cap B O xs t (i + 1)) (.tlen [.sym 9]) = some (.int .i64 t.length) := by
      have : textS (trho oa cap B O xs t (i + 1)) [.sym 9] = some (bstr t) := textS_one rfl
      simp only [sval, this]
      rfl
    unfold lenOK at hx
    split at hx
    · exact ⟨_, hl, h9⟩
    · exact ⟨_, hl, h9⟩
    · cases hx
/-- From a text on. -/
theorem run2 (hK : ItoaOK w) (hL : Lst w oa B O xs) (hn : xs.length ≤ 40) : ∀ (m i : Nat) (s : List UInt8), i + m = xs.length → 1 ≤ i → 1 ≤ s.length → s.length ≤ 50 * i → ∃ k, @Runs (extKT Tryd.prog ctKT) ctC w (.string (bstr (s ++ linesFrom xs i m))) k 2 (trho oa cap B O xs s i) := by
  letI : Ext := extKT Tryd.prog ctKT
  intro m
  induction m with
  | zero =>
    intro i s hi h0 h1 hs
    refine run_ret (c := ctc2) (r := .cat [.sym 9]) rfl (ok2 hK hL hn h1 (by omega) (by omega)) ?_ ?_
    · show valX ctt2 _ = _
      simp only [ctt2, valX]
      rw [if_neg (show ¬ (trho oa cap B O xs s i).int 3 < (trho oa cap B O xs s i).int 2 by show ¬ ((i : Int) < (xs.length : Int)); omega)]
      rfl
    · have : textS (trho oa cap B O xs s i) [.sym 9] = some (bstr s) := textS_one rfl
      simp only [sval, this, linesFrom, List.append_nil]
  | succ m ih =>
    intro i s hi h0 h1 hs
    have hc := ok2 (cap := cap) hK hL hn h1 (by omega : s.length ≤ 4000) (by omega : i ≤ xs.length)
    have hv : VOK ctiv2 [] (trho oa cap B O xs s i).int := VOK_of (tiv1 hL hn h1 (by omega) (by omega))
    obtain ⟨iv', rs', k1, k2⟩ := allI_ok all2 hv
    obtain ⟨x, e1, e2⟩ := leafP_ok k1 k2
    have hp := textS_pre (ρ := trho oa cap B O xs s i) (p := .sym 9) (a := s) rfl (lineP_here (oa := oa) (cap := cap) (B := B) (O := O) (xs := xs) (s := s) (i := i))
    have hl := lineA_len (i := i) hL
    refine run_step (c := ctc2) (d := ctc2) rfl hc (q := 2) (xs := [.cat ([.sym 9] ++ lineP (wordOf (tval xs s i 6)) (decide (tval xs s i 7 = 0)) (decide (tval xs s i 8 = 0))), x, .sint .i64 4]) ?_ rfl (tagree (t := s ++ lineA xs i) i (i + 1)) (carry2 (by omega) hp e2) ?_
    · show valX ctt2 _ = _
      simp only [ctt2, valX]
      rw [if_pos (show (trho oa cap B O xs s i).int 3 < (trho oa cap B O xs s i).int 2 by show ((i : Int) < (xs.length : Int)); omega)]
      exact e1
    · have := ih (i + 1) (s ++ lineA xs i) (by omega) (by omega) (by rw [List.length_append]; omega) (by rw [List.length_append]; omega)
      rw [List.append_assoc] at this
      exact this
theorem run1 (hK : ItoaOK w) (hL : Lst w oa B O xs) (hn : xs.length ≤ 40) : ∃ k, @Runs (extKT Tryd.prog ctKT) ctC w (.string (bstr (textB xs))) k 1 (trho oa cap B O xs [0] 0) := by
  letI : Ext := extKT Tryd.prog ctKT
  have hc := ok1 (cap := cap) (s := [0]) hK hL hn (by decide) (by decide) (Nat.zero_le xs.length)
  rcases Nat.eq_zero_or_pos xs.length with e | e
  · refine run_ret (c := ctc1) (r := .string ⟨#[]⟩) rfl hc ?_ ?_
    · show valX ctt1 _ = _
      simp only [ctt1, valX]
      rw [if_neg (show ¬ (trho oa cap B O xs [0] 0).int 3 < (trho oa cap B O xs [0] 0).int 2 by show ¬ (((0 : Nat) : Int) < (xs.length : Int)); omega)]
      rfl
    · unfold textB
      rw [e]
      rfl
  · have hv : VOK ctiv1 [] (trho oa cap B O xs [0] 0).int := VOK_of (tiv1 hL hn (by decide) (by decide) (Nat.zero_le _))
    obtain ⟨iv', rs', k1, k2⟩ := allI_ok all1 hv
    obtain ⟨x, e1, e2⟩ := leafP_ok k1 k2
    have hp := lineP_here (oa := oa) (cap := cap) (B := B) (O := O) (xs := xs) (s := [0]) (i := 0)
    have hl := lineA_len (i := 0) hL
    obtain ⟨n, hn1⟩ : ∃ n, xs.length = n + 1 := ⟨xs.length - 1, by omega⟩
    have hpos : 1 ≤ (lineA xs 0).length := by
      unfold lineA lineB
      split
      · simp
      · simp; omega
    refine run_step (c := ctc1) (d := ctc2) rfl hc (q := 2) (xs := [.cat ([] ++ lineP (wordOf (tval xs [0] 0 6)) (decide (tval xs [0] 0 7 = 0)) (decide (tval xs [0] 0 8 = 0))), x, .sint .i64 4]) ?_ rfl (tagree (t := lineA xs 0) 0 1) (carry2 e hp e2) ?_
    · show valX ctt1 _ = _
      simp only [ctt1, valX]
      rw [if_pos (show (trho oa cap B O xs [0] 0).int 3 < (trho oa cap B O xs [0] 0).int 2 by show (((0 : Nat) : Int) < (xs.length : Int)); omega)]
      exact e1
    · have := run2 (cap := cap) hK hL hn n 1 (lineA xs 0) (by omega) (by omega) hpos (by omega)
      unfold textB
      rw [hn1]
      exact this
theorem textC (hK : ItoaOK w) (hL : Lst w oa B O xs) (hn : xs.length ≤ 40) :
    Calls Tryd.prog 15 #[.slice oa xs.length cap] w fun e w' => e = .returned (.string (bstr (textB xs))) ∧ Below w.heap.size w w' := by
  letI : Ext := extKT Tryd.prog ctKT
  obtain ⟨k, hk⟩ := run1 (cap := cap) hK hL hn
  have h0 : ∃ k, Runs ctC w (.string (bstr (textB xs))) k 0 (trho oa cap B O xs [0] 0) := by
    refine run_step (c := ctc0) (d := ctc1) rfl (ok0 hK hL hn (by decide) (Nat.zero_le _)) (q := 1) (xs := [.int .i64 0]) rfl rfl (tagree 0 0) ?_ ⟨k, hk⟩
    have e : ctc1.ys = [.sint .i64 3] := rfl
    rw [e]
    exact ⟨⟨_, rfl, rfl⟩, trivial⟩
  obtain ⟨k, hk⟩ := h0
  exact auto_calls ctauto Tryd.func15 (by kernel_rfl) (args := [.sym 0]) (by kernel_rfl) (c := ctc0) rfl rfl (by kernel_rfl) rfl rfl (fun r b h => by cases h) (by
    simp only [VRs, VR]
    exact ⟨_, _, rfl, rfl, rfl⟩) hk
end
end
end Go.Proofs.YtgmdbpmookoafaaDoor.text
