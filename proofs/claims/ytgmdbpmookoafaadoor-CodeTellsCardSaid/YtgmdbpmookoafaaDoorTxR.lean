/-
  The document's text of a code: its function tells the same lines.
-/
import Derived.Test.YtgmdbpmookoafaaDoorTxX
import Derived.Test.YtgmdbpmookoafaaDoorTxRA
namespace Go.Proofs.YtgmdbpmookoafaaDoor.text
open Go.Ev Go.RowKit Go.Lib
set_option linter.unusedVariables false
noncomputable section
def leafR (iv : Ivs) (rs : Rels) : Leaf → Bool
  | .goto q [.cat ps, .sint .i64 k] => match Nat.beq q 1, Nat.beq k 4, wordI iv, zeroI iv 7, zeroI iv 8 with
    | true, true, some w, some a, some b => vvsEq ps ([.sym 9] ++ lineP w a b)
    | _, _, _, _, _ => false
  | _ => false
theorem allR : allI leafR crt1L criv1 [] = true := by kernel_rfl
theorem leafR_ok {iv : Ivs} {rs : Rels} {v : Nat → Int} (hv : VOK iv rs v) {o : Leaf} (h : leafR iv rs o = true) : o = .goto 1 [.cat ([.sym 9] ++ lineP (wordOf (v 6)) (decide (v 7 = 0)) (decide (v 8 = 0))), .sint .i64 4] := by
  unfold leafR at h
  split at h
  · split at h
    · rename_i h1 h2 h3 h4 h5
      rw [wordI_ok hv h3, zeroI_ok hv h4, zeroI_ok hv h5] at h
      rw [vvsEq_eq _ _ h, Nat.eq_of_beq_eq_true h1, Nat.eq_of_beq_eq_true h2]
    · cases h
  · cases h
/-- The document's digits, in all later worlds. -/
def DigitsOK (w0 : World) : Prop := ∀ n, I64 n → ∀ w : World, w0.heap.size ≤ w.heap.size → (∀ k, k < w0.heap.size → w.heap[k]? = w0.heap[k]?) → Calls Tryd.prog 28 #[.int .i64 n] w fun e w' => e = .returned (.string (bstr (itoa n))) ∧ Below w.heap.size w w'
section
variable {w : World} {oa : Option Addr} {cap B O : Nat} {xs : List Ins} {s : List UInt8} {i : Nat}
theorem extR (hK : DigitsOK w) (hL : Lst w oa B O xs) : ∀ e ∈ crKT, KEok Tryd.prog (trho oa cap B O xs s i) w e := by
  intro e he
  obtain ⟨_, f2, f3⟩ := hL.fit i
  simp only [crKT, List.mem_cons, List.not_mem_nil, or_false] at he
  rcases he with rfl | rfl
  · intro φ vs w' hφ h1 h2 hv hp
    obtain ⟨v, vl, rfl, hv1, rfl⟩ : ∃ v vl, vs = v :: vl ∧ VR φ (.sint .i64 7) v ∧ vl = [] := by
      simp only [VRs] at hv
      obtain ⟨v, vl, h1, h2, h3⟩ := hv
      exact ⟨v, vl, h1, h2, h3⟩
    simp only [VR, hφ] at hv1
    subst hv1
    refine (hK _ f2 w' h1 h2).mono ?_
    rintro en w'' ⟨rfl, hb⟩
    exact ⟨_, rfl, by simp only [VR, hφ]; rfl, hb⟩
  · intro φ vs w' hφ h1 h2 hv hp
    obtain ⟨v, vl, rfl, hv1, rfl⟩ : ∃ v vl, vs = v :: vl ∧ VR φ (.sint .i64 8) v ∧ vl = [] := by
      simp only [VRs] at hv
      obtain ⟨v, vl, h1, h2, h3⟩ := hv
      exact ⟨v, vl, h1, h2, h3⟩
    simp only [VR, hφ] at hv1
    subst hv1
    refine (hK _ f3 w' h1 h2).mono ?_
    rintro en w'' ⟨rfl, hb⟩
    exact ⟨_, rfl, by simp only [VR, hφ]; rfl, hb⟩
theorem riv1 (hL : Lst w oa B O xs) (hn : xs.length ≤ 40) (hs : s.length ≤ 4000) (hi : i ≤ xs.length) : IvOK criv1 (trho oa cap B O xs s i) := by
  have f := tval_fits (s := s) hL hn hs hi
  obtain ⟨f1, f2, f3⟩ := hL.fit i
  have l2 := itoa_len f2
  have l3 := itoa_len f3
  exact iv_all (f := tval xs s i) ⟨f 0, f 1, ⟨by show (0 : Int) ≤ (xs.length : Int); omega, by show (xs.length : Int) ≤ 40; omega⟩, ⟨by show 0 ≤ (i : Int); omega, by show (i : Int) ≤ 40; omega⟩, ⟨by show 1 ≤ (if i < xs.length then (i : Int) + 1 else 1); split <;> omega, by show (if i < xs.length then (i : Int) + 1 else 1) ≤ _; split <;> omega⟩, f 5, f 6, f 7, f 8, f 9, ⟨by show (0 : Int) ≤ (s.length : Int); omega, by show (s.length : Int) ≤ 4000; omega⟩, f 11,
    ⟨by show (1 : Int) ≤ ((itoa (xs.getD i (0, 0, 0)).2.1).length : Int); omega, by show ((itoa (xs.getD i (0, 0, 0)).2.1).length : Int) ≤ 20; omega⟩, f 13, ⟨by show (1 : Int) ≤ ((itoa (xs.getD i (0, 0, 0)).2.2).length : Int); omega, by show ((itoa (xs.getD i (0, 0, 0)).2.2).length : Int) ≤ 20; omega⟩, trivial⟩ f
theorem riv0 (hL : Lst w oa B O xs) (hn : xs.length ≤ 40) (hs : s.length ≤ 4000) (hi : i ≤ xs.length) : IvOK criv0 (trho oa cap B O xs s i) := by
  have f := tval_fits (s := s) hL hn hs hi
  exact iv_all (f := tval xs s i) ⟨f 0, f 1, ⟨by show (0 : Int) ≤ (xs.length : Int); omega, by show (xs.length : Int) ≤ 40; omega⟩, trivial⟩ f
theorem okR1 (hK : DigitsOK w) (hL : Lst w oa B O xs) (hn : xs.length ≤ 40) (hs : s.length ≤ 4000) (hi : i ≤ xs.length) : @CutP.OK (extKT Tryd.prog crKT) crc1 w (trho oa cap B O xs s i) := by
  letI : Ext := extKT Tryd.prog crKT
  exact CutP.ok_of (extR hK hL) (riv1 hL hn hs hi) fun iv fs => tloop_ok hL hn
theorem okR0 (hK : DigitsOK w) (hL : Lst w oa B O xs) (hn : xs.length ≤ 40) (hs : s.length ≤ 4000) (hi : i ≤ xs.length) : @CutP.OK (extKT Tryd.prog crKT) crc0 w (trho oa cap B O xs s i) := by
  letI : Ext := extKT Tryd.prog crKT
  exact CutP.ok_of (extR hK hL) (riv0 hL hn hs hi) fun iv fs => tent_ok
theorem runR (hK : DigitsOK w) (hL : Lst w oa B O xs) (hn : xs.length ≤ 40) : ∀ (m i : Nat) (s : List UInt8), i + m = xs.length → s.length ≤ 50 * i → ∃ k, @Runs (extKT Tryd.prog crKT) crC w (.string (bstr (s ++ linesFrom xs i m))) k 1 (trho oa cap B O xs s i) := by
  letI : Ext := extKT Tryd.prog crKT
  intro m
  induction m with
  | zero =>
    intro i s hi hs
    refine run_ret (c := crc1) (r := .sym 9) rfl (okR1 hK hL hn (by omega) (by omega)) ?_ ?_
    · show valX crt1 _ = _
      simp only [crt1, valX]
      rw [if_neg (show ¬ (trho oa cap B O xs s i).int 3 < (trho oa cap B O xs s i).int 2 by show ¬ ((i : Int) < (xs.length : Int)); omega)]
      rfl
    · simp only [linesFrom, List.append_nil]
      rfl
  | succ m ih =>
    intro i s hi hs
    have hv : VOK criv1 [] (trho oa cap B O xs s i).int := VOK_of (riv1 hL hn (by omega) (by omega))
    obtain ⟨iv', rs', k1, k2⟩ := allI_ok allR hv
    have e1 := leafR_ok k1 k2
    have hp := textS_pre (ρ := trho oa cap B O xs s i) (p := .sym 9) (a := s) rfl (lineP_here (oa := oa) (cap := cap) (B := B) (O := O) (xs := xs) (s := s) (i := i))
    have hl := lineA_len (i := i) hL
    refine run_step (c := crc1) (d := crc1) rfl (okR1 hK hL hn (by omega) (by omega)) (q := 1) (xs := [.cat ([.sym 9] ++ lineP (wordOf (tval xs s i 6)) (decide (tval xs s i 7 = 0)) (decide (tval xs s i 8 = 0))), .sint .i64 4]) ?_ rfl (tagree (t := s ++ lineA xs i) i (i + 1)) ?_ ?_
    · show valX crt1 _ = _
      simp only [crt1, valX]
      rw [if_pos (show (trho oa cap B O xs s i).int 3 < (trho oa cap B O xs s i).int 2 by show ((i : Int) < (xs.length : Int)); omega)]
      exact e1
    · have e : crc1.ys = [.sym 9, .sint .i64 3] := rfl
      rw [e]
      refine ⟨⟨_, by simp only [sval, hp]; rfl, rfl⟩, ⟨.int .i64 ((i : Int) + 1), by
        show some (Value.int .i64 (if i < xs.length then (i : Int) + 1 else 1)) = _
        rw [if_pos (by omega)], rfl⟩, trivial⟩
    · have := ih (i + 1) (s ++ lineA xs i) (by omega) (by rw [List.length_append]; omega)
      rw [List.append_assoc] at this
      exact this
theorem textR (hK : DigitsOK w) (hL : Lst w oa B O xs) (hn : xs.length ≤ 40) :
    Calls Tryd.prog 16 #[.slice oa xs.length cap] w fun e w' => e = .returned (.string (bstr (textB xs))) ∧ Below w.heap.size w w' := by
  letI : Ext := extKT Tryd.prog crKT
  have h0 : ∃ k, Runs crC w (.string (bstr (textB xs))) k 0 (trho oa cap B O xs [] 0) := by
    refine run_step (c := crc0) (d := crc1) rfl (okR0 hK hL hn (by simp) (Nat.zero_le _)) (q := 1) (xs := [.string ⟨#[]⟩, .int .i64 0]) rfl rfl (tagree 0 0) ?_ (runR (cap := cap) hK hL hn xs.length 0 [] (by omega) (by simp))
    have e : crc1.ys = [.sym 9, .sint .i64 3] := rfl
    rw [e]
    exact ⟨⟨_, rfl, rfl⟩, ⟨_, rfl, rfl⟩, trivial⟩
  obtain ⟨k, hk⟩ := h0
  exact auto_calls crauto Tryd.func16 (by kernel_rfl) (args := [.sym 0]) (by kernel_rfl) (c := crc0) rfl rfl (by kernel_rfl) rfl rfl (fun r b h => by cases h) (by
    simp only [VRs, VR]
    exact ⟨_, _, rfl, rfl, rfl⟩) hk
end
end
end Go.Proofs.YtgmdbpmookoafaaDoor.text
