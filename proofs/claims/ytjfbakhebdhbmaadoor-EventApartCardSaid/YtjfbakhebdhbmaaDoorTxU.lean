/-
  Events: how the numbers of a list are put behind a text (a call that changes a block).
-/
import Derived.Test.YtjfbakhebdhbmaaDoorTxS
namespace Go.Proofs.YtjfbakhebdhbmaaDoor.event
open Go.Ev Go.RowKit Go.Lib
set_option linter.unusedVariables false
noncomputable section
def ItoaOK (w0 : World) : Prop := ∀ n, I64 n → ∀ w : World, w0.heap.size ≤ w.heap.size → (∀ k, k < w0.heap.size → w.heap[k]? = w0.heap[k]?) → Calls Tryd.prog 26 #[.int .i64 n] w fun e w' => e = .returned (.string (bstr (itoa n))) ∧ Below w.heap.size w w'
theorem textS_cons {ρ : Rho} {p : VV} {l : List VV} {s t : ByteArray} (h1 : pieceS ρ p = some s) (h2 : textS ρ l = some t) : textS ρ (p :: l) = some (s ++ t) := by
  simp only [textS, h1, h2]
def pint (g : EvG) (s : List UInt8) (i : Nat) : Nat → Int
  | 2 => (g.l.length : Int)
  | 3 => (i : Int)
  | 4 => (i : Int) + 1
  | 6 => g.l.getD i 0
  | 10 => (s.length : Int)
  | 12 => ((itoa (g.l.getD i 0)).length : Int)
  | _ => 0
def pvv (g : EvG) (s : List UInt8) (i : Nat) : Nat → Value
  | 0 => .slice g.oa g.l.length g.ca
  | 9 => .string (bstr s)
  | 11 => .string (bstr (itoa (g.l.getD i 0)))
  | _ => .bool false
theorem pvv_one {g : EvG} {s : List UInt8} {i : Nat} (j : Nat) : (pvv g s i j).oneCell' = true := by
  unfold pvv
  split <;> rfl
def prho (g : EvG) (s : List UInt8) (i : Nat) : Rho :=
  ⟨pint g s i, pvv g s i, fun _ => g.Ba, fun k => if k = 5 then g.Oa + i else g.Oa, pvv_one, fun _ => [], fun _ _ h => by cases h⟩
section
variable {w : World} {g : EvG} {s : List UInt8} {i : Nat}
theorem pint_fits (h : g.OK w) (hs : s.length ≤ 6000) (hi : i ≤ 260) : ∀ k, I64 (pint g s i k) := fun k => by
  have hl := h.nl
  have fl := h.fl i
  have l12 := itoa_len fl
  unfold pint
  split
  · exact ⟨by omega, by omega⟩
  · exact ⟨by omega, by omega⟩
  · exact ⟨by omega, by omega⟩
  · exact fl
  · exact ⟨by omega, by omega⟩
  · exact ⟨by omega, by omega⟩
  · exact i64_0
theorem iv_pu (h : g.OK w) (h1 : 1 ≤ s.length) (hs : s.length ≤ 6000) (hi : i ≤ 260) : IvOK puiv0 (prho g s i) := by
  have f := pint_fits (s := s) (i := i) h hs hi
  have hl := h.nl
  have l12 := itoa_len (h.fl i)
  exact iv_all (f := pint g s i) ⟨f 0, f 1, ⟨by show (0 : Int) ≤ (g.l.length : Int); omega, by show (g.l.length : Int) ≤ (260 : Int); omega⟩, ⟨by show (0 : Int) ≤ (i : Int); omega, by show (i : Int) ≤ (260 : Int); omega⟩, ⟨by show (1 : Int) ≤ (i : Int) + 1; omega, by show (i : Int) + 1 ≤ (261 : Int); omega⟩, f 5, f 6, f 7, f 8, f 9, ⟨by show (1 : Int) ≤ (s.length : Int); omega, by show (s.length : Int) ≤ (6000 : Int); omega⟩, f 11, ⟨by show (1 : Int) ≤ ((itoa (g.l.getD i 0)).length : Int); omega, by show ((itoa (g.l.getD i 0)).length : Int) ≤ (20 : Int); omega⟩, trivial⟩ f
theorem iv_pu0 (h : g.OK w) (hs : s.length ≤ 6000) (hi : i ≤ 260) : IvOK fiiv0 (prho g s i) := fun k => pint_fits h hs hi k
theorem puF_ok : FsOK puF (prho g s i) := fs_cons (fact_len rfl rfl) (fs_cons (fact_slen (l := s) rfl rfl) fs_nil)
theorem puEl_ok (h : g.OK w) (hi : i < g.l.length) : FsOK puEl (prho g s i) := by
  obtain ⟨g1, _⟩ := h.cl i _ (at_of (d := 0) hi)
  have := h.nl
  refine fs_cons (fact_at (n := i) (B := g.Ba) (O := g.Oa) (l := g.l.length) (c := g.ca) ?_ rfl hi rfl (by show g.Oa + i = g.Oa + i * 1; omega)) (fs_cons ?_ (fs_cons (fact_slen (l := itoa (g.l.getD i 0)) rfl rfl) fs_nil))
  · show some (Value.slice g.oa g.l.length g.ca) = _
    rw [g1]
  · exact fact_add rfl (show -9223372036854775808 ≤ (i : Int) + 1 by omega) (show (i : Int) + 1 ≤ 9223372036854775807 by omega)
theorem pl_ok (h : g.OK w) {iv : Ivs} {fs : List Fact} (h1 : IvOK iv (prho g s i)) (h2 : FsOK fs (prho g s i)) (φ : Phi) (hφ : φ.ρ = prho g s i) : EnvP (Ploop iv fs) φ w := by
  have v : ∀ k, VR φ (sv iv .i64 k) (.int .i64 (pint g s i k)) := fun k => by have := VR_sv (φ := φ) (iv := iv) (by rw [hφ]; exact h1) .i64 k; rw [hφ] at this; exact this
  unfold Ploop
  split
  · rename_i hh
    have hi : (i : Int) < (g.l.length : Int) := lss_has w hh h2
    refine ⟨by rw [hφ]; exact h1, by rw [hφ]; exact fs_app h2 (fs_app puF_ok (puEl_ok h (by omega))), fun k cs hk => ?_⟩
    simp only at hk
    split at hk
    · rename_i hb
      have := Nat.eq_of_beq_eq_true hb
      subst this
      cases hk
      obtain ⟨g1, g2, g3⟩ := h.cl i _ (at_of (d := 0) (by omega))
      have eb : φ.ρ.blk 5 = g.Ba := by rw [hφ]; rfl
      have eo : φ.ρ.off 5 = g.Oa + i := by rw [hφ]; rfl
      rw [eb, eo]
      refine ⟨g2, fun j x hx => ?_⟩
      match j with
      | 0 => cases hx; exact ⟨_, g3, v 6⟩
      | j + 1 => simp at hx
    · cases hk
  · exact ⟨by rw [hφ]; exact h1, by rw [hφ]; exact fs_app h2 puF_ok, fun k cs h => by cases h⟩
theorem extP (hK : ItoaOK w) (h : g.OK w) : (∀ e ∈ puKT, KEok Tryd.prog (prho g s i) w e) ∧ ∀ e ∈ puK2, KE2ok Tryd.prog (prho g s i) w e := by
  refine ⟨fun e he => ?_, fun e he => by cases he⟩
  simp only [puKT, List.mem_singleton] at he
  subst he
  intro φ vs w' hφ h1 h2 hv hp
  obtain ⟨v, vl, rfl, hv1, rfl⟩ : ∃ v vl, vs = v :: vl ∧ VR φ (.sint .i64 6) v ∧ vl = [] := by
    simp only [VRs] at hv
    obtain ⟨v, vl, h1, h2, h3⟩ := hv
    exact ⟨v, vl, h1, h2, h3⟩
  simp only [VR, hφ] at hv1
  subst hv1
  refine (hK _ (h.fl i) w' h1 h2).mono ?_
  rintro en w'' ⟨rfl, hb⟩
  exact ⟨_, rfl, by simp only [VR, hφ]; rfl, hb⟩
theorem okP1 {c : CutP} (hE : c.E = Ploop) (hiv : c.iv = puiv0) (hK : ItoaOK w) (h : g.OK w) (h1 : 1 ≤ s.length) (hs : s.length ≤ 6000) (hi : i ≤ 260) : @CutP.OK (extKA Tryd.prog puKT puK2) c w (prho g s i) := by
  letI : Ext := extKA Tryd.prog puKT puK2
  exact CutP.ok_of (extP hK h) (by rw [hiv]; exact iv_pu h h1 hs hi) fun iv fs h1 h2 φ hφ => by rw [hE]; exact pl_ok h h1 h2 φ hφ
theorem okP0 {c : CutP} (hE : c.E = Ploop) (hiv : c.iv = fiiv0) (hK : ItoaOK w) (h : g.OK w) (hs : s.length ≤ 6000) (hi : i ≤ 260) : @CutP.OK (extKA Tryd.prog puKT puK2) c w (prho g s i) := by
  letI : Ext := extKA Tryd.prog puKT puK2
  exact CutP.ok_of (extP hK h) (by rw [hiv]; exact iv_pu0 h hs hi) fun iv fs h1 h2 φ hφ => by rw [hE]; exact pl_ok h h1 h2 φ hφ
theorem pagree {t : List UInt8} (i j : Nat) : agree 3 (prho g s i) (prho g t j) := fun k hk => by
  match k, hk with
  | 0, _ => exact ⟨rfl, rfl, rfl, rfl, rfl⟩
  | 1, _ => exact ⟨rfl, rfl, rfl, rfl, rfl⟩
  | 2, _ => exact ⟨rfl, rfl, rfl, rfl, rfl⟩
theorem agree0 {ρ ρ' : Rho} : agree 0 ρ ρ' := fun k hk => absurd hk (Nat.not_lt_zero _)
/-- A text that is carried over, and its length. -/
theorem car_text {ρ ρ' : Rho} {ps : List VV} {k : Nat} {t : List UInt8} (h1 : textS ρ ps = some (bstr t)) (h2 : ρ'.val k = .string (bstr t)) : Car ρ ρ' (.cat ps, .sym k) ∧ Car ρ ρ' (.tlen ps, .tlen [.sym k]) := by
  refine ⟨⟨.string (bstr t), by simp only [sval, h1], by simp only [sval, h2]⟩, ⟨.int .i64 t.length, by simp only [sval, h1]; rfl, ?_⟩⟩
  have : textS ρ' [.sym k] = some (bstr t) := textS_one (by show (match ρ'.val k with | .string s => some s | _ => none) = _; rw [h2])
  simp only [sval, this]
  rfl
theorem step_text : textS (prho g s i) [.sym 9, .string ⟨#[32]⟩, .sym 11] = some (bstr (s ++ 32 :: itoa (g.l.getD i 0))) := by
  have h1 : textS (prho g s i) [.sym 11] = some (bstr (itoa (g.l.getD i 0))) := textS_one rfl
  have h2 : textS (prho g s i) [.string ⟨#[32]⟩, .sym 11] = some (bstr [32] ++ bstr (itoa (g.l.getD i 0))) := textS_cons (s := bstr [32]) rfl h1
  have h3 : textS (prho g s i) [.sym 9, .string ⟨#[32]⟩, .sym 11] = some (bstr s ++ (bstr [32] ++ bstr (itoa (g.l.getD i 0)))) := textS_cons rfl h2
  rw [h3, bstr_app, bstr_app]
  rfl
theorem put_run2 (hK : ItoaOK w) (h : g.OK w) : ∀ (m i : Nat) (s : List UInt8), i + m = g.l.length → 1 ≤ s.length → s.length ≤ 30 + 21 * i → ∃ k, @RunsH (extKA Tryd.prog puKT puK2) puC w 4 (prho g (s ++ numsFrom g.l i m) g.l.length) k 2 (prho g s i) := by
  letI : Ext := extKA Tryd.prog puKT puK2
  have hnl := h.nl
  intro m
  induction m with
  | zero =>
    intro i s hi h1 hs
    have hi : i = g.l.length := by omega
    subst hi
    refine ⟨0, .exit (c := puc2) (d := puc4) (xs := [.cat [.sym 9], .tlen [.sym 9]]) rfl (okP1 rfl rfl hK h h1 (by omega) (by omega)) ?_ rfl rfl agree0 ?_ (okP0 rfl rfl hK h (by simp only [numsFrom, List.append_nil]; omega) (by omega))⟩
    · show valX put2 _ = _
      simp only [put2, valX]
      rw [if_neg (show ¬ (prho g s g.l.length).int 3 < (prho g s g.l.length).int 2 by show ¬ ((g.l.length : Int) < (g.l.length : Int)); omega)]
    · have := car_text (ρ := prho g s g.l.length) (ρ' := prho g (s ++ numsFrom g.l g.l.length 0) g.l.length) (ps := [.sym 9]) (k := 9) (t := s) (textS_one rfl) (by simp only [numsFrom, List.append_nil]; rfl)
      exact ⟨this.1, this.2, trivial⟩
  | succ m ih =>
    intro i s hi h1 hs
    have hl := itoa_len (h.fl i)
    obtain ⟨k, hk⟩ := ih (i + 1) (s ++ 32 :: itoa (g.l.getD i 0)) (by omega) (by simp only [List.length_append, List.length_cons]; omega) (by simp only [List.length_append, List.length_cons]; omega)
    have e : (s ++ 32 :: itoa (g.l.getD i 0)) ++ numsFrom g.l (i + 1) m = s ++ numsFrom g.l i (m + 1) := by
      simp only [numsFrom, List.append_assoc, List.cons_append]
    rw [e] at hk
    refine ⟨k + 1, .step (c := puc2) (d := puc2) (q := 2) (xs := [.cat [.sym 9, .string ⟨#[32]⟩, .sym 11], .tlen [.sym 9, .string ⟨#[32]⟩, .sym 11], .sint .i64 4]) rfl (okP1 rfl rfl hK h h1 (by omega) (by omega)) ?_ rfl (fun x => by cases x) (pagree i (i + 1)) ?_ hk⟩
    · show valX put2 _ = _
      simp only [put2, valX]
      rw [if_pos (show (prho g s i).int 3 < (prho g s i).int 2 by show ((i : Int) < (g.l.length : Int)); omega)]
    · have := car_text (ρ := prho g s i) (ρ' := prho g (s ++ 32 :: itoa (g.l.getD i 0)) (i + 1)) (k := 9) step_text rfl
      exact ⟨this.1, this.2, ⟨.int .i64 ((i : Int) + 1), rfl, rfl⟩, trivial⟩
theorem put_run (hK : ItoaOK w) (h : g.OK w) (h1 : 1 ≤ s.length) (hs : s.length ≤ 30) : ∃ q k, (q = 3 ∨ q = 4) ∧ (q = 3 → g.l.length = 0) ∧ @RunsH (extKA Tryd.prog puKT puK2) puC w q (prho g (s ++ numsFrom g.l 0 g.l.length) g.l.length) k 0 (prho g s 0) := by
  letI : Ext := extKA Tryd.prog puKT puK2
  have hnl := h.nl
  have hok1 : CutP.OK puc1 w (prho g s 0) := okP1 rfl rfl hK h h1 (by omega) (by omega)
  have start : ∀ {q k}, RunsH puC w q (prho g (s ++ numsFrom g.l 0 g.l.length) g.l.length) k 1 (prho g s 0) → RunsH puC w q (prho g (s ++ numsFrom g.l 0 g.l.length) g.l.length) (k + 1) 0 (prho g s 0) := fun hr => by
    refine .step (c := puc0) (d := puc1) (q := 1) (xs := [.cat [.sym 9], .tlen [.sym 9], .int .i64 0]) rfl (okP1 rfl rfl hK h h1 (by omega) (by omega)) rfl rfl (fun x => by cases x) (pagree 0 0) ?_ hr
    have := car_text (ρ := prho g s 0) (ρ' := prho g s 0) (ps := [.sym 9]) (k := 9) (t := s) (textS_one rfl) rfl
    exact ⟨this.1, this.2, ⟨.int .i64 0, rfl, rfl⟩, trivial⟩
  by_cases e0 : g.l.length = 0
  · refine ⟨3, _, .inl rfl, fun _ => e0, start (.exit (c := puc1) (d := puc3) (xs := [.cat [.sym 9], .tlen [.sym 9]]) rfl hok1 ?_ rfl rfl agree0 ?_ (okP0 rfl rfl hK h (by rw [e0]; simp only [numsFrom, List.append_nil]; omega) (by omega)))⟩
    · show valX put1 _ = _
      simp only [put1, valX]
      rw [if_neg (show ¬ (prho g s 0).int 3 < (prho g s 0).int 2 by show ¬ (((0 : Nat) : Int) < (g.l.length : Int)); omega)]
    · have := car_text (ρ := prho g s 0) (ρ' := prho g (s ++ numsFrom g.l 0 g.l.length) g.l.length) (ps := [.sym 9]) (k := 9) (t := s) (textS_one rfl) (by rw [e0]; simp only [numsFrom, List.append_nil]; rfl)
      exact ⟨this.1, this.2, trivial⟩
  · obtain ⟨m, hm⟩ : ∃ m, g.l.length = m + 1 := ⟨g.l.length - 1, by omega⟩
    have hl := itoa_len (h.fl 0)
    obtain ⟨k, hk⟩ := put_run2 hK h m 1 (s ++ 32 :: itoa (g.l.getD 0 0)) (by omega) (by simp only [List.length_append, List.length_cons]; omega) (by simp only [List.length_append, List.length_cons]; omega)
    have e : (s ++ 32 :: itoa (g.l.getD 0 0)) ++ numsFrom g.l 1 m = s ++ numsFrom g.l 0 g.l.length := by
      rw [hm]
      simp only [numsFrom, List.append_assoc, List.cons_append]
    rw [e] at hk
    refine ⟨4, _, .inr rfl, (fun x => by cases x), start (.step (c := puc1) (d := puc2) (q := 2) (xs := [.cat [.sym 9, .string ⟨#[32]⟩, .sym 11], .tlen [.sym 9, .string ⟨#[32]⟩, .sym 11], .sint .i64 4]) rfl hok1 ?_ rfl (fun x => by cases x) (pagree 0 1) ?_ hk)⟩
    · show valX put1 _ = _
      simp only [put1, valX]
      rw [if_pos (show (prho g s 0).int 3 < (prho g s 0).int 2 by show (((0 : Nat) : Int) < (g.l.length : Int)); omega)]
    · have := car_text (ρ := prho g s 0) (ρ' := prho g (s ++ 32 :: itoa (g.l.getD 0 0)) 1) (k := 9) step_text rfl
      exact ⟨this.1, this.2, ⟨.int .i64 (((0 : Nat) : Int) + 1), rfl, rfl⟩, trivial⟩
/-! ### the known call -/
def permP : List VV := [.string ⟨#[112, 101, 114, 109, 32]⟩, .sym 26]
theorem perm_text {c : Int} {t : List UInt8} {j : Nat} : textS (erho g c t j) permP = some (bstr ([112, 101, 114, 109, 32] ++ itoa g.a)) := by
  have h1 : textS (erho g c t j) [.sym 26] = some (bstr (itoa g.a)) := textS_one rfl
  have h2 : textS (erho g c t j) permP = some (bstr [112, 101, 114, 109, 32] ++ bstr (itoa g.a)) := textS_cons (s := bstr [112, 101, 114, 109, 32]) rfl h1
  rw [h2, bstr_app]
theorem putOK (hK : ItoaOK w) (h : g.OK w) {c : Int} {t : List UInt8} {j : Nat} : ∀ e ∈ putK2, KE2ok Tryd.prog (erho g c t j) w e := by
  intro e he
  simp only [putK2, List.mem_singleton] at he
  subst he
  have hl := itoa_len h.fa
  obtain ⟨q, k, hq, _, hr⟩ := put_run (s := [112, 101, 114, 109, 32] ++ itoa g.a) hK h (by simp) (by simp only [List.length_append, List.length_cons, List.length_nil]; omega)
  have c1 : carry (erho g c t j) (prho g ([112, 101, 114, 109, 32] ++ itoa g.a) 0) [.cat permP, .tlen permP, .sym 0] [.sym 9, .tlen [.sym 9], .sym 0] := by
    have := car_text (ρ := erho g c t j) (ρ' := prho g ([112, 101, 114, 109, 32] ++ itoa g.a) 0) (k := 9) perm_text rfl
    exact ⟨this.1, this.2, ⟨.slice g.oa g.l.length g.ca, rfl, rfl⟩, trivial⟩
  have c2 : carry (prho g (([112, 101, 114, 109, 32] ++ itoa g.a) ++ numsFrom g.l 0 g.l.length) g.l.length) (erho g c t j) [.cat [.sym 9], .tlen [.sym 9]] [.sym 52, .tlen [.sym 52]] := by
    have := car_text (ρ := prho g (([112, 101, 114, 109, 32] ++ itoa g.a) ++ numsFrom g.l 0 g.l.length) g.l.length) (ρ' := erho g c t j) (ps := [.sym 9]) (k := 52) (t := ([112, 101, 114, 109, 32] ++ itoa g.a) ++ numsFrom g.l 0 g.l.length) (textS_one rfl) rfl
    exact ⟨this.1, this.2, trivial⟩
  rcases hq with rfl | rfl
  · exact ke2_of puauto Tryd.func25 (by kernel_rfl) (args := [.ptr (some ⟨.loc 0, 0⟩), .sym 0]) (by kernel_rfl) rfl (c := puc0) (d := puc3) (p0 := 0) rfl rfl rfl rfl rfl (by kernel_rfl) (by kernel_rfl) ⟨_, _, k, c1, hr, c2⟩
  · exact ke2_of puauto Tryd.func25 (by kernel_rfl) (args := [.ptr (some ⟨.loc 0, 0⟩), .sym 0]) (by kernel_rfl) rfl (c := puc0) (d := puc4) (p0 := 0) rfl rfl rfl rfl rfl (by kernel_rfl) (by kernel_rfl) ⟨_, _, k, c1, hr, c2⟩
end
end
end Go.Proofs.YtjfbakhebdhbmaaDoor.event
