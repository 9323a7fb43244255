/-
  The document's digits of a number: its decimal (of any number but the least).
-/
import Derived.Test.YtjfbakhebdhbmaaDoorTxW
import Derived.Test.YtjfbakhebdhbmaaDoorTxDW
import Derived.Test.YtjfbakhebdhbmaaDoorEvZ
namespace Go.Proofs.YtjfbakhebdhbmaaDoor.event
open Go.Ev Go.RowKit Go.Lib
set_option linter.unusedVariables false
noncomputable section
def smallB : Nat → Bool
  | 0 => true
  | k + 1 => match (match runE Tryd.prog (knL []) 2000 28 [.int .i64 ((k : Int) - 9)] Env.none with
      | some (.string s, _) => bEq (strEq s (bstr (itoa ((k : Int) - 9)))) true
      | some (.cat [.string s], _) => bEq (strEq s (bstr (itoa ((k : Int) - 9)))) true
      | _ => false) with
    | true => smallB k
    | false => false
def negIv : Ivs := [(-9223372036854775807, -1), (-9223372036854775808, 9223372036854775807), (-9223372036854775808, 9223372036854775807), (1, 9223372036854775807), (1, 20)]
def negE : Env := ⟨fun _ => none, ivAt negIv, [.fn (.un .neg) [.sint .i64 0] (.sint .i64 3), .len true (.sym 10) (.sint .i64 4)], fun _ => none⟩
def negKT : List KE := [⟨28, [.sint .i64 3], [], .sym 10⟩]
def negB : Bool := match runE Tryd.prog (knL negKT) 2000 28 [.sint .i64 0] negE with
  | some (.cat [.string s, .sym i], _) => match Nat.beq i 10 with
    | true => strEq s (bstr [45])
    | false => false
  | _ => false
theorem dig_small : smallB 19 = true := by kernel_rfl
theorem dig_neg : negB = true := by kernel_rfl
theorem strEq_ok {a b : ByteArray} (h : strEq a b = true) : a = b := by
  rw [strEq_eq] at h
  simp only [ByteArray.toList_eq, beq_iff_eq] at h
  exact ByteArray.ext (Array.toList_inj.1 h)
/-! ### the plain law -/
theorem dec_big {m : Nat} (h : 10 ≤ m) : decDigits m = decDigits (m / 10) ++ decDigits (m % 10) := by
  have h1 : decDigits m = decDigits (m / 10) ++ [UInt8.ofNat (48 + m % 10)] := by
    rw [decDigits]
    split
    · omega
    · rfl
  have h2 : decDigits (m % 10) = [UInt8.ofNat (48 + m % 10)] := by
    rw [decDigits]
    split
    · rfl
    · omega
  rw [h2]
  exact h1
theorem itoa_nat (m : Nat) : itoa (m : Int) = decDigits m := by
  unfold itoa
  rw [if_neg (by omega)]
  rfl
theorem itoa_neg {m : Nat} (h : 0 < m) : itoa (-(m : Int)) = 45 :: decDigits m := by
  unfold itoa
  rw [if_pos (by omega)]
  congr 2
  omega
theorem itoa_neg' {n : Int} (h : n < 0) : itoa n = [45] ++ itoa (-n) := by
  obtain ⟨m, rfl | rfl⟩ := n.eq_nat_or_neg
  · omega
  · rw [itoa_neg (by omega), show -(-(m : Int)) = (m : Int) by omega, itoa_nat]
    rfl
theorem itoa_big {n : Int} (h : 10 ≤ n) : itoa n = itoa (n.tdiv 10) ++ itoa (n.tmod 10) := by
  obtain ⟨m, rfl | rfl⟩ := n.eq_nat_or_neg
  · have e1 : (m : Int).tdiv 10 = ((m / 10 : Nat) : Int) := rfl
    have e2 : (m : Int).tmod 10 = ((m % 10 : Nat) : Int) := rfl
    rw [e1, e2, itoa_nat, itoa_nat, itoa_nat, dec_big (m := m) (by omega)]
  · omega
/-! ### what the symbols stand for -/
def dval (n : Int) : Nat → Int
  | 0 => n
  | 1 => n.tdiv 10
  | 3 => -n
  | 4 => (itoa (if n < 0 then -n else n.tdiv 10)).length
  | _ => 0
def dvv (n : Int) : Nat → Value
  | 10 => .string (bstr (itoa (if n < 0 then -n else n.tdiv 10)))
  | _ => .bool false
theorem dvv_one {n : Int} (j : Nat) : (dvv n j).oneCell' = true := by
  unfold dvv
  split <;> rfl
def drho (n : Int) : Rho := ⟨dval n, dvv n, fun _ => 0, fun _ => 0, dvv_one, fun _ => [], fun _ _ h => by cases h⟩
theorem smallB_ok : ∀ {k : Nat}, smallB k = true → ∀ j, j < k → ∃ v H, runE Tryd.prog (knL []) 2000 28 [.int .i64 ((j : Int) - 9)] Env.none = some (v, H) ∧ ∀ ρ, sval ρ v = some (.string (bstr (itoa ((j : Int) - 9))))
  | 0, _, j, hj => by omega
  | k + 1, h, j, hj => by
    simp only [smallB] at h
    split at h
    · rename_i h1
      by_cases e : j = k
      · subst e
        split at h1
        · rename_i s H hr
          refine ⟨_, H, hr, fun ρ => ?_⟩
          have := bEq_eq h1
          have e2 : s = bstr (itoa ((j : Int) - 9)) := strEq_ok this
          rw [e2]
          rfl
        · rename_i s H hr
          refine ⟨_, H, hr, fun ρ => ?_⟩
          have := bEq_eq h1
          have e2 : s = bstr (itoa ((j : Int) - 9)) := strEq_ok this
          rw [e2]
          have : textS ρ [.string (bstr (itoa ((j : Int) - 9)))] = some (bstr (itoa ((j : Int) - 9))) := textS_one rfl
          simp only [sval, this]
        · cases h1
      · exact smallB_ok h j (by omega)
    · cases h
theorem negB_ok (h : negB = true) : ∃ H, runE Tryd.prog (knL negKT) 2000 28 [.sint .i64 0] negE = some (.cat [.string (bstr [45]), .sym 10], H) := by
  unfold negB at h
  split at h
  · rename_i s i H hr
    split at h
    · rename_i h2
      rw [Nat.eq_of_beq_eq_true h2, strEq_ok h] at hr
      exact ⟨H, hr⟩
    · cases h
  · cases h
theorem fact_slenD {ρ : Rho} {a b : Nat} {l : List UInt8} (h1 : ρ.val a = .string (bstr l)) (h2 : ρ.int b = l.length) : FactOK ρ (.len true (.sym a) (.sint .i64 b)) :=
  ⟨.string (bstr l), l.length, by simp only [sval, h1], ⟨_, rfl, rfl⟩, by simp only [sval, h2]⟩
theorem textS_cons {ρ : Rho} {p : VV} {l : List VV} {s t : ByteArray} (h1 : pieceS ρ p = some s) (h2 : textS ρ l = some t) : textS ρ (p :: l) = some (s ++ t) := by
  simp only [textS, h1, h2]
abbrev DigC (n : Int) (w : World) : Prop := Calls Tryd.prog 28 #[.int .i64 n] w fun e w' => e = .returned (.string (bstr (itoa n))) ∧ Below w.heap.size w w'
theorem args1 {n : Int} : VRs ⟨fun _ => none, drho n⟩ [.sint .i64 0] [.int .i64 n] := by
  simp only [VRs, VR]
  exact ⟨_, _, rfl, rfl, rfl⟩
theorem digP : ∀ (k : Nat) (n : Int), n.natAbs = k → 0 ≤ n → n ≤ 9223372036854775807 → ∀ w, DigC n w := by
  intro k
  induction k using Nat.strongRecOn with
  | _ k ih =>
    intro n hk hn0 hn w
    by_cases hsm : n ≤ 9
    · obtain ⟨v, H, h1, h2⟩ := smallB_ok dig_small (n + 9).toNat (by omega)
      have e : (((n + 9).toNat : Nat) : Int) - 9 = n := by omega
      rw [e] at h1 h2
      letI : Ext := extKT Tryd.prog []
      refine (runE_calls (noNG_of noNG) mixed (knL_ok fun ρ w h => h) h1 (ρ := rho0) ⟨(fun e he => by cases he), (fun i => ⟨Int.le_refl _, Int.le_refl _⟩), (fun f hf => by cases hf), (fun i c h => by cases h)⟩ (fun r b h => by cases h) (args := [.int .i64 n]) ?_).mono ?_
      · simp only [VRs, VR]
        exact ⟨_, _, rfl, rfl, rfl⟩
      · rintro e w' ⟨v', φ', rfl, hφ, hv, hb⟩
        rw [sval_VR (h2 φ'.ρ) hv]
        exact ⟨rfl, hb⟩
    · obtain ⟨m, rfl⟩ : ∃ m : Nat, n = (m : Int) := ⟨n.toNat, by omega⟩
      have eq : (m : Int).tdiv 10 = ((m / 10 : Nat) : Int) := rfl
      have er : (m : Int).tmod 10 = ((m % 10 : Nat) : Int) := rfl
      have hl1 := itoa_len (n := ((m / 10 : Nat) : Int)) ⟨by omega, by omega⟩
      have hw : IntKind.i64.wrap ((m : Int).tdiv 10) = (m : Int).tdiv 10 := wrap_in (by rw [eq]; show (-9223372036854775808 : Int) ≤ _; omega) (by rw [eq]; show _ ≤ (9223372036854775807 : Int); omega)
      have hsz : (bstr (itoa ((m : Int).tdiv 10))).size = (itoa ((m / 10 : Nat) : Int)).length := by
        rw [eq]
        exact List.size_toArray
      refine (dig_step (m : Int) (bstr (itoa ((m : Int).tdiv 10))) (by rw [hsz]; omega) (by omega) hn w fun w' => by
        rw [hw]
        exact ih (m / 10) (by omega) ((m : Int).tdiv 10) (by rw [eq]; omega) (by rw [eq]; omega) (by rw [eq]; omega) w').mono ?_
      rintro en w'' ⟨rfl, hbl⟩
      refine ⟨?_, hbl⟩
      have e1 : itoa ((m % 10 : Nat) : Int) = [UInt8.ofNat (48 + (m : Int).tmod 10).toNat] := by
        rw [itoa_nat, er, decDigits]
        split
        · rw [show (48 + ((m % 10 : Nat) : Int)).toNat = 48 + m % 10 by omega]
        · omega
      rw [itoa_big (n := (m : Int)) (by omega), ← bstr_app, er, e1]
      rfl
theorem digitsC {n : Int} (h1 : -9223372036854775807 ≤ n) (h2 : n ≤ 9223372036854775807) (w : World) : DigC n w := by
  by_cases hn : 0 ≤ n
  · exact digP _ n rfl hn h2 w
  · obtain ⟨H, h1'⟩ := negB_ok dig_neg
    have hneg : n < 0 := by omega
    letI : Ext := extKT Tryd.prog negKT
    have hl1 := itoa_len (n := -n) ⟨by omega, by omega⟩
    have ext : ∀ e ∈ negKT, KEok Tryd.prog (drho n) w e := by
      intro e he
      simp only [negKT, List.mem_singleton] at he
      subst he
      intro φ vs w' hφ _ _ hv _
      simp only [VRs, VR, hφ] at hv
      obtain ⟨_, _, rfl, rfl, rfl⟩ := hv
      refine (digP _ (-n) rfl (by omega) (by omega) w').mono ?_
      rintro en w'' ⟨rfl, hbl⟩
      refine ⟨_, rfl, ?_, hbl⟩
      simp only [VR, hφ]
      show _ = Value.string (bstr (itoa (if n < 0 then -n else n.tdiv 10)))
      rw [if_pos hneg]
    have e4 : dval n 4 = ((itoa (-n)).length : Int) := by
      show (((itoa (if n < 0 then -n else n.tdiv 10)).length : Nat) : Int) = _
      rw [if_pos hneg]
    have hd : I64 (n.tdiv 10) := by
      obtain ⟨m, rfl | rfl⟩ := n.eq_nat_or_neg
      · omega
      · have e : (-(m : Int)).tdiv 10 = -((m / 10 : Nat) : Int) := by rw [Int.neg_tdiv]; rfl
        rw [e]
        exact ⟨by omega, by omega⟩
    have fits : ∀ i, I64 (dval n i) := fun i => by
      match i with
      | 0 => exact ⟨by show _ ≤ n; omega, h2⟩
      | 1 => exact hd
      | 2 => exact i64_0
      | 3 => exact ⟨by show _ ≤ -n; omega, by show -n ≤ _; omega⟩
      | 4 => rw [e4]; exact ⟨by omega, by omega⟩
      | i + 5 => exact i64_0
    have hiv : IvOK negIv (drho n) := iv_all (f := dval n) ⟨⟨h1, by show n ≤ -1; omega⟩, fits 1, fits 2, ⟨by show (1 : Int) ≤ -n; omega, by show -n ≤ _; omega⟩, ⟨by show (1 : Int) ≤ dval n 4; rw [e4]; omega, by show dval n 4 ≤ 20; rw [e4]; omega⟩, trivial⟩ fits
    have hfs : FsOK negE.tab (drho n) := by
      refine fs_cons ⟨[.int .i64 n], .int .i64 (-n), rfl, rfl, fun P w => ?_⟩ (fs_cons (fact_slenD rfl rfl) fs_nil)
      have e : IntKind.i64.wrap (0 - n) = -n := by
        rw [show 0 - n = -n by omega]
        exact wrap_in (by show (-9223372036854775808 : Int) ≤ _; omega) (by show _ ≤ (9223372036854775807 : Int); omega)
      show (pure (Value.int .i64 (IntKind.i64.wrap (0 - n))) : Sem Value).run P w = _
      rw [e]
      rfl
    refine (runE_calls (noNG_of noNG) mixed (knL_ok fun ρ w h => h) h1' (ρ := drho n) ⟨ext, hiv, hfs, (fun i c h => by cases h)⟩ (fun r b h => by cases h) args1).mono ?_
    rintro e w' ⟨v', φ', rfl, hφ, hv, hbl⟩
    have p10 : pieceS (drho n) (.sym 10) = some (bstr (itoa (-n))) := by
      show some (bstr (itoa (if n < 0 then -n else n.tdiv 10))) = _
      rw [if_pos hneg]
    have ht : textS (drho n) [.string (bstr [45]), .sym 10] = some (bstr (itoa n)) := by
      rw [textS_cons (s := bstr [45]) rfl (textS_one p10), bstr_app, itoa_neg' hneg]
    have hs : sval φ'.ρ (.cat [.string (bstr [45]), .sym 10]) = some (.string (bstr (itoa n))) := by
      rw [hφ]
      simp only [sval, ht]
    rw [sval_VR hs hv]
    exact ⟨rfl, hbl⟩
end
end Go.Proofs.YtjfbakhebdhbmaaDoor.event
