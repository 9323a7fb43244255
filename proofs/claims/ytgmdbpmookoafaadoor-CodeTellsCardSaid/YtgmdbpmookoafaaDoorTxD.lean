/-
  The document's digits of a number: its decimal.
-/
import Derived.Test.YtgmdbpmookoafaaDoorTxX
namespace Go.Proofs.YtgmdbpmookoafaaDoor.text
open Go.Ev Go.RowKit Go.Lib
set_option linter.unusedVariables false
noncomputable section
/-! ### one level, as the evaluator runs it -/
def smallB : Nat → Bool
  | 0 => true
  | k + 1 => match (match runE Tryd.prog (knL []) 2000 28 [.int .i64 ((k : Int) - 9)] Env.none with
      | some (.string s, _) => bEq (strEq s (bstr (itoa ((k : Int) - 9)))) true
      | some (.cat [.string s], _) => bEq (strEq s (bstr (itoa ((k : Int) - 9)))) true
      | _ => false) with
    | true => smallB k
    | false => false
def digF (b : Bool) : List Fact := .bin .quo (.sint .i64 0) (.int .i64 10) (.sint .i64 1) :: .bin .rem (.sint .i64 0) (.int .i64 10) (.sint .i64 2) :: .len true (.sym 10) (.sint .i64 4) :: .len true (.sym 11) (.sint .i64 5) :: (match b with | true => [.fn (.un .neg) [.sint .i64 2] (.sint .i64 3)] | false => [])
def digIv (lo hi : Int) : Ivs := [(lo, hi), (-9223372036854775808, 9223372036854775807), (-9223372036854775808, 9223372036854775807), (-9223372036854775808, 9223372036854775807), (1, 20), (1, 20)]
def digE (b : Bool) (lo hi : Int) : Env := ⟨fun _ => none, ivAt (digIv lo hi), digF b, fun _ => none⟩
def digKT (b : Bool) : List KE := [⟨28, [.sint .i64 1], [], .sym 10⟩, ⟨28, [.sint .i64 (match b with | true => 3 | false => 2)], [], .sym 11⟩]
def digB (b : Bool) (lo hi : Int) : Bool := match runE Tryd.prog (knL (digKT b)) 2000 28 [.sint .i64 0] (digE b lo hi) with
  | some (.cat [.sym i, .sym j], _) => match Nat.beq i 10 with
    | true => Nat.beq j 11
    | false => false
  | _ => false
theorem dig_small : smallB 19 = true := by kernel_rfl
theorem dig_pos : digB false 10 9223372036854775807 = true := by kernel_rfl
theorem dig_neg : digB true (-9223372036854775808) (-10) = true := by kernel_rfl
/-! ### the plain law -/
theorem dec_big {m : Nat} (h : 10 ≤ m) : decDigits m = decDigits (m / 10) ++ decDigits (m % 10) := by
  have h1 : decDigits m = decDigits (m / 10) ++ [UInt8.ofNat (48 + m % 10)] := by
    rw [decDigits]
    split
    · omega
    · rfl
  have h2 : decDigits (m % 10) = [UInt8.ofNat (48 + m % 10)] := by
    rw [decDigits]
    split
    · rfl
    · omega
  rw [h2]
  exact h1
theorem itoa_nat (m : Nat) : itoa (m : Int) = decDigits m := by
  unfold itoa
  rw [if_neg (by omega)]
  rfl
theorem itoa_neg {m : Nat} (h : 0 < m) : itoa (-(m : Int)) = 45 :: decDigits m := by
  unfold itoa
  rw [if_pos (by omega)]
  congr 2
  omega
/-! ### what the symbols stand for -/
def dval (n : Int) : Nat → Int
  | 0 => n
  | 1 => n.tdiv 10
  | 2 => n.tmod 10
  | 3 => -(n.tmod 10)
  | 4 => (itoa (n.tdiv 10)).length
  | 5 => (itoa (if n < 0 then -(n.tmod 10) else n.tmod 10)).length
  | _ => 0
def dvv (n : Int) : Nat → Value
  | 10 => .string (bstr (itoa (n.tdiv 10)))
  | 11 => .string (bstr (itoa (if n < 0 then -(n.tmod 10) else n.tmod 10)))
  | _ => .bool false
theorem dvv_one {n : Int} (j : Nat) : (dvv n j).oneCell' = true := by
  unfold dvv
  split <;> rfl
def drho (n : Int) : Rho := ⟨dval n, dvv n, fun _ => 0, fun _ => 0, dvv_one, fun _ => [], fun _ _ h => by cases h⟩
theorem tq {n : Int} (h : I64 n) : I64 (n.tdiv 10) ∧ (10 ≤ n ∨ n ≤ -10 → (n.tdiv 10).natAbs < n.natAbs) := by
  obtain ⟨m, rfl | rfl⟩ := n.eq_nat_or_neg
  · have e : (m : Int).tdiv 10 = ((m / 10 : Nat) : Int) := rfl
    rw [e]
    have := h.2
    exact ⟨⟨by omega, by omega⟩, fun _ => by omega⟩
  · have e : (-(m : Int)).tdiv 10 = -((m / 10 : Nat) : Int) := by rw [Int.neg_tdiv]; rfl
    rw [e]
    have := h.1
    exact ⟨⟨by omega, by omega⟩, fun _ => by omega⟩
theorem tr {n : Int} : -9 ≤ n.tmod 10 ∧ n.tmod 10 ≤ 9 ∧ (0 ≤ n → 0 ≤ n.tmod 10) ∧ (n < 0 → n.tmod 10 ≤ 0) := by
  obtain ⟨m, rfl | rfl⟩ := n.eq_nat_or_neg
  · have e : (m : Int).tmod 10 = ((m % 10 : Nat) : Int) := rfl
    rw [e]
    omega
  · have e : (-(m : Int)).tmod 10 = -((m % 10 : Nat) : Int) := by rw [Int.neg_tmod]; rfl
    rw [e]
    omega
theorem itoa_parts {n : Int} (h : 10 ≤ n ∨ n ≤ -10) : itoa (n.tdiv 10) ++ itoa (if n < 0 then -(n.tmod 10) else n.tmod 10) = itoa n := by
  obtain ⟨m, rfl | rfl⟩ := n.eq_nat_or_neg
  · have e1 : (m : Int).tdiv 10 = ((m / 10 : Nat) : Int) := rfl
    have e2 : (m : Int).tmod 10 = ((m % 10 : Nat) : Int) := rfl
    rw [if_neg (by omega), e1, e2, itoa_nat, itoa_nat, itoa_nat, dec_big (m := m) (by omega)]
  · have e1 : (-(m : Int)).tdiv 10 = -((m / 10 : Nat) : Int) := by rw [Int.neg_tdiv]; rfl
    have e2 : -((-(m : Int)).tmod 10) = ((m % 10 : Nat) : Int) := by
      have : (-(m : Int)).tmod 10 = -((m % 10 : Nat) : Int) := by rw [Int.neg_tmod]; rfl
      omega
    rw [if_pos (by omega), e1, e2, itoa_neg (by omega), itoa_neg (by omega), itoa_nat, dec_big (m := m) (by omega)]
    rfl
theorem smallB_ok : ∀ {k : Nat}, smallB k = true → ∀ j, j < k → ∃ v H, runE Tryd.prog (knL []) 2000 28 [.int .i64 ((j : Int) - 9)] Env.none = some (v, H) ∧ ∀ ρ, sval ρ v = some (.string (bstr (itoa ((j : Int) - 9))))
  | 0, _, j, hj => by omega
  | k + 1, h, j, hj => by
    simp only [smallB] at h
    split at h
    · rename_i h1
      by_cases e : j = k
      · subst e
        split at h1
        · rename_i s H hr
          refine ⟨_, H, hr, fun ρ => ?_⟩
          have := bEq_eq h1
          rw [strEq_eq] at this
          simp only [ByteArray.toList_eq, beq_iff_eq] at this
          have e2 : s = bstr (itoa ((j : Int) - 9)) := ByteArray.ext (Array.toList_inj.1 this)
          rw [e2]
          rfl
        · rename_i s H hr
          refine ⟨_, H, hr, fun ρ => ?_⟩
          have := bEq_eq h1
          rw [strEq_eq] at this
          simp only [ByteArray.toList_eq, beq_iff_eq] at this
          have e2 : s = bstr (itoa ((j : Int) - 9)) := ByteArray.ext (Array.toList_inj.1 this)
          rw [e2]
          have : textS ρ [.string (bstr (itoa ((j : Int) - 9)))] = some (bstr (itoa ((j : Int) - 9))) := textS_one rfl
          simp only [sval, this]
        · cases h1
      · exact smallB_ok h j (by omega)
    · cases h
theorem digB_ok {b : Bool} {lo hi : Int} (h : digB b lo hi = true) : ∃ H, runE Tryd.prog (knL (digKT b)) 2000 28 [.sint .i64 0] (digE b lo hi) = some (.cat [.sym 10, .sym 11], H) := by
  unfold digB at h
  split at h
  · rename_i i j H hr
    split at h
    · rename_i h1
      rw [Nat.eq_of_beq_eq_true h1, Nat.eq_of_beq_eq_true h] at hr
      exact ⟨H, hr⟩
    · cases h
  · cases h
theorem fact_slenD {ρ : Rho} {a b : Nat} {l : List UInt8} (h1 : ρ.val a = .string (bstr l)) (h2 : ρ.int b = l.length) : FactOK ρ (.len true (.sym a) (.sint .i64 b)) :=
  ⟨.string (bstr l), l.length, by simp only [sval, h1], ⟨_, rfl, rfl⟩, by simp only [sval, h2]⟩
theorem digitsC : ∀ (k : Nat) (n : Int), n.natAbs = k → I64 n → ∀ w, Calls Tryd.prog 28 #[.int .i64 n] w fun e w' => e = .returned (.string (bstr (itoa n))) ∧ Below w.heap.size w w' := by
  intro k
  induction k using Nat.strongRecOn with
  | _ k ih =>
    intro n hk hn w
    by_cases hsm : -9 ≤ n ∧ n ≤ 9
    · obtain ⟨v, H, h1, h2⟩ := smallB_ok dig_small (n + 9).toNat (by omega)
      have e : (((n + 9).toNat : Nat) : Int) - 9 = n := by omega
      rw [e] at h1 h2
      letI : Ext := extKT Tryd.prog []
      refine (runE_calls (noNG_of noNG) mixed (knL_ok fun ρ w h => h) h1 (ρ := rho0) ⟨(fun e he => by cases he), (fun i => ⟨Int.le_refl _, Int.le_refl _⟩), (fun f hf => by cases hf), (fun i c h => by cases h)⟩ (fun r b h => by cases h) (args := [.int .i64 n]) ?_).mono ?_
      · simp only [VRs, VR]
        exact ⟨_, _, rfl, rfl, rfl⟩
      · rintro e w' ⟨v', φ', rfl, hφ, hv, hb⟩
        rw [sval_VR (h2 φ'.ρ) hv]
        exact ⟨rfl, hb⟩
    · have hbig : 10 ≤ n ∨ n ≤ -10 := by omega
      have hq := tq hn
      have hr := tr (n := n)
      have hl1 := itoa_len hq.1
      have hl2 := itoa_len (n := if n < 0 then -(n.tmod 10) else n.tmod 10) ⟨by split <;> omega, by split <;> omega⟩
      have run : ∀ b lo hi, b = decide (n < 0) → lo ≤ n → n ≤ hi → digB b lo hi = true → Calls Tryd.prog 28 #[.int .i64 n] w fun e w' => e = .returned (.string (bstr (itoa n))) ∧ Below w.heap.size w w' := by
        intro b lo hi hb hlo hhi hd
        obtain ⟨H, h1⟩ := digB_ok hd
        letI : Ext := extKT Tryd.prog (digKT b)
        have ext : ∀ e ∈ digKT b, KEok Tryd.prog (drho n) w e := by
          intro e he
          simp only [digKT, List.mem_cons, List.not_mem_nil, or_false] at he
          rcases he with rfl | rfl
          · intro φ vs w' hφ _ _ hv _
            simp only [VRs, VR, hφ] at hv
            obtain ⟨_, _, rfl, rfl, rfl⟩ := hv
            refine (ih _ (by rw [← hk]; exact hq.2 hbig) (n.tdiv 10) rfl hq.1 w').mono ?_
            rintro en w'' ⟨rfl, hbl⟩
            exact ⟨_, rfl, by simp only [VR, hφ]; rfl, hbl⟩
          · intro φ vs w' hφ _ _ hv _
            have harg : vs = [.int .i64 (if n < 0 then -(n.tmod 10) else n.tmod 10)] := by
              simp only [VRs, VR, hφ] at hv
              obtain ⟨_, _, rfl, rfl, rfl⟩ := hv
              by_cases hneg : n < 0
              · rw [hb, decide_eq_true hneg, if_pos hneg]
                rfl
              · rw [hb, decide_eq_false hneg, if_neg hneg]
                rfl
            subst harg
            refine (ih _ (by rw [← hk]; split <;> omega) (if n < 0 then -(n.tmod 10) else n.tmod 10) rfl ⟨by split <;> omega, by split <;> omega⟩ w').mono ?_
            rintro en w'' ⟨rfl, hbl⟩
            exact ⟨_, rfl, by simp only [VR, hφ]; rfl, hbl⟩
        have hiv : IvOK (digIv lo hi) (drho n) := iv_all (f := dval n) ⟨⟨hlo, hhi⟩, hq.1, ⟨by show _ ≤ n.tmod 10; omega, by show n.tmod 10 ≤ _; omega⟩, ⟨by show _ ≤ -(n.tmod 10); omega, by show -(n.tmod 10) ≤ _; omega⟩, ⟨by show (1 : Int) ≤ ((itoa (n.tdiv 10)).length : Int); omega, by show ((itoa (n.tdiv 10)).length : Int) ≤ 20; omega⟩,
            ⟨by show (1 : Int) ≤ ((itoa (if n < 0 then -(n.tmod 10) else n.tmod 10)).length : Int); omega, by show ((itoa (if n < 0 then -(n.tmod 10) else n.tmod 10)).length : Int) ≤ 20; omega⟩, trivial⟩ fun i => by
          match i with
          | 0 => exact hn
          | 1 => exact hq.1
          | 2 => exact ⟨by show _ ≤ n.tmod 10; omega, by show n.tmod 10 ≤ _; omega⟩
          | 3 => exact ⟨by show _ ≤ -(n.tmod 10); omega, by show -(n.tmod 10) ≤ _; omega⟩
          | 4 => exact i64_n (by show ((itoa (n.tdiv 10)).length : Int) ≤ _; omega)
          | 5 => exact i64_n (by show ((itoa (if n < 0 then -(n.tmod 10) else n.tmod 10)).length : Int) ≤ _; omega)
          | i + 6 => exact i64_0
        have fneg : FactOK (drho n) (.fn (.un .neg) [.sint .i64 2] (.sint .i64 3)) := by
          refine ⟨[.int .i64 (n.tmod 10)], .int .i64 (-(n.tmod 10)), rfl, rfl, fun P w => ?_⟩
          have e : IntKind.i64.wrap (0 - n.tmod 10) = -(n.tmod 10) := by
            have e0 : 0 - n.tmod 10 = -(n.tmod 10) := by omega
            rw [e0]
            exact wrap_in (by show (-9223372036854775808 : Int) ≤ _; omega) (by show _ ≤ (9223372036854775807 : Int); omega)
          show (pure (Value.int .i64 (IntKind.i64.wrap (0 - n.tmod 10))) : Sem Value).run P w = _
          rw [e]
          rfl
        have hfs : FsOK (digF b) (drho n) := by
          refine fs_cons (fact_quo (a := n) (b := 10) rfl rfl (by decide) ?_) (fs_cons (fact_rem (a := n) (b := 10) rfl rfl (by decide) rfl) (fs_cons (fact_slenD rfl rfl) (fs_cons (fact_slenD rfl rfl) ?_)))
          · show some (Value.int .i64 (n.tdiv 10)) = _
            rw [wrap_in (by show _ ≤ n.tdiv 10; exact hq.1.1) (by show n.tdiv 10 ≤ _; exact hq.1.2)]
          · cases b
            · exact fs_nil
            · exact fs_cons fneg fs_nil
        refine (runE_calls (noNG_of noNG) mixed (knL_ok fun ρ w h => h) h1 (ρ := drho n) ⟨ext, hiv, hfs, (fun i c h => by cases h)⟩ (fun r b h => by cases h) (args := [.int .i64 n]) ?_).mono ?_
        · simp only [VRs, VR]
          exact ⟨_, _, rfl, rfl, rfl⟩
        · rintro e w' ⟨v', φ', rfl, hφ, hv, hbl⟩
          have ht : textS (drho n) [.sym 10, .sym 11] = some (bstr (itoa n)) := by
            rw [textS_cons (s := bstr (itoa (n.tdiv 10))) (t := bstr (itoa (if n < 0 then -(n.tmod 10) else n.tmod 10))) rfl (textS_one rfl), bstr_app, itoa_parts hbig]
          have hs : sval φ'.ρ (.cat [.sym 10, .sym 11]) = some (.string (bstr (itoa n))) := by
            rw [hφ]
            simp only [sval, ht]
          rw [sval_VR hs hv]
          exact ⟨rfl, hbl⟩
      rcases hbig with h | h
      · exact run false 10 9223372036854775807 (decide_eq_false (by omega)).symm h hn.2 dig_pos
      · exact run true (-9223372036854775808) (-10) (decide_eq_true (by omega)).symm hn.1 h dig_neg
theorem digitsOK (w0 : World) : ∀ n, I64 n → ∀ w : World, w0.heap.size ≤ w.heap.size → (∀ k, k < w0.heap.size → w.heap[k]? = w0.heap[k]?) → Calls Tryd.prog 28 #[.int .i64 n] w fun e w' => e = .returned (.string (bstr (itoa n))) ∧ Below w.heap.size w w' :=
  fun n hn w _ _ => digitsC _ n rfl hn w
end
end Go.Proofs.YtgmdbpmookoafaaDoor.text
