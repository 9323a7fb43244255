/-
  Chapter 25: sets of places, walked.
-/
import Derived.Test.YticgadnmlbfmfaaTxD
import Derived.Test.YticgadnmlbfmfaaTxC
namespace Go.Proofs.Yticgadnmlbfmfaa.cachePlays
open Go.Shelf Go.RowKit Go.Lib Go.Sort
theorem place_calls (i : Int) (w : World) : Calls Try.prog 45 #[.int .i64 i] w fun e w' => e = .returned (.bool (decide (0 ≤ i) && decide (i < 256))) ∧ w' = w := by
  go_enter Try.func45, Try.ntmps45
  go_wp2
  · rename_i h
    go_ret
    exact ⟨by simp [h], rfl⟩
  · rename_i h
    have h : ¬ 0 ≤ i := by omega
    go_ret
    exact ⟨by simp [h], rfl⟩
theorem or_calls (a b : Int) (w : World) : Calls Try.prog 71 #[.int .u64 a, .int .u64 b] w fun e w' => e = .returned (.int .u64 (bits .or .u64 a b)) ∧ w' = w := by
  go_enter Try.func71, Try.ntmps71
  go_wp2
  go_ret
  exact ⟨rfl, rfl⟩
theorem andNot_calls (a b : Int) (w : World) : Calls Try.prog 52 #[.int .u64 a, .int .u64 b] w fun e w' => e = .returned (.int .u64 (bits .andNot .u64 a b)) ∧ w' = w := by
  go_enter Try.func52, Try.ntmps52
  go_wp2
  go_ret
  exact ⟨rfl, rfl⟩
theorem u64_pow {n : Nat} (h : n < 64) : IntKind.u64.wrap (2 ^ n) = 2 ^ n := by
  have h1 : (2 : Int) ^ n < 2 ^ 64 := by
    have : (2 : Nat) ^ n < 2 ^ 64 := Nat.pow_lt_pow_right (by decide) h
    exact_mod_cast this
  have h0 : (0 : Int) ≤ 2 ^ n := Int.pow_nonneg (by decide)
  unfold IntKind.wrap
  simp [IntKind.bits, IntKind.signed]
  omega
set_option maxHeartbeats 4000000 in
set_option maxRecDepth 100000 in
theorem with_0 {g : Nat} {f : Int → Int → Int} (hg : ∀ a b w, Calls Try.prog g #[.int .u64 a, .int .u64 b] w fun e w' => e = .returned (.int .u64 (f a b)) ∧ w' = w) (eg : ∀ args w, (callFunc g args).run Try.prog w = .ok (.enter g args) w)
    (d0 d1 d2 d3 : Int) (r : Int) (hr : 0 ≤ r) (hr2 : r < 64) (i : Int) (hi : i = r + 0) (w : World) :
    Calls Try.prog 51 #[.agg #[.int .u64 d0, .int .u64 d1, .int .u64 d2, .int .u64 d3], .int .i64 i, .func (.func g) #[] #[]] w fun e w' => e = .returned (.agg #[.int .u64 (f d0 (2 ^ r.toNat)), .int .u64 d1, .int .u64 d2, .int .u64 d3]) ∧ Gr w w' := by
  have mixed := mixedT
  have q0 : i / 64 = 0 := by omega
  have q1 : i % 64 = r := by omega
  have hi0 : 0 ≤ i := by omega
  have q2 : Int.tdiv i 64 = 0 := by rw [Int.tdiv_eq_ediv_of_nonneg hi0]; exact q0
  have q3 : Int.tmod i 64 = r := by rw [Int.tmod_eq_emod_of_nonneg hi0]; exact q1
  have hl : (decide (0 ≤ i) && decide (i < 256)) = true := by simp; omega
  have hw := u64_pow (n := r.toNat) (by omega)
  have HG : Aside _ := hg
  clear hg hi
  go_enter Try.func51, Try.ntmps51
  go_wp2_with (first | (go_at_call 45; refine (place_calls _ _).mono ?_; rintro e w' ⟨rfl, rfl⟩))
  go_region_with (refine (HG.out _ _ _).mono ?_; rintro e w' ⟨rfl, rfl⟩)
  all_goals
    skip
    go_wp2
    go_returns
    exact ⟨rfl, by repeat' (first | exact Gr.refl _ | refine Gr.alloc ?_ _ | refine Gr.drew ?_ | (refine Gr.set ?_ _ _ _ ?_; rotate_left; simp))⟩
set_option maxHeartbeats 4000000 in
set_option maxRecDepth 100000 in
theorem with_1 {g : Nat} {f : Int → Int → Int} (hg : ∀ a b w, Calls Try.prog g #[.int .u64 a, .int .u64 b] w fun e w' => e = .returned (.int .u64 (f a b)) ∧ w' = w) (eg : ∀ args w, (callFunc g args).run Try.prog w = .ok (.enter g args) w)
    (d0 d1 d2 d3 : Int) (r : Int) (hr : 0 ≤ r) (hr2 : r < 64) (i : Int) (hi : i = r + 64) (w : World) :
    Calls Try.prog 51 #[.agg #[.int .u64 d0, .int .u64 d1, .int .u64 d2, .int .u64 d3], .int .i64 i, .func (.func g) #[] #[]] w fun e w' => e = .returned (.agg #[.int .u64 d0, .int .u64 (f d1 (2 ^ r.toNat)), .int .u64 d2, .int .u64 d3]) ∧ Gr w w' := by
  have mixed := mixedT
  have q0 : i / 64 = 1 := by omega
  have q1 : i % 64 = r := by omega
  have hi0 : 0 ≤ i := by omega
  have q2 : Int.tdiv i 64 = 1 := by rw [Int.tdiv_eq_ediv_of_nonneg hi0]; exact q0
  have q3 : Int.tmod i 64 = r := by rw [Int.tmod_eq_emod_of_nonneg hi0]; exact q1
  have hl : (decide (0 ≤ i) && decide (i < 256)) = true := by simp; omega
  have hw := u64_pow (n := r.toNat) (by omega)
  have HG : Aside _ := hg
  clear hg hi
  go_enter Try.func51, Try.ntmps51
  go_wp2_with (first | (go_at_call 45; refine (place_calls _ _).mono ?_; rintro e w' ⟨rfl, rfl⟩))
  go_region_with (refine (HG.out _ _ _).mono ?_; rintro e w' ⟨rfl, rfl⟩)
  all_goals
    skip
    go_wp2
    go_returns
    exact ⟨rfl, by repeat' (first | exact Gr.refl _ | refine Gr.alloc ?_ _ | refine Gr.drew ?_ | (refine Gr.set ?_ _ _ _ ?_; rotate_left; simp))⟩
set_option maxHeartbeats 4000000 in
set_option maxRecDepth 100000 in
theorem with_2 {g : Nat} {f : Int → Int → Int} (hg : ∀ a b w, Calls Try.prog g #[.int .u64 a, .int .u64 b] w fun e w' => e = .returned (.int .u64 (f a b)) ∧ w' = w) (eg : ∀ args w, (callFunc g args).run Try.prog w = .ok (.enter g args) w)
    (d0 d1 d2 d3 : Int) (r : Int) (hr : 0 ≤ r) (hr2 : r < 64) (i : Int) (hi : i = r + 128) (w : World) :
    Calls Try.prog 51 #[.agg #[.int .u64 d0, .int .u64 d1, .int .u64 d2, .int .u64 d3], .int .i64 i, .func (.func g) #[] #[]] w fun e w' => e = .returned (.agg #[.int .u64 d0, .int .u64 d1, .int .u64 (f d2 (2 ^ r.toNat)), .int .u64 d3]) ∧ Gr w w' := by
  have mixed := mixedT
  have q0 : i / 64 = 2 := by omega
  have q1 : i % 64 = r := by omega
  have hi0 : 0 ≤ i := by omega
  have q2 : Int.tdiv i 64 = 2 := by rw [Int.tdiv_eq_ediv_of_nonneg hi0]; exact q0
  have q3 : Int.tmod i 64 = r := by rw [Int.tmod_eq_emod_of_nonneg hi0]; exact q1
  have hl : (decide (0 ≤ i) && decide (i < 256)) = true := by simp; omega
  have hw := u64_pow (n := r.toNat) (by omega)
  have HG : Aside _ := hg
  clear hg hi
  go_enter Try.func51, Try.ntmps51
  go_wp2_with (first | (go_at_call 45; refine (place_calls _ _).mono ?_; rintro e w' ⟨rfl, rfl⟩))
  go_region_with (refine (HG.out _ _ _).mono ?_; rintro e w' ⟨rfl, rfl⟩)
  all_goals
    skip
    go_wp2
    go_returns
    exact ⟨rfl, by repeat' (first | exact Gr.refl _ | refine Gr.alloc ?_ _ | refine Gr.drew ?_ | (refine Gr.set ?_ _ _ _ ?_; rotate_left; simp))⟩
set_option maxHeartbeats 4000000 in
set_option maxRecDepth 100000 in
theorem with_3 {g : Nat} {f : Int → Int → Int} (hg : ∀ a b w, Calls Try.prog g #[.int .u64 a, .int .u64 b] w fun e w' => e = .returned (.int .u64 (f a b)) ∧ w' = w) (eg : ∀ args w, (callFunc g args).run Try.prog w = .ok (.enter g args) w)
    (d0 d1 d2 d3 : Int) (r : Int) (hr : 0 ≤ r) (hr2 : r < 64) (i : Int) (hi : i = r + 192) (w : World) :
    Calls Try.prog 51 #[.agg #[.int .u64 d0, .int .u64 d1, .int .u64 d2, .int .u64 d3], .int .i64 i, .func (.func g) #[] #[]] w fun e w' => e = .returned (.agg #[.int .u64 d0, .int .u64 d1, .int .u64 d2, .int .u64 (f d3 (2 ^ r.toNat))]) ∧ Gr w w' := by
  have mixed := mixedT
  have q0 : i / 64 = 3 := by omega
  have q1 : i % 64 = r := by omega
  have hi0 : 0 ≤ i := by omega
  have q2 : Int.tdiv i 64 = 3 := by rw [Int.tdiv_eq_ediv_of_nonneg hi0]; exact q0
  have q3 : Int.tmod i 64 = r := by rw [Int.tmod_eq_emod_of_nonneg hi0]; exact q1
  have hl : (decide (0 ≤ i) && decide (i < 256)) = true := by simp; omega
  have hw := u64_pow (n := r.toNat) (by omega)
  have HG : Aside _ := hg
  clear hg hi
  go_enter Try.func51, Try.ntmps51
  go_wp2_with (first | (go_at_call 45; refine (place_calls _ _).mono ?_; rintro e w' ⟨rfl, rfl⟩))
  go_region_with (refine (HG.out _ _ _).mono ?_; rintro e w' ⟨rfl, rfl⟩)
  all_goals
    skip
    go_wp2
    go_returns
    exact ⟨rfl, by repeat' (first | exact Gr.refl _ | refine Gr.alloc ?_ _ | refine Gr.drew ?_ | (refine Gr.set ?_ _ _ _ ?_; rotate_left; simp))⟩
end Go.Proofs.Yticgadnmlbfmfaa.cachePlays
/-
  Chapter 25: sets of places: more, less, is it there.
-/
namespace Go.Proofs.Yticgadnmlbfmfaa.cachePlays
open Go.Shelf Go.RowKit Go.Lib Go.Sort
/-- A word's places, from o on. -/
def BtW (d : Int) (o : Int) (dt : Int → Bool) : Prop := ∃ B : BitVec 64, d = (B.toNat : Int) ∧ ∀ i : Nat, i < 64 → B.getLsbD i = dt (i + o)
/-- Four words' places. -/
def Bt (d0 d1 d2 d3 : Int) (dt : Int → Bool) : Prop := BtW d0 0 dt ∧ BtW d1 64 dt ∧ BtW d2 128 dt ∧ BtW d3 192 dt
theorem u64_of (B : BitVec 64) : BitVec.ofInt 64 (B.toNat : Int) = B := by
  rw [BitVec.ofInt_natCast]
  simp
theorem u64_wrapB (B : BitVec 64) : IntKind.u64.wrap (B.toNat : Int) = B.toNat := by
  rw [IntKind.wrap_u64]
  have := B.isLt
  omega
theorem two_bit {r i : Nat} (hr : r < 64) (hi : i < 64) : (BitVec.ofInt 64 (2 ^ r : Int)).getLsbD i = decide (i = r) := by
  have e : ((2 : Int) ^ r) = ((2 ^ r : Nat) : Int) := by simp
  rw [e, BitVec.ofInt_natCast, BitVec.getLsbD_ofNat, Nat.testBit_two_pow]
  simp [hi]
  exact eq_comm
theorem BtW.or {d o : Int} {dt : Int → Bool} (h : BtW d o dt) {r : Nat} (hr : r < 64) : BtW (bits .or .u64 d (2 ^ r)) o (fun k => decide (k = r + o) || dt k) := by
  obtain ⟨B, rfl, hB⟩ := h
  refine ⟨B ||| BitVec.ofInt 64 (2 ^ r), ?_, fun i hi => ?_⟩
  · show IntKind.u64.wrap ((BitVec.ofInt 64 (B.toNat : Int) ||| BitVec.ofInt 64 (2 ^ r)).toNat : Int) = _
    rw [u64_of, u64_wrapB]
  · rw [BitVec.getLsbD_or, hB i hi, two_bit hr hi, Bool.or_comm]
    congr 1
    exact decide_eq_decide.2 (by omega)
theorem BtW.andNot {d o : Int} {dt : Int → Bool} (h : BtW d o dt) {r : Nat} (hr : r < 64) : BtW (bits .andNot .u64 d (2 ^ r)) o (fun k => !decide (k = r + o) && dt k) := by
  obtain ⟨B, rfl, hB⟩ := h
  refine ⟨B &&& ~~~ BitVec.ofInt 64 (2 ^ r), ?_, fun i hi => ?_⟩
  · show IntKind.u64.wrap ((BitVec.ofInt 64 (B.toNat : Int) &&& ~~~ BitVec.ofInt 64 (2 ^ r)).toNat : Int) = _
    rw [u64_of, u64_wrapB]
  · rw [BitVec.getLsbD_and, hB i hi, BitVec.getLsbD_not, two_bit hr hi, Bool.and_comm]
    simp only [hi, decide_true, Bool.true_and]
    congr 2
    exact decide_eq_decide.2 (by omega)
theorem BtW.same {d o : Int} {dt dt' : Int → Bool} (h : BtW d o dt) (e : ∀ i : Nat, i < 64 → dt' (i + o) = dt (i + o)) : BtW d o dt' := by
  obtain ⟨B, hd, hB⟩ := h
  exact ⟨B, hd, fun i hi => (hB i hi).trans (e i hi).symm⟩
theorem BtW.has {d o : Int} {dt : Int → Bool} (h : BtW d o dt) {r : Nat} (hr : r < 64) : (bits .and .u64 (d / 2 ^ r) 1 = 1) ↔ dt (r + o) = true := by
  obtain ⟨B, rfl, hB⟩ := h
  rw [← hB r hr]
  have e1 : ((B.toNat : Int) / 2 ^ r) = ((B.toNat / 2 ^ r : Nat) : Int) := by simp
  have e2 : B.toNat / 2 ^ r < 2 ^ 64 := Nat.lt_of_le_of_lt (Nat.div_le_self _ _) B.isLt
  show IntKind.u64.wrap ((BitVec.ofInt 64 ((B.toNat : Int) / 2 ^ r) &&& BitVec.ofInt 64 1).toNat : Int) = 1 ↔ _
  rw [e1, u64_wrapB, BitVec.toNat_and, BitVec.ofInt_natCast, BitVec.toNat_ofNat, Nat.mod_eq_of_lt e2]
  have e3 : (BitVec.ofInt 64 1).toNat = 1 := by decide
  rw [e3, Nat.and_one_is_mod, BitVec.getLsbD, Nat.testBit, Nat.shiftRight_eq_div_pow, Nat.one_and_eq_mod_two]
  have := Nat.mod_two_eq_zero_or_one (B.toNat / 2 ^ r)
  rcases this with h | h <;> simp [h]
theorem Bt.ex {d0 d1 d2 d3 : Int} {dt : Int → Bool} (_ : Bt d0 d1 d2 d3 dt) {i : Int} (hi : 0 ≤ i) (hi2 : i < 256) : ∃ (j : Nat) (r : Nat), j < 4 ∧ r < 64 ∧ i = (r : Int) + 64 * j := ⟨(i / 64).toNat, (i % 64).toNat, by omega, by omega, by omega⟩
def encB4 (d0 d1 d2 d3 : Int) : Array Value := #[.int .u64 d0, .int .u64 d1, .int .u64 d2, .int .u64 d3]
def addB (i : Int) (dt : Int → Bool) : Int → Bool := fun k => decide (k = i) || dt k
def delB (i : Int) (dt : Int → Bool) : Int → Bool := fun k => !decide (k = i) && dt k
theorem add_words {d0 d1 d2 d3 : Int} {dt : Int → Bool} (h : Bt d0 d1 d2 d3 dt) {i : Int} (hi : 0 ≤ i) (hi2 : i < 256) :
    ∃ e0 e1 e2 e3, Bt e0 e1 e2 e3 (addB i dt) ∧ ∀ w, Calls Try.prog 51 #[.agg (encB4 d0 d1 d2 d3), .int .i64 i, .func (.func 71) #[] #[]] w fun e w' => e = .returned (.agg (encB4 e0 e1 e2 e3)) ∧ Gr w w' := by
  obtain ⟨j, r, hj, hr, rfl⟩ := h.ex hi hi2
  have hh : ∀ (d o : Int), BtW d o dt → ((r : Int) + 64 * j) = r + o → BtW (bits .or .u64 d (2 ^ r)) o (addB ((r : Int) + 64 * j) dt) := fun d o h e => by
    rw [e]
    exact h.or hr
  have hs : ∀ (d o : Int), BtW d o dt → (∀ i : Nat, i < 64 → ((i : Int) + o) ≠ (r : Int) + 64 * j) → BtW d o (addB ((r : Int) + 64 * j) dt) := fun d o h e => h.same fun i hi => by
    simp [addB, e i hi]
  have eg : ∀ args w, (callFunc 71 args).run Try.prog w = .ok (.enter 71 args) w := enters_of Try.func71 (by kernel_rfl) rfl
  obtain ⟨h0, h1, h2, h3⟩ := h
  obtain rfl | rfl | rfl | rfl : j = 0 ∨ j = 1 ∨ j = 2 ∨ j = 3 := by omega
  · exact ⟨bits .or .u64 d0 (2 ^ r), d1, d2, d3, ⟨hh _ _ h0 (by omega), hs _ _ h1 (fun i hi => by omega), hs _ _ h2 (fun i hi => by omega), hs _ _ h3 (fun i hi => by omega)⟩, with_0 or_calls eg d0 d1 d2 d3 (r : Int) (by omega) (by omega) _ (by omega)⟩
  · exact ⟨d0, bits .or .u64 d1 (2 ^ r), d2, d3, ⟨hs _ _ h0 (fun i hi => by omega), hh _ _ h1 (by omega), hs _ _ h2 (fun i hi => by omega), hs _ _ h3 (fun i hi => by omega)⟩, with_1 or_calls eg d0 d1 d2 d3 (r : Int) (by omega) (by omega) _ (by omega)⟩
  · exact ⟨d0, d1, bits .or .u64 d2 (2 ^ r), d3, ⟨hs _ _ h0 (fun i hi => by omega), hs _ _ h1 (fun i hi => by omega), hh _ _ h2 (by omega), hs _ _ h3 (fun i hi => by omega)⟩, with_2 or_calls eg d0 d1 d2 d3 (r : Int) (by omega) (by omega) _ (by omega)⟩
  · exact ⟨d0, d1, d2, bits .or .u64 d3 (2 ^ r), ⟨hs _ _ h0 (fun i hi => by omega), hs _ _ h1 (fun i hi => by omega), hs _ _ h2 (fun i hi => by omega), hh _ _ h3 (by omega)⟩, with_3 or_calls eg d0 d1 d2 d3 (r : Int) (by omega) (by omega) _ (by omega)⟩
set_option maxHeartbeats 4000000 in
set_option maxRecDepth 100000 in
theorem add_calls {d0 d1 d2 d3 : Int} {dt : Int → Bool} (h : Bt d0 d1 d2 d3 dt) {i : Int} (hi : 0 ≤ i) (hi2 : i < 256) :
    ∃ e0 e1 e2 e3, Bt e0 e1 e2 e3 (addB i dt) ∧ ∀ w, Calls Try.prog 50 #[.agg (encB4 d0 d1 d2 d3), .int .i64 i] w fun e w' => e = .returned (.agg (encB4 e0 e1 e2 e3)) ∧ Gr w w' := by
  obtain ⟨e0, e1, e2, e3, hB, hc⟩ := add_words h hi hi2
  refine ⟨e0, e1, e2, e3, hB, fun w => ?_⟩
  clear hB h
  simp only [encB4] at hc ⊢
  have HC : Aside _ := hc
  clear hc
  have cc : ∀ W, Gr ((w.alloc (.cells #[.int .u64 d0, .int .u64 d1, .int .u64 d2, .int .u64 d3] 53)).alloc (.cells #[.int .u64 0, .int .u64 0, .int .u64 0, .int .u64 0] 53)) W → (W.cell? ⟨w.heap.size + 1, 0, none⟩ = some (.int .u64 0) ∧ W.frozen? ⟨w.heap.size + 1, 0, none⟩ = false) ∧ (W.cell? ⟨w.heap.size + 1, 1, none⟩ = some (.int .u64 0) ∧ W.frozen? ⟨w.heap.size + 1, 1, none⟩ = false) ∧ (W.cell? ⟨w.heap.size + 1, 2, none⟩ = some (.int .u64 0) ∧ W.frozen? ⟨w.heap.size + 1, 2, none⟩ = false) ∧ (W.cell? ⟨w.heap.size + 1, 3, none⟩ = some (.int .u64 0) ∧ W.frozen? ⟨w.heap.size + 1, 3, none⟩ = false) ∧ Gr w W := fun W g => by
    refine ⟨?_, ?_, ?_, ?_, Gr.trans ((Gr.refl _).alloc _ |>.alloc _) g⟩
    all_goals
      constructor
      · rw [g.cell (by simp)]
        simp
      · rw [g.frozen (by simp)]
        simp
  have CC : Aside _ := cc
  clear cc
  go_enter Try.func50, Try.ntmps50
  go_wp2_with (first | (go_at_call 51; refine (HC.out _).mono ?_; rintro e w2 ⟨rfl, hG⟩; obtain ⟨⟨c0, f0⟩, ⟨c1, f1⟩, ⟨c2, f2⟩, ⟨c3, f3⟩, g⟩ := CC.out _ hG; have GG : Aside _ := g; have HS : w.heap.size ≤ w.heap.size + 1 := Nat.le_succ _; clear hG g))
  refine bodyPost_ret (v := .agg #[.int .u64 e0, .int .u64 e1, .int .u64 e2, .int .u64 e3]) (by simp [results, go_sem, Try.results50, c0, c1, c2, c3]) rfl ?_
  refine ⟨rfl, ?_⟩
  exact Gr.set (Gr.set (Gr.set (Gr.set GG.out _ _ _ HS) _ _ _ HS) _ _ _ HS) _ _ _ HS
theorem del_words {d0 d1 d2 d3 : Int} {dt : Int → Bool} (h : Bt d0 d1 d2 d3 dt) {i : Int} (hi : 0 ≤ i) (hi2 : i < 256) :
    ∃ e0 e1 e2 e3, Bt e0 e1 e2 e3 (delB i dt) ∧ ∀ w, Calls Try.prog 51 #[.agg (encB4 d0 d1 d2 d3), .int .i64 i, .func (.func 52) #[] #[]] w fun e w' => e = .returned (.agg (encB4 e0 e1 e2 e3)) ∧ Gr w w' := by
  obtain ⟨j, r, hj, hr, rfl⟩ := h.ex hi hi2
  have hh : ∀ (d o : Int), BtW d o dt → ((r : Int) + 64 * j) = r + o → BtW (bits .andNot .u64 d (2 ^ r)) o (delB ((r : Int) + 64 * j) dt) := fun d o h e => by
    rw [e]
    exact h.andNot hr
  have hs : ∀ (d o : Int), BtW d o dt → (∀ i : Nat, i < 64 → ((i : Int) + o) ≠ (r : Int) + 64 * j) → BtW d o (delB ((r : Int) + 64 * j) dt) := fun d o h e => h.same fun i hi => by
    simp [delB, e i hi]
  have eg : ∀ args w, (callFunc 52 args).run Try.prog w = .ok (.enter 52 args) w := enters_of Try.func52 (by kernel_rfl) rfl
  obtain ⟨h0, h1, h2, h3⟩ := h
  obtain rfl | rfl | rfl | rfl : j = 0 ∨ j = 1 ∨ j = 2 ∨ j = 3 := by omega
  · exact ⟨bits .andNot .u64 d0 (2 ^ r), d1, d2, d3, ⟨hh _ _ h0 (by omega), hs _ _ h1 (fun i hi => by omega), hs _ _ h2 (fun i hi => by omega), hs _ _ h3 (fun i hi => by omega)⟩, with_0 andNot_calls eg d0 d1 d2 d3 (r : Int) (by omega) (by omega) _ (by omega)⟩
  · exact ⟨d0, bits .andNot .u64 d1 (2 ^ r), d2, d3, ⟨hs _ _ h0 (fun i hi => by omega), hh _ _ h1 (by omega), hs _ _ h2 (fun i hi => by omega), hs _ _ h3 (fun i hi => by omega)⟩, with_1 andNot_calls eg d0 d1 d2 d3 (r : Int) (by omega) (by omega) _ (by omega)⟩
  · exact ⟨d0, d1, bits .andNot .u64 d2 (2 ^ r), d3, ⟨hs _ _ h0 (fun i hi => by omega), hs _ _ h1 (fun i hi => by omega), hh _ _ h2 (by omega), hs _ _ h3 (fun i hi => by omega)⟩, with_2 andNot_calls eg d0 d1 d2 d3 (r : Int) (by omega) (by omega) _ (by omega)⟩
  · exact ⟨d0, d1, d2, bits .andNot .u64 d3 (2 ^ r), ⟨hs _ _ h0 (fun i hi => by omega), hs _ _ h1 (fun i hi => by omega), hs _ _ h2 (fun i hi => by omega), hh _ _ h3 (by omega)⟩, with_3 andNot_calls eg d0 d1 d2 d3 (r : Int) (by omega) (by omega) _ (by omega)⟩
set_option maxHeartbeats 4000000 in
set_option maxRecDepth 100000 in
theorem del_calls {d0 d1 d2 d3 : Int} {dt : Int → Bool} (h : Bt d0 d1 d2 d3 dt) {i : Int} (hi : 0 ≤ i) (hi2 : i < 256) :
    ∃ e0 e1 e2 e3, Bt e0 e1 e2 e3 (delB i dt) ∧ ∀ w, Calls Try.prog 30 #[.agg (encB4 d0 d1 d2 d3), .int .i64 i] w fun e w' => e = .returned (.agg (encB4 e0 e1 e2 e3)) ∧ Gr w w' := by
  obtain ⟨e0, e1, e2, e3, hB, hc⟩ := del_words h hi hi2
  refine ⟨e0, e1, e2, e3, hB, fun w => ?_⟩
  clear hB h
  simp only [encB4] at hc ⊢
  have HC : Aside _ := hc
  clear hc
  have cc : ∀ W, Gr ((w.alloc (.cells #[.int .u64 d0, .int .u64 d1, .int .u64 d2, .int .u64 d3] 53)).alloc (.cells #[.int .u64 0, .int .u64 0, .int .u64 0, .int .u64 0] 53)) W → (W.cell? ⟨w.heap.size + 1, 0, none⟩ = some (.int .u64 0) ∧ W.frozen? ⟨w.heap.size + 1, 0, none⟩ = false) ∧ (W.cell? ⟨w.heap.size + 1, 1, none⟩ = some (.int .u64 0) ∧ W.frozen? ⟨w.heap.size + 1, 1, none⟩ = false) ∧ (W.cell? ⟨w.heap.size + 1, 2, none⟩ = some (.int .u64 0) ∧ W.frozen? ⟨w.heap.size + 1, 2, none⟩ = false) ∧ (W.cell? ⟨w.heap.size + 1, 3, none⟩ = some (.int .u64 0) ∧ W.frozen? ⟨w.heap.size + 1, 3, none⟩ = false) ∧ Gr w W := fun W g => by
    refine ⟨?_, ?_, ?_, ?_, Gr.trans ((Gr.refl _).alloc _ |>.alloc _) g⟩
    all_goals
      constructor
      · rw [g.cell (by simp)]
        simp
      · rw [g.frozen (by simp)]
        simp
  have CC : Aside _ := cc
  clear cc
  go_enter Try.func30, Try.ntmps30
  go_wp2_with (first | (go_at_call 51; refine (HC.out _).mono ?_; rintro e w2 ⟨rfl, hG⟩; obtain ⟨⟨c0, f0⟩, ⟨c1, f1⟩, ⟨c2, f2⟩, ⟨c3, f3⟩, g⟩ := CC.out _ hG; have GG : Aside _ := g; have HS : w.heap.size ≤ w.heap.size + 1 := Nat.le_succ _; clear hG g))
  refine bodyPost_ret (v := .agg #[.int .u64 e0, .int .u64 e1, .int .u64 e2, .int .u64 e3]) (by simp [results, go_sem, Try.results30, c0, c1, c2, c3]) rfl ?_
  refine ⟨rfl, ?_⟩
  exact Gr.set (Gr.set (Gr.set (Gr.set GG.out _ _ _ HS) _ _ _ HS) _ _ _ HS) _ _ _ HS
set_option maxHeartbeats 4000000 in
set_option maxRecDepth 100000 in
theorem has_0 {d0 d1 d2 d3 : Int} {r : Int} (hr : 0 ≤ r) (hr2 : r < 64) (i : Int) (hi : i = r + 0) (w : World) : Calls Try.prog 21 #[.agg #[.int .u64 d0, .int .u64 d1, .int .u64 d2, .int .u64 d3], .int .i64 i] w fun e w' => e = .returned (.bool (bits .and .u64 (d0 / 2 ^ r.toNat) 1 == 1)) ∧ Gr w w' := by
  have q0 : i / 64 = 0 := by omega
  have q1 : i % 64 = r := by omega
  have hi0 : 0 ≤ i := by omega
  have q2 : Int.tdiv i 64 = 0 := by rw [Int.tdiv_eq_ediv_of_nonneg hi0]; exact q0
  have q3 : Int.tmod i 64 = r := by rw [Int.tmod_eq_emod_of_nonneg hi0]; exact q1
  have hl : (decide (0 ≤ i) && decide (i < 256)) = true := by simp; omega
  clear hi
  go_enter Try.func21, Try.ntmps21
  go_wp2_with (first | (go_at_call 45; refine (place_calls _ _).mono ?_; rintro e w' ⟨rfl, rfl⟩))
  all_goals
    go_returns
    exact ⟨rfl, by repeat' (first | exact Gr.refl _ | refine Gr.alloc ?_ _ | refine Gr.drew ?_)⟩
set_option maxHeartbeats 4000000 in
set_option maxRecDepth 100000 in
theorem has_1 {d0 d1 d2 d3 : Int} {r : Int} (hr : 0 ≤ r) (hr2 : r < 64) (i : Int) (hi : i = r + 64) (w : World) : Calls Try.prog 21 #[.agg #[.int .u64 d0, .int .u64 d1, .int .u64 d2, .int .u64 d3], .int .i64 i] w fun e w' => e = .returned (.bool (bits .and .u64 (d1 / 2 ^ r.toNat) 1 == 1)) ∧ Gr w w' := by
  have q0 : i / 64 = 1 := by omega
  have q1 : i % 64 = r := by omega
  have hi0 : 0 ≤ i := by omega
  have q2 : Int.tdiv i 64 = 1 := by rw [Int.tdiv_eq_ediv_of_nonneg hi0]; exact q0
  have q3 : Int.tmod i 64 = r := by rw [Int.tmod_eq_emod_of_nonneg hi0]; exact q1
  have hl : (decide (0 ≤ i) && decide (i < 256)) = true := by simp; omega
  clear hi
  go_enter Try.func21, Try.ntmps21
  go_wp2_with (first | (go_at_call 45; refine (place_calls _ _).mono ?_; rintro e w' ⟨rfl, rfl⟩))
  all_goals
    go_returns
    exact ⟨rfl, by repeat' (first | exact Gr.refl _ | refine Gr.alloc ?_ _ | refine Gr.drew ?_)⟩
set_option maxHeartbeats 4000000 in
set_option maxRecDepth 100000 in
theorem has_2 {d0 d1 d2 d3 : Int} {r : Int} (hr : 0 ≤ r) (hr2 : r < 64) (i : Int) (hi : i = r + 128) (w : World) : Calls Try.prog 21 #[.agg #[.int .u64 d0, .int .u64 d1, .int .u64 d2, .int .u64 d3], .int .i64 i] w fun e w' => e = .returned (.bool (bits .and .u64 (d2 / 2 ^ r.toNat) 1 == 1)) ∧ Gr w w' := by
  have q0 : i / 64 = 2 := by omega
  have q1 : i % 64 = r := by omega
  have hi0 : 0 ≤ i := by omega
  have q2 : Int.tdiv i 64 = 2 := by rw [Int.tdiv_eq_ediv_of_nonneg hi0]; exact q0
  have q3 : Int.tmod i 64 = r := by rw [Int.tmod_eq_emod_of_nonneg hi0]; exact q1
  have hl : (decide (0 ≤ i) && decide (i < 256)) = true := by simp; omega
  clear hi
  go_enter Try.func21, Try.ntmps21
  go_wp2_with (first | (go_at_call 45; refine (place_calls _ _).mono ?_; rintro e w' ⟨rfl, rfl⟩))
  all_goals
    go_returns
    exact ⟨rfl, by repeat' (first | exact Gr.refl _ | refine Gr.alloc ?_ _ | refine Gr.drew ?_)⟩
set_option maxHeartbeats 4000000 in
set_option maxRecDepth 100000 in
theorem has_3 {d0 d1 d2 d3 : Int} {r : Int} (hr : 0 ≤ r) (hr2 : r < 64) (i : Int) (hi : i = r + 192) (w : World) : Calls Try.prog 21 #[.agg #[.int .u64 d0, .int .u64 d1, .int .u64 d2, .int .u64 d3], .int .i64 i] w fun e w' => e = .returned (.bool (bits .and .u64 (d3 / 2 ^ r.toNat) 1 == 1)) ∧ Gr w w' := by
  have q0 : i / 64 = 3 := by omega
  have q1 : i % 64 = r := by omega
  have hi0 : 0 ≤ i := by omega
  have q2 : Int.tdiv i 64 = 3 := by rw [Int.tdiv_eq_ediv_of_nonneg hi0]; exact q0
  have q3 : Int.tmod i 64 = r := by rw [Int.tmod_eq_emod_of_nonneg hi0]; exact q1
  have hl : (decide (0 ≤ i) && decide (i < 256)) = true := by simp; omega
  clear hi
  go_enter Try.func21, Try.ntmps21
  go_wp2_with (first | (go_at_call 45; refine (place_calls _ _).mono ?_; rintro e w' ⟨rfl, rfl⟩))
  all_goals
    go_returns
    exact ⟨rfl, by repeat' (first | exact Gr.refl _ | refine Gr.alloc ?_ _ | refine Gr.drew ?_)⟩
theorem has_calls {d0 d1 d2 d3 : Int} {dt : Int → Bool} (h : Bt d0 d1 d2 d3 dt) {i : Int} (hi : 0 ≤ i) (hi2 : i < 256) (w : World) : Calls Try.prog 21 #[.agg (encB4 d0 d1 d2 d3), .int .i64 i] w fun e w' => e = .returned (.bool (dt i)) ∧ Gr w w' := by
  obtain ⟨j, r, hj, hr, rfl⟩ := h.ex hi hi2
  obtain ⟨h0, h1, h2, h3⟩ := h
  have hh : ∀ (d o : Int), BtW d o dt → ((r : Int) + 64 * j) = r + o → (bits .and .u64 (d / 2 ^ r) 1 == 1) = dt ((r : Int) + 64 * j) := fun d o h e => by
    rw [e, Bool.eq_iff_iff, beq_iff_eq]
    exact h.has hr
  obtain rfl | rfl | rfl | rfl : j = 0 ∨ j = 1 ∨ j = 2 ∨ j = 3 := by omega
  · refine (has_0 (d0 := d0) (d1 := d1) (d2 := d2) (d3 := d3) (r := (r : Int)) (by omega) (by omega) _ (by omega) w).mono ?_
    rintro e w' ⟨rfl, g⟩
    refine ⟨?_, g⟩
    have := hh _ _ h0 (by omega)
    simp only [Int.toNat_natCast]
    rw [this]
  · refine (has_1 (d0 := d0) (d1 := d1) (d2 := d2) (d3 := d3) (r := (r : Int)) (by omega) (by omega) _ (by omega) w).mono ?_
    rintro e w' ⟨rfl, g⟩
    refine ⟨?_, g⟩
    have := hh _ _ h1 (by omega)
    simp only [Int.toNat_natCast]
    rw [this]
  · refine (has_2 (d0 := d0) (d1 := d1) (d2 := d2) (d3 := d3) (r := (r : Int)) (by omega) (by omega) _ (by omega) w).mono ?_
    rintro e w' ⟨rfl, g⟩
    refine ⟨?_, g⟩
    have := hh _ _ h2 (by omega)
    simp only [Int.toNat_natCast]
    rw [this]
  · refine (has_3 (d0 := d0) (d1 := d1) (d2 := d2) (d3 := d3) (r := (r : Int)) (by omega) (by omega) _ (by omega) w).mono ?_
    rintro e w' ⟨rfl, g⟩
    refine ⟨?_, g⟩
    have := hh _ _ h3 (by omega)
    simp only [Int.toNat_natCast]
    rw [this]
end Go.Proofs.Yticgadnmlbfmfaa.cachePlays
/-
  Chapter 25: layer, compare, the order of effects, walked.
-/
namespace Go.Proofs.Yticgadnmlbfmfaa.cachePlays
open Go.Shelf Go.RowKit Go.Lib Go.Sort
theorem set_alloc (w : World) (o o' : Obj) : ({ (w.alloc o) with heap := (w.alloc o).heap.setIfInBounds w.heap.size o' } : World) = w.alloc o' := by
  have e : (w.alloc o).heap.setIfInBounds w.heap.size o' = (w.alloc o').heap := by
    show (w.heap.push o).setIfInBounds w.heap.size o' = w.heap.push o'
    apply Array.ext_getElem?
    intro i
    rw [Array.getElem?_setIfInBounds, Array.getElem?_push, Array.getElem?_push]
    by_cases h : w.heap.size = i
    · subst h
      simp
    · rw [if_neg h, if_neg (fun e => h e.symm), if_neg (fun e => h e.symm)]
  rw [e]
  rfl
theorem upd_new (w : World) (es : Array MapEntry) (c : Nat) (k v : Int) (h : ∀ x ∈ es.toList, ∃ j, x.key = .int .i64 j ∧ j ≠ k) (hs : es.size < maxLen) :
    (Instr.mapUpdate 120 (.map (some w.heap.size)) (.int .i64 k) (.int .i64 v)).run Try.prog (w.alloc (.map es c)) = .ok () (w.alloc (.map (es.push ⟨.int .i64 k, .int .i64 v, c⟩) (c + 1))) := by
  have hb : (w.alloc (.map es c)).heap[w.heap.size]? = some (.map es c) := blk_new _ _
  have hk : MapKept.IsKey (.int .i64) (.int .i64 k) := rfl
  have hks : ∀ x ∈ es.toList, MapKept.IsKey (.int .i64) x.key := fun x hx => by
    obtain ⟨k', e, _⟩ := h x hx
    rw [e]
    rfl
  rcases MapKept.findNow_spec hk es.toList 0 hks with ⟨f1, _⟩ | ⟨j, e0, _, f2, f3⟩
  · refine Eq.trans ?_ (congrArg (Result.ok ()) (set_alloc w (.map es c) _))
    simp [Instr.mapUpdate, run_underlying Try.underlying120, MapKept.run_getObj_map hb, MapKept.run_checkKey Try.underlying3 hk, MapKept.run_findKey Try.underlying3 f1, MapKept.run_setObj_map _ hb, Result.andThen]
  · obtain ⟨k', e, hn⟩ := h e0 (List.mem_of_getElem? f2)
    exact absurd (Value.int.inj (f3.symm.trans e)).2.symm hn
def layM : Array MapEntry := #[⟨.int .i64 1, .int .i64 1, 0⟩, ⟨.int .i64 2, .int .i64 1, 1⟩, ⟨.int .i64 3, .int .i64 2, 2⟩, ⟨.int .i64 4, .int .i64 3, 3⟩]
theorem look_lay (w : World) (op : Int) : (Instr.lookup 120 (.map (some w.heap.size)) (.int .i64 op) false).run Try.prog (w.alloc (.map layM 4)) = .ok (.int .i64 (lyr op)) (w.alloc (.map layM 4)) := by
  have hM : MapV (w.alloc (.map layM 4)) w.heap.size 4 (fun k => if k = 1 ∨ k = 2 then some (.int .i64 1) else if k = 3 then some (.int .i64 2) else if k = 4 then some (.int .i64 3) else none) := by
    refine ⟨layM, 4, blk_new _ _, rfl, ⟨by decide, by decide, ?_⟩, ?_, ?_⟩
    · simp [layM]
    · intro x hx
      simp only [layM, List.mem_cons, List.not_mem_nil, or_false] at hx
      rcases hx with rfl | rfl | rfl | rfl
      · exact ⟨1, rfl, rfl⟩
      · exact ⟨2, rfl, rfl⟩
      · exact ⟨3, rfl, rfl⟩
      · exact ⟨4, rfl, rfl⟩
    · intro k v hf
      by_cases h1 : k = 1
      · subst h1
        cases hf
        exact ⟨⟨.int .i64 1, .int .i64 1, 0⟩, by simp [layM], rfl, rfl⟩
      · by_cases h2 : k = 2
        · subst h2
          cases hf
          exact ⟨⟨.int .i64 2, .int .i64 1, 1⟩, by simp [layM], rfl, rfl⟩
        · by_cases h3 : k = 3
          · subst h3
            cases hf
            exact ⟨⟨.int .i64 3, .int .i64 2, 2⟩, by simp [layM], rfl, rfl⟩
          · by_cases h4 : k = 4
            · subst h4
              cases hf
              exact ⟨⟨.int .i64 4, .int .i64 3, 3⟩, by simp [layM], rfl, rfl⟩
            · simp [h1, h2, h3, h4] at hf
  rw [hM.look Try.underlying120 Try.underlying3 Try.zeroValue3 op]
  unfold lyr
  congr 1
  split
  · rfl
  · split
    · rfl
    · split <;> rfl
set_option maxHeartbeats 4000000 in
set_option maxRecDepth 100000 in
theorem layer_calls (op : Int) (w : World) : Calls Try.prog 36 #[.int .i64 op] w fun e w' => e = .returned (.int .i64 (lyr op)) ∧ Gr w w' := by
  have mixed := mixedT
  have hmm := @run_makeMap Try.prog
  have u1 := upd_new w #[] 0 1 1 (by simp) (by decide)
  have u2 := upd_new w #[⟨.int .i64 1, .int .i64 1, 0⟩] 1 2 1 (by simp) (by decide)
  have u3 := upd_new w #[⟨.int .i64 1, .int .i64 1, 0⟩, ⟨.int .i64 2, .int .i64 1, 1⟩] 2 3 2 (by simp) (by decide)
  have u4 := upd_new w #[⟨.int .i64 1, .int .i64 1, 0⟩, ⟨.int .i64 2, .int .i64 1, 1⟩, ⟨.int .i64 3, .int .i64 2, 2⟩] 3 4 3 (by simp) (by decide)
  have lk := look_lay w op
  simp only [List.push_toArray, List.cons_append, List.nil_append, Nat.zero_add, Nat.reduceAdd, layM] at u1 u2 u3 u4 lk
  go_enter Try.func36, Try.ntmps36
  go_wp2
  go_ret
  exact ⟨rfl, (Gr.refl _).alloc _⟩
theorem isNaN_calls (x : Int) (w : World) : Calls Try.prog 58 #[.int .i64 x] w fun e w' => e = .returned (.bool false) ∧ w' = w := by
  go_enter Try.func58, Try.ntmps58
  go_wp2
  go_ret
  exact ⟨by simp, rfl⟩
def cmp3 (x y : Int) : Int := if x < y then -1 else if y < x then 1 else 0
theorem compare_calls (x y : Int) (w : World) : Calls Try.prog 35 #[.int .i64 x, .int .i64 y] w fun e w' => e = .returned (.int .i64 (cmp3 x y)) ∧ w' = w := by
  by_cases h1 : x < y
  · have e : cmp3 x y = -1 := if_pos h1
    rw [e]
    go_enter Try.func35, Try.ntmps35
    go_wp2_with (first | (go_at_call 58; refine (isNaN_calls _ _).mono ?_; rintro e w' ⟨rfl, rfl⟩))
    go_ret
    exact ⟨rfl, rfl⟩
  · by_cases h2 : y < x
    · have e : cmp3 x y = 1 := by rw [cmp3, if_neg h1, if_pos h2]
      rw [e]
      go_enter Try.func35, Try.ntmps35
      go_wp2_with (first | (go_at_call 58; refine (isNaN_calls _ _).mono ?_; rintro e w' ⟨rfl, rfl⟩))
      go_ret
      exact ⟨rfl, rfl⟩
    · have e : cmp3 x y = 0 := by rw [cmp3, if_neg h1, if_neg h2]
      rw [e]
      go_enter Try.func35, Try.ntmps35
      go_wp2_with (first | (go_at_call 58; refine (isNaN_calls _ _).mono ?_; rintro e w' ⟨rfl, rfl⟩))
      go_ret
      exact ⟨rfl, rfl⟩
end Go.Proofs.Yticgadnmlbfmfaa.cachePlays
/-
  Chapter 25: the order of effects, walked.
-/
namespace Go.Proofs.Yticgadnmlbfmfaa.cachePlays
open Go.Shelf Go.RowKit Go.Lib Go.Sort
set_option maxHeartbeats 4000000 in
set_option maxRecDepth 100000 in
theorem or2_calls (x y : Int) (b : Nat) (w : World) (hx : w.cell? ⟨b, 0, none⟩ = some (.int .i64 x)) (hy : w.cell? ⟨b, 1, none⟩ = some (.int .i64 y)) : Calls Try.prog 34 #[.slice (some ⟨b, 0, none⟩) 2 2] w fun e w' => e = .returned (.int .i64 (if x = 0 then y else x)) ∧ w' = w := by
  have mixed := mixedT
  generalize hr : (if x = 0 then y else x) = r
  have HR : Hid _ := hr
  clear hr
  go_enter Try.func34, Try.ntmps34
  go_wp2
  go_loopg [8] 2 (fun kx s8 wr => ((s8 = .int .i64 0 ∧ kx = 2) ∨ (s8 = .int .i64 1 ∧ x = 0 ∧ kx = 1) ∨ (s8 = .int .i64 2 ∧ x = 0 ∧ y = 0 ∧ kx = 0)) ∧ wr = w)
  case atStart => exact ⟨.inl ⟨rfl, rfl⟩, rfl⟩
  case round =>
    obtain ⟨⟨rfl, rfl⟩ | ⟨rfl, h0, rfl⟩ | ⟨rfl, h0, h1, rfl⟩, rfl⟩ := hrel
    · by_cases h : x = 0
      · have tt : (x != 0) = false := by simp [h]
        go_wp2
        go_roundg 1
        case measure => omega
        case rel => exact ⟨.inr (.inl ⟨rfl, h, rfl⟩), rfl⟩
      · have tt : (x != 0) = true := by simp [h]
        go_wp2
        go_returns
        refine ⟨?_, rfl⟩
        rw [← HR.out, if_neg h]
        rfl
    · by_cases h : y = 0
      · have tt : (y != 0) = false := by simp [h]
        go_wp2
        go_roundg 0
        case measure => omega
        case rel => exact ⟨.inr (.inr ⟨rfl, h0, h, rfl⟩), rfl⟩
      · have tt : (y != 0) = true := by simp [h]
        go_wp2
        go_returns
        refine ⟨?_, rfl⟩
        rw [← HR.out, if_pos h0]
        rfl
    · go_wp2
      go_returns
      refine ⟨?_, rfl⟩
      rw [← HR.out, if_pos h0, h1]
      rfl
/-- The order of effects, as Compare tells it. -/
def cmpC (x y : Ef) : Int := if cmp3 (lyr x.1) (lyr y.1) = 0 then cmp3 x.2.2.2 y.2.2.2 else cmp3 (lyr x.1) (lyr y.1)
/-- Two boxes lie there. -/
structure Bb (w : World) (b c : Nat) (A B : List Value) (t : Nat) (W : World) : Prop where
  g : Gr w W
  a : W.heap[b]? = some (.cells A.toArray t)
  b : W.heap[c]? = some (.cells B.toArray t)
theorem Bb.gr {w : World} {b c : Nat} {A B : List Value} {t : Nat} {W W' : World} (h : Bb w b c A B t W) (g : Gr W W') : Bb w b c A B t W' := ⟨Gr.trans h.g g, blk_gr h.a g, blk_gr h.b g⟩
theorem Bb.new (w : World) (A B : List Value) (t : Nat) : Bb w w.heap.size (w.heap.size + 1) A B t ((w.alloc (.cells A.toArray t)).alloc (.cells B.toArray t)) := by
  obtain ⟨g, a, b⟩ := two_boxes w A B t t
  exact ⟨g, a, b⟩
set_option maxHeartbeats 8000000 in
set_option maxRecDepth 100000 in
theorem cmpC_calls (x y : Ef) (w : World) : Calls Try.prog 33 #[.agg (encE x).toArray, .agg (encE y).toArray] w fun e w' => e = .returned (.int .i64 (cmpC x y)) ∧ Gr w w' := by
  have mixed := mixedT
  obtain ⟨o1, a1, b1, s1⟩ := x
  obtain ⟨o2, a2, b2, s2⟩ := y
  show Calls Try.prog 33 #[.agg #[.int .i64 o1, .int .i64 a1, .int .i64 b1, .int .i64 s1], .agg #[.int .i64 o2, .int .i64 a2, .int .i64 b2, .int .i64 s2]] w _
  have h1 := fun W => layer_calls o1 W
  have h2 := fun W => layer_calls o2 W
  unfold cmpC
  simp only []
  generalize lyr o1 = l1 at h1 ⊢
  generalize lyr o2 = l2 at h2 ⊢
  have h3 := fun W => compare_calls l1 l2 W
  have h4 := fun W => compare_calls s1 s2 W
  generalize cmp3 l1 l2 = c1 at h3 ⊢
  generalize cmp3 s1 s2 = c2 at h4 ⊢
  have h5 := fun b W hx hy => or2_calls c1 c2 b W hx hy
  generalize (if c1 = 0 then c2 else c1) = r at h5 ⊢
  have H1 : Aside _ := h1
  have H2 : Aside _ := h2
  have H3 : Aside _ := h3
  have H4 : Aside _ := h4
  have H5 : Aside _ := h5
  have O1 := Bb.new w (encE (o1, a1, b1, s1)) (encE (o2, a2, b2, s2)) 49
  simp only [encE] at O1
  clear h1 h2 h3 h4 h5
  go_enter Try.func33, Try.ntmps33
  go_upto_region 1 with fail
  generalize (w.alloc (.cells #[.int .i64 o1, .int .i64 a1, .int .i64 b1, .int .i64 s1] 49)).alloc (.cells #[.int .i64 o2, .int .i64 a2, .int .i64 b2, .int .i64 s2] 49) = W0 at O1 ⊢
  have O2 := O1.gr ((Gr.refl _).drew)
  clear O1
  refine wp_region_held_drew (S := Bb w w.heap.size (w.heap.size + 1) [.int .i64 o1, .int .i64 a1, .int .i64 b1, .int .i64 s1] [.int .i64 o2, .int .i64 a2, .int .i64 b2, .int .i64 s2] 49) mixed O2 (fun hHeld => ?_)
  refine wpAnyH_take (i := 0) (v := .pointer (some ⟨w.heap.size, 0, none⟩)) rfl (by kernel_rfl) (by kernel_rfl) (by kernel_rfl) (fun _ _ _ h => h) (Or.inl ⟨by rfl, ?_⟩) hHeld ?_
  · intro W hW
    clear hW hHeld O2
    go_simp
  simp only [Act.put, List.getElem_toArray, List.getElem_cons_zero, List.setIfInBounds_toArray, List.set_cons_zero, List.set_cons_succ]
  refine wpAnyH_take (i := 1) (v := .int .i64 o1) rfl (by kernel_rfl) (by kernel_rfl) (by kernel_rfl) (fun _ _ _ h => h) (Or.inl ⟨by rfl, ?_⟩) hHeld ?_
  · intro W hW
    have c0 := hold_cell (blk_hold hW.a) (j := 0) (v := .int .i64 o1) rfl
    clear hW hHeld O2
    go_simp
  simp only [Act.put, List.getElem_toArray, List.getElem_cons_zero, List.getElem_cons_succ, List.setIfInBounds_toArray, List.set_cons_zero, List.set_cons_succ]
  refine wpAnyH_take (i := 3) (v := .pointer (some ⟨w.heap.size + 1, 0, none⟩)) rfl (by kernel_rfl) (by kernel_rfl) (by kernel_rfl) (fun _ _ _ h => h) (Or.inl ⟨by rfl, ?_⟩) hHeld ?_
  · intro W hW
    clear hW hHeld O2
    go_simp
  simp only [Act.put, List.getElem_toArray, List.getElem_cons_zero, List.getElem_cons_succ, List.setIfInBounds_toArray, List.set_cons_zero, List.set_cons_succ]
  refine wpAnyH_take (i := 4) (v := .int .i64 o2) rfl (by kernel_rfl) (by kernel_rfl) (by kernel_rfl) (fun _ _ _ h => h) (Or.inl ⟨by rfl, ?_⟩) hHeld ?_
  · intro W hW
    have c0 := hold_cell (blk_hold hW.b) (j := 0) (v := .int .i64 o2) rfl
    clear hW hHeld O2
    go_simp
  simp only [Act.put, List.getElem_toArray, List.getElem_cons_zero, List.getElem_cons_succ, List.setIfInBounds_toArray, List.set_cons_zero, List.set_cons_succ]
  refine wpAnyH_take (i := 7) (v := .pointer (some ⟨w.heap.size, 3, none⟩)) rfl (by kernel_rfl) (by kernel_rfl) (by kernel_rfl) (fun _ _ _ h => h) (Or.inl ⟨by rfl, ?_⟩) hHeld ?_
  · intro W hW
    clear hW hHeld O2
    go_simp
  simp only [Act.put, List.getElem_toArray, List.getElem_cons_zero, List.getElem_cons_succ, List.setIfInBounds_toArray, List.set_cons_zero, List.set_cons_succ]
  refine wpAnyH_take (i := 8) (v := .int .i64 s1) rfl (by kernel_rfl) (by kernel_rfl) (by kernel_rfl) (fun _ _ _ h => h) (Or.inl ⟨by rfl, ?_⟩) hHeld ?_
  · intro W hW
    have c0 := hold_cell (blk_hold hW.a) (j := 3) (v := .int .i64 s1) rfl
    clear hW hHeld O2
    go_simp
  simp only [Act.put, List.getElem_toArray, List.getElem_cons_zero, List.getElem_cons_succ, List.setIfInBounds_toArray, List.set_cons_zero, List.set_cons_succ]
  refine wpAnyH_take (i := 9) (v := .pointer (some ⟨w.heap.size + 1, 3, none⟩)) rfl (by kernel_rfl) (by kernel_rfl) (by kernel_rfl) (fun _ _ _ h => h) (Or.inl ⟨by rfl, ?_⟩) hHeld ?_
  · intro W hW
    clear hW hHeld O2
    go_simp
  simp only [Act.put, List.getElem_toArray, List.getElem_cons_zero, List.getElem_cons_succ, List.setIfInBounds_toArray, List.set_cons_zero, List.set_cons_succ]
  refine wpAnyH_take (i := 10) (v := .int .i64 s2) rfl (by kernel_rfl) (by kernel_rfl) (by kernel_rfl) (fun _ _ _ h => h) (Or.inl ⟨by rfl, ?_⟩) hHeld ?_
  · intro W hW
    have c0 := hold_cell (blk_hold hW.b) (j := 3) (v := .int .i64 s2) rfl
    clear hW hHeld O2
    go_simp
  simp only [Act.put, List.getElem_toArray, List.getElem_cons_zero, List.getElem_cons_succ, List.setIfInBounds_toArray, List.set_cons_zero, List.set_cons_succ]
  refine wpAnyH_ready (rs := [2]) (by kernel_rfl) (by simp) ?_
  refine AllReadyH.cons rfl (fun K hK => ?_) AllReadyH.nil
  go_simp
  refine (H1.out _).mono ?_
  rintro e w2 ⟨rfl, hG⟩
  have O2 := hHeld.gr hG
  refine hK.out _ _ O2 (fun hHeld => ?_)
  clear hK K
  refine wpAnyH_ready (rs := [5]) (by kernel_rfl) (by simp) ?_
  refine AllReadyH.cons rfl (fun K hK => ?_) AllReadyH.nil
  go_simp
  refine (H2.out _).mono ?_
  rintro e w2 ⟨rfl, hG⟩
  have O2 := hHeld.gr hG
  refine hK.out _ _ O2 (fun hHeld => ?_)
  clear hK K
  refine wpAnyH_ready (rs := [6]) (by kernel_rfl) (by simp) ?_
  refine AllReadyH.cons rfl (fun K hK => ?_) AllReadyH.nil
  go_simp
  refine (H3.out _).mono ?_
  rintro e w2 ⟨rfl, hw⟩
  obtain rfl := hw.symm
  have O2 := hHeld
  refine hK.out _ _ O2 (fun hHeld => ?_)
  clear hK K
  refine wpAnyH_ready (rs := [11]) (by kernel_rfl) (by simp) ?_
  refine AllReadyH.cons rfl (fun K hK => ?_) AllReadyH.nil
  go_simp
  refine (H4.out _).mono ?_
  rintro e w2 ⟨rfl, hw⟩
  obtain rfl := hw.symm
  have O2 := hHeld
  refine hK.out _ _ O2 (fun hHeld => ?_)
  clear hK K
  refine wpAnyH_ready (rs := [12]) (by kernel_rfl) (by simp) ?_
  refine AllReadyH.cons rfl (fun K hK => ?_) AllReadyH.nil
  go_simp
  refine hK.out _ _ (hHeld.gr ((Gr.refl _).alloc _)) (fun hHeld => ?_)
  clear hK K
  refine wpAnyH_ready (rs := [13]) (by kernel_rfl) (by simp) ?_
  refine AllReadyH.cons rfl (fun K hK => ?_) AllReadyH.nil
  go_simp
  refine (H5.out _ _ (by simp) (by simp)).mono ?_
  rintro e w3 ⟨rfl, hw⟩
  obtain rfl := hw.symm
  refine hK.out _ _ hHeld (fun hHeld => ?_)
  clear hK K
  refine wpAnyH_ready (rs := [14]) (by kernel_rfl) (by simp) ?_
  refine AllReadyH.cons rfl (fun K hK => ?_) AllReadyH.nil
  go_simp
  refine hK.out _ _ hHeld (fun hHeld => ?_)
  clear hK K
  refine wpAnyH_done (by kernel_rfl) ?_ _
  have HG : Aside _ := hHeld.g
  clear O2 hHeld
  go_wp2
  go_returns
  exact ⟨rfl, HG.out⟩
theorem cmp3_lt (x y : Int) : cmp3 x y < 0 ↔ x < y := by
  unfold cmp3
  split
  · simp [*]
  · split <;> omega
theorem cmp3_eq (x y : Int) : cmp3 x y = 0 ↔ x = y := by
  unfold cmp3
  split
  · omega
  · split <;> omega
theorem ltC (x y : Ef) : ltOf cmpC x y = true ↔ (lyr x.1 < lyr y.1 ∨ lyr x.1 = lyr y.1 ∧ x.2.2.2 < y.2.2.2) := by
  unfold ltOf cmpC
  rw [decide_eq_true_iff]
  split
  · rename_i h
    rw [cmp3_eq] at h
    rw [cmp3_lt]
    omega
  · rename_i h
    rw [cmp3_eq] at h
    rw [cmp3_lt]
    omega
theorem ltC_f (x y : Ef) : ltOf cmpC x y = false ↔ ¬ (lyr x.1 < lyr y.1 ∨ lyr x.1 = lyr y.1 ∧ x.2.2.2 < y.2.2.2) := by
  rw [← ltC, Bool.not_eq_true]

end Go.Proofs.Yticgadnmlbfmfaa.cachePlays
