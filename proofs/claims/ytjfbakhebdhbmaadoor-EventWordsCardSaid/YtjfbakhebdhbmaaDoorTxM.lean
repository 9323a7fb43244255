/-
  'EventWords' over known calls.
-/
import Derived.Test.YtjfbakhebdhbmaaDoorTxP
import Derived.Test.YtjfbakhebdhbmaaDoorTxN
import Derived.Test.YtjfbakhebdhbmaaDoorTxY
namespace Go.Proofs.YtjfbakhebdhbmaaDoor.event
open Go.Ev Go.RowKit Go.Lib
set_option linter.unusedVariables false
noncomputable section
theorem fact_slenB {ρ : Rho} {a b : Nat} {s : ByteArray} (h1 : ρ.val a = .string s) (h2 : ρ.int b = s.size) : FactOK ρ (.len true (.sym a) (si b)) :=
  ⟨.string s, s.size, by simp only [sval, h1], ⟨_, rfl, rfl⟩, by simp only [sval, si, h2]⟩
theorem fact_sidx {ρ : Rho} {a b c : Nat} {s : ByteArray} {i : Nat} (h1 : ρ.val a = .string s) (h2 : ρ.int b = i) (hi : i < s.data.toList.length) (h3 : ρ.int c = ((s.data.toList.getD i 0).toNat : Int)) : FactOK ρ (.fn .sidx [.sym a, si b] (.sint .u8 c)) := by
  refine ⟨[.string s, .int .i64 i], .int .u8 ((s.data.toList.getD i 0).toNat : Int), by simp only [svals, sval, si, h1, h2], by simp only [sval, h3], by omega, s.data.toList.getD i 0, ?_, rfl⟩
  rw [Int.toNat_natCast]
  exact at_of hi
theorem fact_sub {ρ : Rho} {i j : Nat} {z : Int} (h : ρ.int j = ρ.int i - z) (h1 : -9223372036854775808 ≤ ρ.int j) (h2 : ρ.int j ≤ 9223372036854775807) : FactOK ρ (.bin .sub (.sint .i64 i) (.int .i64 z) (.sint .i64 j)) := by
  refine ⟨_, _, _, rfl, rfl, rfl, by simp, by simp, fun P t w => ?_⟩
  have e : IntKind.i64.wrap (ρ.int i - z) = ρ.int j := by
    rw [← h]
    exact wrap_in (by simpa [IntKind.min, IntKind.signed, IntKind.bits] using h1) (by simpa [IntKind.max, IntKind.signed, IntKind.bits] using h2)
  simp [binOp, Op.intArith, e]
theorem str_eq (s t : ByteArray) : (s.toList == t.toList) = decide (s = t) := by
  rw [ByteArray.toList_eq, ByteArray.toList_eq]
  by_cases e : s = t
  · rw [e]; simp
  · rw [decide_eq_false e]
    refine beq_eq_false_iff_ne.2 fun k => e ?_
    have : s.data.toList = t.data.toList := k
    cases s; cases t
    simp only [Array.toList_inj] at this
    rw [this]
theorem fact_eql {ρ : Rho} {x y : VV} {s t : ByteArray} {b : Bool} (hx : sval ρ x = some (.string s)) (hy : sval ρ y = some (.string t)) (hb : b = decide (s = t)) : FactOK ρ (.bin .eql x y (.bool b)) :=
  ⟨.string s, .string t, .bool b, hx, hy, rfl, (fun cs h => by cases h), (fun h => by cases h), fun P ty w => by
    simp only [binOp, Op.stringOp, str_eq, hb]
    rfl⟩
theorem fact_neq {ρ : Rho} {x y : VV} {s t : ByteArray} {b : Bool} (hx : sval ρ x = some (.string s)) (hy : sval ρ y = some (.string t)) (hb : b = !decide (s = t)) : FactOK ρ (.bin .neq x y (.bool b)) :=
  ⟨.string s, .string t, .bool b, hx, hy, rfl, (fun cs h => by cases h), (fun h => by cases h), fun P ty w => by
    simp only [binOp, Op.stringOp, str_eq, hb]
    rfl⟩
/-! ### the letters ahead, told by the statement's own function -/
def byteI (s : ByteArray) (i : Nat) : Int := ((s.data.toList.getD i 0).toNat : Int)
theorem byteI_in (s : ByteArray) (i : Nat) : 0 ≤ byteI s i ∧ byteI s i ≤ 255 := by
  unfold byteI
  have := UInt8.toNat_lt (s.data.toList.getD i 0)
  omega
def oint (s : ByteArray) (i : Nat) : Nat → Int
  | 1 => (s.size : Int)
  | 2 => (i : Int)
  | 3 => (i : Int) + 1
  | 4 => byteI s i
  | _ => 0
def ovv (s : ByteArray) (i : Nat) : Nat → Value
  | 0 => .string s
  | 5 => .string (s.extract 0 i)
  | _ => .bool false
theorem ovv_one {s : ByteArray} {i : Nat} (j : Nat) : (ovv s i j).oneCell' = true := by
  unfold ovv
  split <;> rfl
def orho (s : ByteArray) (i : Nat) : Rho := ⟨oint s i, ovv s i, fun _ => 0, fun _ => 0, ovv_one, fun _ => [], fun _ _ h => by cases h⟩
section
variable {s : ByteArray} {i : Nat} {w : World}
theorem o_fits (hs : s.size ≤ 100000) (hi : i ≤ s.size) : ∀ k, I64 (oint s i k) := fun k => by
  have := byteI_in s i
  unfold oint
  split
  · exact ⟨by omega, by omega⟩
  · exact ⟨by omega, by omega⟩
  · exact ⟨by omega, by omega⟩
  · exact ⟨by omega, by omega⟩
  · exact i64_0
theorem o_iv (hs : s.size ≤ 100000) (hi : i ≤ s.size) : IvOK woiv0 (orho s i) := by
  have f := o_fits hs hi
  exact iv_all (f := oint s i) ⟨f 0, ⟨by show (0 : Int) ≤ (s.size : Int); omega, by show (s.size : Int) ≤ 100000; omega⟩, ⟨by show (0 : Int) ≤ (i : Int); omega, by show (i : Int) ≤ 100000; omega⟩, ⟨by show (0 : Int) ≤ (i : Int) + 1; omega, by show (i : Int) + 1 ≤ 100001; omega⟩, byteI_in s i, trivial⟩ f
theorem o_cut (hi : i ≤ s.size) : FactOK (orho s i) (.fn .cutS [.sym 0, .int .i64 0, si 2] (.sym 5)) :=
  ⟨[.string s, .int .i64 0, .int .i64 i], .string (s.extract 0 i), rfl, rfl, by decide, by omega, by omega, by rw [Int.toNat_natCast]; rfl⟩
theorem o_ok (hs : s.size ≤ 100000) (hi : i ≤ s.size) {iv : Ivs} {fs : List Fact} (h1 : IvOK iv (orho s i)) (h2 : FsOK fs (orho s i)) (φ : Phi) (hφ : φ.ρ = orho s i) : EnvP (Wo iv fs) φ w := by
  have hl : FsOK woF (orho s i) := fs_cons (fact_slenB rfl rfl) fs_nil
  unfold Wo
  split
  · rename_i ha
    have hlt : (i : Int) < (s.size : Int) := lss_has w ha h2
    refine ⟨by rw [hφ]; exact h1, by
      rw [hφ]
      exact fs_app h2 (fs_app hl (fs_cons (fact_sidx (s := s) (i := i) rfl rfl (by show i < s.size; omega) rfl) (fs_cons (fact_add rfl (show -9223372036854775808 ≤ (i : Int) + 1 by omega) (show (i : Int) + 1 ≤ 9223372036854775807 by omega)) (fs_cons (o_cut hi) fs_nil)))), fun k cs h => by cases h⟩
  · exact ⟨by rw [hφ]; exact h1, by rw [hφ]; exact fs_app h2 (fs_app hl (fs_cons (o_cut hi) fs_nil)), fun k cs h => by cases h⟩
theorem isLet_iff {c : UInt8} : isLet c = true ↔ 97 ≤ c.toNat ∧ c.toNat ≤ 122 := by
  unfold isLet
  split
  · rename_i h
    have h := Nat.le_of_ble_eq_true h
    exact ⟨fun k => ⟨h, Nat.le_of_ble_eq_true k⟩, fun k => Nat.ble_eq_true_of_le k.2⟩
  · rename_i h
    constructor
    · intro k; cases k
    · intro k
      rw [Nat.ble_eq_true_of_le k.1] at h
      cases h
/-- So many letters stand at an index. -/
def letN (l : List UInt8) : Nat := (wl l).length
theorem wl_take : ∀ (l : List UInt8), wl l = l.take (letN l)
  | [] => rfl
  | c :: l => by
    unfold letN
    simp only [wl]
    split
    · rw [List.length_cons, List.take_succ_cons]
      exact congrArg (c :: ·) (wl_take l)
    · rfl
theorem o_run (hs : s.size ≤ 100000) : ∀ (m i : Nat), i + m = s.size → ∃ k, @Runs (extKA Tryd.prog woKT woK2) woC w (.string (s.extract 0 (i + letN (s.data.toList.drop i)))) k 1 (orho s i) := by
  letI : Ext := extKA Tryd.prog woKT woK2
  have ok : ∀ i, i ≤ s.size → woc1.OK w (orho s i) := fun i hi => CutP.ok_of ⟨(fun e he => by cases he), fun e he => by cases he⟩ (o_iv hs hi) fun iv fs => o_ok hs hi
  have out : ∀ i, letN (s.data.toList.drop i) = 0 → sval (orho s i) (.sym 5) = some (.string (s.extract 0 (i + letN (s.data.toList.drop i)))) := fun i hz => by
    rw [hz]
    rfl
  intro m
  induction m with
  | zero =>
    intro i hi
    refine run_ret (c := woc1) (r := .sym 5) rfl (ok i (by omega)) ?_ (out i ?_)
    · show valX wot1 _ = _
      simp only [wot1, valX]
      rw [if_neg (show ¬ (orho s i).int 2 < (orho s i).int 1 by show ¬ (i : Int) < (s.size : Int); omega)]
    · rw [List.drop_eq_nil_of_le (show s.size ≤ i by omega)]
      rfl
  | succ m ih =>
    intro i hi
    have hlt : i < s.data.toList.length := by show i < s.size; omega
    have hd : s.data.toList.drop i = s.data.toList.getD i 0 :: s.data.toList.drop (i + 1) := by
      rw [List.drop_eq_getElem_cons hlt]
      congr 1
      simp [List.getD_eq_getElem?_getD, List.getElem?_eq_getElem hlt]
    have hv : valX woc1.tr (orho s i).int = if isLet (s.data.toList.getD i 0) = true then .goto 1 [.sint .i64 3] else .ret (.sym 5) := by
      show valX wot1 _ = _
      simp only [wot1, valX]
      rw [if_pos (show (orho s i).int 2 < (orho s i).int 1 by show (i : Int) < (s.size : Int); omega)]
      have e4 : (orho s i).int 4 = ((s.data.toList.getD i 0).toNat : Int) := rfl
      rw [e4]
      by_cases hL : isLet (s.data.toList.getD i 0) = true
      · obtain ⟨a, b⟩ := isLet_iff.1 hL
        rw [if_pos hL, if_neg (by omega), if_pos (by omega)]
      · have n : ¬ (97 ≤ (s.data.toList.getD i 0).toNat ∧ (s.data.toList.getD i 0).toNat ≤ 122) := fun k => hL (isLet_iff.2 k)
        rw [if_neg hL]
        by_cases a : ((s.data.toList.getD i 0).toNat : Int) ≤ 96
        · rw [if_pos a]
        · rw [if_neg a, if_neg (by omega)]
    by_cases hL : isLet (s.data.toList.getD i 0) = true
    · rw [if_pos hL] at hv
      have e : i + letN (s.data.toList.drop i) = (i + 1) + letN (s.data.toList.drop (i + 1)) := by
        rw [hd]
        unfold letN
        simp only [wl]
        rw [hL]
        simp only [List.length_cons]
        omega
      rw [e]
      exact run_step (c := woc1) (d := woc1) rfl (ok i (by omega)) (q := 1) (xs := [.sint .i64 3]) hv rfl (fun k hk => by
        match k, hk with
        | 0, _ => exact ⟨rfl, rfl, rfl, rfl, rfl⟩
        | 1, _ => exact ⟨rfl, rfl, rfl, rfl, rfl⟩) ⟨⟨.int .i64 ((i : Int) + 1), rfl, rfl⟩, trivial⟩ (ih (i + 1) (by omega))
    · rw [if_neg hL] at hv
      refine run_ret (c := woc1) (r := .sym 5) rfl (ok i (by omega)) hv (out i ?_)
      rw [hd]
      unfold letN
      simp only [wl]
      split
      · rename_i k; exact absurd k hL
      · rfl
theorem wordC (hs : s.size ≤ 100000) : Calls Tryd.prog 15 #[.string s] w fun e w' => e = .returned (.string (bstr (wl s.data.toList))) ∧ Below w.heap.size w w' := by
  letI : Ext := extKA Tryd.prog woKT woK2
  obtain ⟨k, hk⟩ := run_step (C := woC) (w0 := w) (p := 0) (ρ := orho s 0) (c := woc0) (d := woc1) rfl (CutP.ok_of ⟨(fun e he => by cases he), fun e he => by cases he⟩ (o_iv hs (Nat.zero_le _)) fun iv fs => o_ok hs (Nat.zero_le _)) (q := 1) (xs := [.int .i64 0]) rfl rfl (fun k hk => by
        match k, hk with
        | 0, _ => exact ⟨rfl, rfl, rfl, rfl, rfl⟩
        | 1, _ => exact ⟨rfl, rfl, rfl, rfl, rfl⟩) ⟨⟨.int .i64 0, rfl, rfl⟩, trivial⟩ (o_run (w := w) hs s.size 0 (by omega))
  have e : s.extract 0 (0 + letN (s.data.toList.drop 0)) = bstr (wl s.data.toList) := by
    rw [List.drop_zero, wl_take s.data.toList, Nat.zero_add]
    show _ = (⟨⟨_⟩⟩ : ByteArray)
    cases s with
    | mk d =>
      have : (ByteArray.extract ⟨d⟩ 0 (letN d.toList)).data = ⟨d.toList.take (letN d.toList)⟩ := by
        rw [ByteArray.data_extract]
        apply Array.ext'
        simp [Array.toList_extract, List.extract]
      cases h : ByteArray.extract ⟨d⟩ 0 (letN d.toList) with
      | mk x => rw [h] at this; exact congrArg ByteArray.mk this
  rw [e] at hk
  exact auto_callsP woauto Tryd.func15 (by kernel_rfl) (args := [.sym 0]) (by kernel_rfl) (c := woc0) rfl rfl rfl rfl rfl (fun r b h => by cases h) (by simp only [VRs, VR]; exact ⟨_, _, rfl, rfl, rfl⟩) hk
end
end
end Go.Proofs.YtjfbakhebdhbmaaDoor.event
