/-
  'CardChecks': of any card (bounded: six abilities at most, of four targets and forty instructions at most, the name's first twenty bytes), of any number of cards, the program's check and the document's come to the same. No condition.
-/
import Derived.Test.YtgbpkilegbechaaCdW
import Derived.Test.YtgbpkilegbechaaCdY
import Derived.WalkKit
import Derived.ProofKit
import Derived.OpenShut
import Derived.Deep.Slices
namespace Go.Proofs.Ytgbpkilegbechaa.cards
open Go.Ev Go.RowKit Go.ChangeShapes Go.WideShapes Go.ChangeAt
set_option linter.unusedVariables false
noncomputable section
theorem own : ownKnob Try.prog.godebug = none := by kernel_rfl
namespace rows
instance said : Ext := ⟨fun _ _ => True⟩
theorem ran : runV Try.prog 20000 10 = true := by kernel_rfl
theorem works (w : World) : Calls Try.prog 10 #[] w fun e w' => e = .returned (.bool true) ∧ Below w.heap.size w w' := runV_calls (noNG_of noNG) mixed ran w
end rows
def lawF : List Fact := [.len true (.sym 0) (si 10), .len false (.sym 1) (si 11), .fn .min [si 10, .int .i64 20] (si 12), .fn .cutS [.sym 0, .int .i64 0, si 12] (.sym 2)]
def abF (i : Nat) : List Fact := [.at 13 (.sym 1) (.int .i64 (i : Int)) ⟨.sym (100 + 10 * i), 0⟩, .len false (.sym (101 + 10 * i)) (si (200 + 20 * i)), .len false (.sym (102 + 10 * i)) (si (201 + 20 * i)),
  .fn .min [si (200 + 20 * i), .int .i64 4] (si (202 + 20 * i)), .fn .min [si (201 + 20 * i), .int .i64 40] (si (203 + 20 * i)), .cut 1 (.sym (101 + 10 * i)) none (some (si (202 + 20 * i))) (.sym (103 + 10 * i)), .cut 3 (.sym (102 + 10 * i)) none (some (si (203 + 20 * i))) (.sym (104 + 10 * i))]
def abC (i : Nat) : List VV := [si (204 + 20 * i), si (205 + 20 * i), si (206 + 20 * i), si (207 + 20 * i), si (208 + 20 * i), si (209 + 20 * i), si (210 + 20 * i), .sym (105 + 10 * i), .sym (101 + 10 * i), .sym (102 + 10 * i), si (211 + 20 * i), si (212 + 20 * i), si (213 + 20 * i)]
def abD (i : Nat) : List VV := [si (204 + 20 * i), si (205 + 20 * i), si (206 + 20 * i), si (207 + 20 * i), si (208 + 20 * i), si (209 + 20 * i), si (210 + 20 * i), .sym (105 + 10 * i), .sym (103 + 10 * i), .sym (104 + 10 * i), si (211 + 20 * i), si (212 + 20 * i), si (213 + 20 * i)]
def lawIv (lo hi : Int) (i : Nat) : Int × Int := match Nat.beq i 11, Nat.beq i 10, Nat.ble 200 i && Nat.blt (i % 20) 2 with
  | true, _, _ => (lo, hi)
  | _, true, _ => (0, 9223372036854775807)
  | _, _, true => (0, 9223372036854775807)
  | _, _, _ => (-9223372036854775808, 9223372036854775807)
def lawS (m : Nat) (i : Nat) : Option (List VV) := match Nat.ble 100 i && Nat.beq (i % 10) 0 && Nat.blt i (100 + 10 * m) with
  | true => some (abC ((i - 100) / 10))
  | false => none
def Elaw (m : Nat) (lo hi : Int) : Env := ⟨fun _ => none, lawIv lo hi, lawF ++ (upto m 0).flatMap abF, lawS m⟩
def slV : Nat → VV
  | 0 => .slice none 0 0
  | k + 1 => .slice (some ⟨.loc (5 + 3 * k), 0⟩) (k + 1) (k + 1)
def cardB (m : Nat) : VV := .agg [.sym 2, si 1, si 2, si 3, si 4, si 5, si 6, si 7, si 8, si 9, slV m]
def preB (m : Nat) : List (Nat × VO) := match m with
  | 0 => []
  | k + 1 => [(5 + 3 * k, .cells ((upto (k + 1) 0).flatMap abD) (some 13) 0 (some 41))]
def lawKT (m : Nat) : List KE := [⟨8, [cardB m, si 0], preB m, si 60⟩, ⟨9, [cardB m, si 0], preB m, si 60⟩, ⟨10, [], [], .bool true⟩]
def runLaw (m : Nat) (lo hi : Int) : Bool := trueB Try.prog (lawKT m) 20000 3 [cardV, si 0] (Elaw m lo hi)
theorem ran0 : runLaw 0 0 0 = true := by kernel_rfl
theorem ran1 : runLaw 1 1 1 = true := by kernel_rfl
theorem ran2 : runLaw 2 2 2 = true := by kernel_rfl
theorem ran3 : runLaw 3 3 3 = true := by kernel_rfl
theorem ran4 : runLaw 4 4 4 = true := by kernel_rfl
theorem ran5 : runLaw 5 5 5 = true := by kernel_rfl
theorem ran6 : runLaw 6 6 6 = true := by kernel_rfl
theorem ran7 : runLaw 6 7 9223372036854775807 = true := by kernel_rfl
theorem runs_of {n : Nat} (hn : (n : Int) ≤ 9223372036854775807) : ∃ lo hi : Int, runLaw (min n 6) lo hi = true ∧ lo ≤ n ∧ (n : Int) ≤ hi := by
  rcases (show n = 0 ∨ n = 1 ∨ n = 2 ∨ n = 3 ∨ n = 4 ∨ n = 5 ∨ n = 6 ∨ 7 ≤ n by omega) with h | h | h | h | h | h | h | h
  · exact ⟨0, 0, by rw [show min n 6 = 0 by omega]; exact ran0, by omega, by omega⟩
  · exact ⟨1, 1, by rw [show min n 6 = 1 by omega]; exact ran1, by omega, by omega⟩
  · exact ⟨2, 2, by rw [show min n 6 = 2 by omega]; exact ran2, by omega, by omega⟩
  · exact ⟨3, 3, by rw [show min n 6 = 3 by omega]; exact ran3, by omega, by omega⟩
  · exact ⟨4, 4, by rw [show min n 6 = 4 by omega]; exact ran4, by omega, by omega⟩
  · exact ⟨5, 5, by rw [show min n 6 = 5 by omega]; exact ran5, by omega, by omega⟩
  · exact ⟨6, 6, by rw [show min n 6 = 6 by omega]; exact ran6, by omega, by omega⟩
  · exact ⟨7, 9223372036854775807, by rw [show min n 6 = 6 by omega]; exact ran7, by omega, hn⟩
/-- An ability, bounded; a card, bounded. -/
def Ab.cut (x : Ab) : Ab := { x with tg := x.tg.take 4, code := x.code.take 40 }
def Cx.cut (D : Cx) : Cx := { D with name := D.name.extract 0 (min D.name.size 20), abs := (D.abs.take 6).map Ab.cut }
section
variable {D : Cx} {w : World} {n : Int}
def lint (D : Cx) (n : Int) (q r : Nat) : Int := match r with
  | 0 => (D.ab q).tg.length
  | 1 => (D.ab q).code.length
  | 2 => ((min (D.ab q).tg.length 4 : Nat) : Int)
  | 3 => ((min (D.ab q).code.length 40 : Nat) : Int)
  | 4 => (D.ab q).kind
  | 5 => (D.ab q).event
  | 6 => (D.ab q).who
  | 7 => (D.ab q).c0
  | 8 => (D.ab q).c1
  | 9 => (D.ab q).c2
  | 10 => (D.ab q).c3
  | 11 => (D.ab q).op
  | 12 => (D.ab q).a
  | 13 => (D.ab q).b
  | _ => 0
def llow (D : Cx) (n : Int) (i : Nat) : Int := if i = 60 then D.cut.spec n else if i = 12 then ((min D.name.size 20 : Nat) : Int) else if i ≤ 11 then D.v n 0 i else 0
def lv (D : Cx) (n : Int) (i : Nat) : Int := if 200 ≤ i then lint D n ((i - 200) / 20) ((i - 200) % 20) else llow D n i
def lvalR (D : Cx) (q r : Nat) : Value := match r with
  | 1 => .slice (D.ta q) (D.ab q).tg.length (D.tc q)
  | 2 => .slice (D.ca q) (D.ab q).code.length (D.cc q)
  | 3 => .slice (D.ta q) (min (D.ab q).tg.length 4) (D.tc q)
  | 4 => .slice (D.ca q) (min (D.ab q).code.length 40) (D.cc q)
  | 5 => .bool (D.ab q).tap
  | _ => .nilIface
def lvalL (D : Cx) (i : Nat) : Value := match i with
  | 0 => .string D.name
  | 1 => .slice D.oa D.abs.length D.cap
  | 2 => .string (D.name.extract 0 (min D.name.size 20))
  | _ => .nilIface
def lval (D : Cx) (i : Nat) : Value := if 100 ≤ i then lvalR D ((i - 100) / 10) ((i - 100) % 10) else lvalL D i
theorem lval_one (i : Nat) : (lval D i).oneCell' = true := by
  unfold lval
  split
  · unfold lvalR
    split <;> rfl
  · unfold lvalL
    split <;> rfl
def lrho (D : Cx) (n : Int) : Rho := ⟨lv D n, lval D, fun _ => D.B, fun i => D.O + (i - 100) / 10 * 13, lval_one⟩
theorem lv_at (q r : Nat) (hr : r < 20) : lv D n (200 + r + 20 * q) = lint D n q r := by
  unfold lv
  rw [if_pos (by omega), show (200 + r + 20 * q - 200) / 20 = q by omega, show (200 + r + 20 * q - 200) % 20 = r by omega]
theorem lval_at (q r : Nat) (hr : r < 10) : lval D (100 + r + 10 * q) = lvalR D q r := by
  unfold lval
  rw [if_pos (by omega), show (100 + r + 10 * q - 100) / 10 = q by omega, show (100 + r + 10 * q - 100) % 10 = r by omega]
theorem lint_fits (h : D.OK w) (q r : Nat) : I64 (lint D n q r) := by
  have f := h.fit q
  have h2 := f.ints
  have h3 := f.tl
  have h4 := f.cl
  unfold lint
  split
  · exact i64_n (by omega)
  · exact i64_n (by omega)
  · exact i64_n (by omega)
  · exact i64_n (by omega)
  · exact h2 _ (by simp)
  · exact h2 _ (by simp)
  · exact h2 _ (by simp)
  · exact h2 _ (by simp)
  · exact h2 _ (by simp)
  · exact h2 _ (by simp)
  · exact h2 _ (by simp)
  · exact h2 _ (by simp)
  · exact h2 _ (by simp)
  · exact h2 _ (by simp)
  · exact i64_0
theorem lv_fits (h : D.OK w) (hn : I64 n) (i : Nat) : I64 (lv D n i) := by
  unfold lv
  split
  · exact lint_fits h _ _
  · unfold llow
    split
    · have := @spec_in D.cut n; exact ⟨by omega, by omega⟩
    · split
      · exact i64_n (by have := h.nm; omega)
      · split
        · exact v_fits h hn (Nat.zero_le _) _
        · exact i64_0
theorem lawIv_ok (h : D.OK w) (hn : I64 n) {lo hi : Int} (h1 : lo ≤ D.abs.length) (h2 : (D.abs.length : Int) ≤ hi) (i : Nat) : (lawIv lo hi i).1 ≤ lv D n i ∧ lv D n i ≤ (lawIv lo hi i).2 := by
  have f := lv_fits h hn i
  unfold lawIv
  split
  · rename_i hb
    have e := Nat.eq_of_beq_eq_true hb
    subst e
    exact ⟨h1, h2⟩
  · rename_i hb _
    have e := Nat.eq_of_beq_eq_true hb
    subst e
    have := h.nm
    exact ⟨by show (0 : Int) ≤ (D.name.size : Int); omega, by show (D.name.size : Int) ≤ _; omega⟩
  · rename_i hb _ _
    simp only [Bool.and_eq_true] at hb
    have g1 : 200 ≤ i := Nat.le_of_ble_eq_true hb.1
    have g2 : i % 20 < 2 := lt_of_blt hb.2
    refine ⟨?_, f.2⟩
    unfold lv
    rw [if_pos g1]
    have g3 : (i - 200) % 20 = i % 20 := by omega
    rw [g3]
    unfold lint
    rcases (show i % 20 = 0 ∨ i % 20 = 1 by omega) with e | e <;> rw [e] <;> simp only <;> omega
  · exact f
theorem fact_min {ρ : Rho} {x r : VV} {a b : Nat} (hx : sval ρ x = some (.int .i64 (a : Int))) (hr : sval ρ r = some (.int .i64 ((min a b : Nat) : Int))) : FactOK ρ (.fn .min [x, .int .i64 (b : Int)] r) := by
  refine ⟨[.int .i64 (a : Int), .int .i64 (b : Int)], _, by simp only [svals, hx]; rfl, hr, ?_⟩
  simp only [FOsem]
  congr 1
  split <;> omega
theorem abF_ok (h : D.OK w) (hcap : ∀ i, i < D.abs.length → (D.ab i).tg.length ≤ D.tc i ∧ (D.ab i).code.length ≤ D.cc i) {q : Nat} (hq : q < D.abs.length) : FsOK (abF q) (lrho D n) := by
  obtain ⟨g1, g2, g3⟩ := h.cells q hq
  obtain ⟨c1, c2⟩ := hcap q hq
  have v1 : sval (lrho D n) (.sym (101 + 10 * q)) = some (.slice (D.ta q) (D.ab q).tg.length (D.tc q)) := congrArg some (lval_at (D := D) q 1 (by decide))
  have v2 : sval (lrho D n) (.sym (102 + 10 * q)) = some (.slice (D.ca q) (D.ab q).code.length (D.cc q)) := congrArg some (lval_at (D := D) q 2 (by decide))
  have v3 : sval (lrho D n) (.sym (103 + 10 * q)) = some (.slice (D.ta q) (min (D.ab q).tg.length 4) (D.tc q)) := congrArg some (lval_at (D := D) q 3 (by decide))
  have v4 : sval (lrho D n) (.sym (104 + 10 * q)) = some (.slice (D.ca q) (min (D.ab q).code.length 40) (D.cc q)) := congrArg some (lval_at (D := D) q 4 (by decide))
  have i0 : sval (lrho D n) (si (200 + 20 * q)) = some (.int .i64 ((D.ab q).tg.length : Int)) := congrArg (fun z => some (Value.int .i64 z)) (lv_at (D := D) (n := n) q 0 (by decide))
  have i1 : sval (lrho D n) (si (201 + 20 * q)) = some (.int .i64 ((D.ab q).code.length : Int)) := congrArg (fun z => some (Value.int .i64 z)) (lv_at (D := D) (n := n) q 1 (by decide))
  have i2 : sval (lrho D n) (si (202 + 20 * q)) = some (.int .i64 ((min (D.ab q).tg.length 4 : Nat) : Int)) := congrArg (fun z => some (Value.int .i64 z)) (lv_at (D := D) (n := n) q 2 (by decide))
  have i3 : sval (lrho D n) (si (203 + 20 * q)) = some (.int .i64 ((min (D.ab q).code.length 40 : Nat) : Int)) := congrArg (fun z => some (Value.int .i64 z)) (lv_at (D := D) (n := n) q 3 (by decide))
  unfold abF
  refine fs_cons ?_ (fs_cons ⟨_, _, v1, ⟨_, _, rfl⟩, i0⟩ (fs_cons ⟨_, _, v2, ⟨_, _, rfl⟩, i1⟩ (fs_cons (fact_min (b := 4) i0 i2) (fs_cons (fact_min (b := 40) i1 i3) (fs_cons (fact_cut v1 i2 (by omega) v3) (fs_cons (fact_cut v2 i3 (by omega) v4) fs_nil))))))
  refine ⟨⟨D.B, D.O, none⟩, D.abs.length, D.cap, .i64, q, 100 + 10 * q, ?_, rfl, rfl, by omega, by omega, rfl, rfl, ?_⟩
  · show some (Value.slice D.oa D.abs.length D.cap) = _
    rw [g1]
  · show D.O + (100 + 10 * q - 100) / 10 * 13 + 0 = D.O + (q : Int).toNat * 13
    rw [show (100 + 10 * q - 100) / 10 = q by omega]
    simp
theorem lawF_ok (h : D.OK w) : FsOK lawF (lrho D n) := by
  have i10 : sval (lrho D n) (si 10) = some (.int .i64 (D.name.size : Int)) := rfl
  have i12 : sval (lrho D n) (si 12) = some (.int .i64 ((min D.name.size 20 : Nat) : Int)) := rfl
  unfold lawF
  refine fs_cons ⟨.string D.name, D.name.size, rfl, ⟨_, rfl, rfl⟩, i10⟩ (fs_cons ⟨.slice D.oa D.abs.length D.cap, D.abs.length, rfl, ⟨_, _, rfl⟩, rfl⟩ (fs_cons (fact_min (b := 20) i10 i12) (fs_cons ?_ fs_nil)))
  refine ⟨[.string D.name, .int .i64 0, .int .i64 ((min D.name.size 20 : Nat) : Int)], .string (D.name.extract 0 (min D.name.size 20)), rfl, rfl, by decide, by omega, by omega, ?_⟩
  congr 2
theorem upto_mem : ∀ {m s q : Nat}, q ∈ upto m s → s ≤ q ∧ q < s + m
  | 0, s, q, h => by simp [upto] at h
  | m + 1, s, q, h => by
    simp only [upto, List.mem_cons] at h
    rcases h with rfl | h
    · omega
    · have := upto_mem h
      omega
theorem vint {φ : Phi} (hφ : φ.ρ = lrho D n) (q r : Nat) (hr : r < 20) : VR φ (si (200 + r + 20 * q)) (.int .i64 (lint D n q r)) := by
  simp only [si, VR, hφ]
  exact congrArg (Value.int .i64) (lv_at q r hr).symm
theorem vval {φ : Phi} (hφ : φ.ρ = lrho D n) (i : Nat) {v : Value} (h : lval D i = v) : VR φ (.sym i) v := by
  simp only [VR, hφ]
  exact h.symm
theorem lawS_ok (h : D.OK w) {m : Nat} (hm : m ≤ D.abs.length) {φ : Phi} (hφ : φ.ρ = lrho D n) : ∀ i c, lawS m i = some c → φ.ρ.blk i < w.heap.size ∧ ∀ j x, c[j]? = some x → ∃ v, w.cell? ⟨φ.ρ.blk i, φ.ρ.off i + j, none⟩ = some v ∧ VR φ x v := by
  intro i c hc
  unfold lawS at hc
  split at hc
  · rename_i hb
    simp only [Bool.and_eq_true] at hb
    have g1 : 100 ≤ i := Nat.le_of_ble_eq_true hb.1.1
    have g2 : i % 10 = 0 := Nat.eq_of_beq_eq_true hb.1.2
    have g3 : i < 100 + 10 * m := lt_of_blt hb.2
    obtain rfl := (Option.some.inj hc).symm
    generalize hq : (i - 100) / 10 = q
    have hqm : q < D.abs.length := by omega
    obtain ⟨k1, k2, k3⟩ := h.cells q hqm
    have eb : φ.ρ.blk i = D.B := by rw [hφ]; rfl
    have eo : φ.ρ.off i = D.O + q * 13 := by rw [hφ]; show D.O + (i - 100) / 10 * 13 = _; rw [hq]
    rw [eb, eo]
    refine ⟨k2, fun j x hx => ?_⟩
    have k := k3 j
    match j with
    | 0 => cases hx; exact ⟨_, k _ rfl, vint hφ q 4 (by decide)⟩
    | 1 => cases hx; exact ⟨_, k _ rfl, vint hφ q 5 (by decide)⟩
    | 2 => cases hx; exact ⟨_, k _ rfl, vint hφ q 6 (by decide)⟩
    | 3 => cases hx; exact ⟨_, k _ rfl, vint hφ q 7 (by decide)⟩
    | 4 => cases hx; exact ⟨_, k _ rfl, vint hφ q 8 (by decide)⟩
    | 5 => cases hx; exact ⟨_, k _ rfl, vint hφ q 9 (by decide)⟩
    | 6 => cases hx; exact ⟨_, k _ rfl, vint hφ q 10 (by decide)⟩
    | 7 => cases hx; exact ⟨_, k _ rfl, vval hφ _ (lval_at q 5 (by decide))⟩
    | 8 => cases hx; exact ⟨_, k _ rfl, vval hφ _ (lval_at q 1 (by decide))⟩
    | 9 => cases hx; exact ⟨_, k _ rfl, vval hφ _ (lval_at q 2 (by decide))⟩
    | 10 => cases hx; exact ⟨_, k _ rfl, vint hφ q 11 (by decide)⟩
    | 11 => cases hx; exact ⟨_, k _ rfl, vint hφ q 12 (by decide)⟩
    | 12 => cases hx; exact ⟨_, k _ rfl, vint hφ q 13 (by decide)⟩
    | j + 13 => simp [abC] at hx
  · cases hc
/-! ### the bounded card, where it lies -/
def Cx.at (D : Cx) (oa : Option Addr) (cap B O : Nat) : Cx := { D.cut with oa := oa, cap := cap, B := B, O := O }
theorem cut_len : D.cut.abs.length = min D.abs.length 6 := by simp [Cx.cut, Nat.min_comm]
theorem cut_ab {i : Nat} (hi : i < min D.abs.length 6) : D.cut.ab i = (D.ab i).cut := by
  have h1 : i < D.abs.length := by omega
  have h2 : i < 6 := by omega
  simp [Cx.ab, Cx.cut, List.getD_eq_getElem?_getD, h1, h2]
theorem Ab.cut_fits {x : Ab} (h : x.Fits) : x.cut.Fits := by
  refine ⟨h.ints, fun z hz => h.tg z (List.mem_of_mem_take hz), ?_, ?_⟩
  · have := h.tl; simp only [Ab.cut, List.length_take]; omega
  · have := h.cl; simp only [Ab.cut, List.length_take]; omega
theorem Lst.take {oa : Option Addr} {B O : Nat} {xs : List Ins} (h : Lst w oa B O xs) (m : Nat) : Lst w oa B O (xs.take m) := by
  refine ⟨fun i x hi => h.cells i x ?_, fun x hx => h.fits x (List.mem_of_mem_take hx)⟩
  rw [List.getElem?_take] at hi
  split at hi
  · exact hi
  · cases hi
def cutCells (D : Cx) (i : Nat) : List Value := [.int .i64 (D.ab i).kind, .int .i64 (D.ab i).event, .int .i64 (D.ab i).who, .int .i64 (D.ab i).c0, .int .i64 (D.ab i).c1, .int .i64 (D.ab i).c2, .int .i64 (D.ab i).c3, .bool (D.ab i).tap,
  .slice (D.ta i) (min (D.ab i).tg.length 4) (D.tc i), .slice (D.ca i) (min (D.ab i).code.length 40) (D.cc i), .int .i64 (D.ab i).op, .int .i64 (D.ab i).a, .int .i64 (D.ab i).b]
theorem at_ok (h : D.OK w) {oa : Option Addr} {cap B O : Nat} (hc : ∀ i, i < min D.abs.length 6 → oa = some ⟨B, O, none⟩ ∧ B < w.heap.size ∧ ∀ j v, (cutCells D i)[j]? = some v → w.cell? ⟨B, O + i * 13 + j, none⟩ = some v) : (D.at oa cap B O).OK w := by
  have hl : (D.at oa cap B O).abs.length = min D.abs.length 6 := cut_len
  refine ⟨fun i hi => ?_, fun i j hi hj => ?_, fun i hi => ?_, h.ints, ?_, ?_, ?_⟩
  · rw [hl] at hi
    obtain ⟨g1, g2, g3⟩ := hc i hi
    refine ⟨g1, g2, fun j v hv => g3 j v ?_⟩
    have e : (D.at oa cap B O).cells i = cutCells D i := by
      have e1 : (D.at oa cap B O).ab i = (D.ab i).cut := cut_ab hi
      simp only [Cx.cells, cutCells, e1]
      simp [Ab.cut, Cx.at, Cx.cut, Nat.min_comm]
    rw [← e]
    exact hv
  · rw [hl] at hi
    have e1 : (D.at oa cap B O).ab i = (D.ab i).cut := cut_ab hi
    rw [e1] at hj ⊢
    simp only [Ab.cut, List.length_take] at hj
    obtain ⟨g1, g2, g3⟩ := h.tgs i j (by omega) (by omega)
    refine ⟨g1, g2, ?_⟩
    have e2 : (D.ab i).cut.tg.getD j 0 = (D.ab i).tg.getD j 0 := by
      simp [Ab.cut, List.getD_eq_getElem?_getD, show j < 4 by omega]
    rw [e2]
    exact g3
  · rw [hl] at hi
    have e1 : (D.at oa cap B O).ab i = (D.ab i).cut := cut_ab hi
    rw [e1]
    exact (h.codes i (by omega)).take 40
  · have := h.nm
    show ((D.name.extract 0 (min D.name.size 20)).size : Int) ≤ _
    simp
    omega
  · rw [hl]; omega
  · intro x hx
    simp only [Cx.at, Cx.cut, List.mem_map] at hx
    obtain ⟨y, hy, rfl⟩ := hx
    exact Ab.cut_fits (h.abf y (List.mem_of_mem_take hy))
theorem flat_get : ∀ {m s i j : Nat}, i < m → j < 13 → ((upto m s).flatMap abD)[i * 13 + j]? = (abD (s + i))[j]?
  | 0, s, i, j, h, _ => by omega
  | m + 1, s, i, j, h, hj => by
    simp only [upto, List.flatMap_cons]
    have hl : (abD s).length = 13 := rfl
    cases i with
    | zero => rw [List.getElem?_append_left (by rw [hl]; omega)]; simp
    | succ i =>
      rw [List.getElem?_append_right (by rw [hl]; omega), hl, show (i + 1) * 13 + j - 13 = i * 13 + j by omega, flat_get (by omega) hj, show s + 1 + i = s + (i + 1) by omega]
theorem cardB_inv {m : Nat} {φ : Phi} (hφ : φ.ρ = lrho D n) {vs : List Value} (h : VRs φ [cardB m, si 0] vs) : ∃ v, VR φ (slV m) v ∧ vs = [.agg ⟨[.string (D.name.extract 0 (min D.name.size 20)), .int .i64 D.kind, .int .i64 D.c0, .int .i64 D.c1, .int .i64 D.c2, .int .i64 D.c3, .int .i64 D.color, .int .i64 D.power, .int .i64 D.tough, .int .i64 D.keys, v]⟩, .int .i64 n] := by
  simp only [VRs, VR, cardB, si, hφ] at h
  obtain ⟨_, _, rfl, ⟨_, ⟨_, _, rfl, rfl, _, _, rfl, rfl, _, _, rfl, rfl, _, _, rfl, rfl, _, _, rfl, rfl, _, _, rfl, rfl, _, _, rfl, rfl, _, _, rfl, rfl, _, _, rfl, rfl, _, _, rfl, rfl, v, _, rfl, hv, rfl⟩, rfl⟩, _, _, rfl, rfl, rfl⟩ := h
  exact ⟨v, hv, rfl⟩
/-- What a call's argument is: the bounded card. -/
theorem arg_ok (h : D.OK w) {φ : Phi} (hφ : φ.ρ = lrho D n) {w' : World} (hs : w.heap.size ≤ w'.heap.size) (ho : ∀ k, k < w.heap.size → w'.heap[k]? = w.heap[k]?) {vs : List Value} (hv : VRs φ [cardB (min D.abs.length 6), si 0] vs) (hp : preOK φ (preB (min D.abs.length 6)) w') :
    ∃ oa cap B O, (D.at oa cap B O).OK w' ∧ vs = [(D.at oa cap B O).val, .int .i64 n] := by
  obtain ⟨v, hsl, rfl⟩ := cardB_inv hφ hv
  have h' := h.later hs ho
  have hl : ∀ oa cap B O, (D.at oa cap B O).abs.length = min D.abs.length 6 := fun _ _ _ _ => cut_len
  generalize hm : min D.abs.length 6 = m at *
  cases m with
  | zero =>
    simp only [slV, VR] at hsl
    subst hsl
    refine ⟨none, 0, 0, 0, at_ok h' fun i hi => by omega, ?_⟩
    simp only [Cx.val, hl]
    rfl
  | succ k =>
    simp only [slV, VR] at hsl
    obtain ⟨a', s, ha, rfl⟩ := hsl
    obtain ⟨inf, o', e1, e2, e3⟩ := hp (5 + 3 * k, .cells ((upto (k + 1) 0).flatMap abD) (some 13) 0 (some 41)) (by simp [preB])
    simp only [AR] at ha
    obtain ⟨inf', f1, rfl, rfl⟩ := ha
    rw [f1] at e1
    cases e1
    obtain ⟨c', e, fr, rfl, hc⟩ := e3
    have hB := (Array.getElem?_eq_some_iff.1 e2).1
    refine ⟨some ⟨inf.blk, inf.off + 0, none⟩, k + 1 + inf.slack, inf.blk, inf.off + 0, at_ok h' fun i hi => ⟨rfl, hB, fun j v hv => ?_⟩, ?_⟩
    · have hj : j < 13 := by
        rcases Nat.lt_or_ge j 13 with g | g
        · exact g
        · rw [List.getElem?_eq_none (by show 13 ≤ j; exact g)] at hv; cases hv
      have hx := flat_get (s := 0) (i := i) (j := j) (m := k + 1) (by omega) hj
      rw [Nat.zero_add] at hx
      rw [cell?_at e2]
      have key : ∀ x, (abD i)[j]? = some x → ∀ v', VR φ x v' → v = v' → c'[inf.off + 0 + i * 13 + j]? = some v := fun x hx' v' hv' e => by
        obtain ⟨y, y1, y2⟩ := hc.cell (i * 13 + j) x (by rw [hx]; exact hx')
        rw [show inf.off + 0 + i * 13 + j = inf.off + (i * 13 + j) by omega, y1]
        rw [e]
        congr 1
        have hsx : ∃ u, sval φ.ρ x = some u := by
          match j, hj with
          | 0, _ => cases hx'; exact ⟨_, rfl⟩
          | 1, _ => cases hx'; exact ⟨_, rfl⟩
          | 2, _ => cases hx'; exact ⟨_, rfl⟩
          | 3, _ => cases hx'; exact ⟨_, rfl⟩
          | 4, _ => cases hx'; exact ⟨_, rfl⟩
          | 5, _ => cases hx'; exact ⟨_, rfl⟩
          | 6, _ => cases hx'; exact ⟨_, rfl⟩
          | 7, _ => cases hx'; exact ⟨_, rfl⟩
          | 8, _ => cases hx'; exact ⟨_, rfl⟩
          | 9, _ => cases hx'; exact ⟨_, rfl⟩
          | 10, _ => cases hx'; exact ⟨_, rfl⟩
          | 11, _ => cases hx'; exact ⟨_, rfl⟩
          | 12, _ => cases hx'; exact ⟨_, rfl⟩
        obtain ⟨u, hu⟩ := hsx
        rw [sval_VR hu y2, sval_VR hu hv']
      match j, hj with
      | 0, _ => cases hv; exact key _ rfl _ (vint hφ i 4 (by decide)) rfl
      | 1, _ => cases hv; exact key _ rfl _ (vint hφ i 5 (by decide)) rfl
      | 2, _ => cases hv; exact key _ rfl _ (vint hφ i 6 (by decide)) rfl
      | 3, _ => cases hv; exact key _ rfl _ (vint hφ i 7 (by decide)) rfl
      | 4, _ => cases hv; exact key _ rfl _ (vint hφ i 8 (by decide)) rfl
      | 5, _ => cases hv; exact key _ rfl _ (vint hφ i 9 (by decide)) rfl
      | 6, _ => cases hv; exact key _ rfl _ (vint hφ i 10 (by decide)) rfl
      | 7, _ => cases hv; exact key _ rfl _ (vval hφ _ (lval_at i 5 (by decide))) rfl
      | 8, _ => cases hv; exact key _ rfl _ (vval hφ _ (lval_at i 3 (by decide))) rfl
      | 9, _ => cases hv; exact key _ rfl _ (vval hφ _ (lval_at i 4 (by decide))) rfl
      | 10, _ => cases hv; exact key _ rfl _ (vint hφ i 11 (by decide)) rfl
      | 11, _ => cases hv; exact key _ rfl _ (vint hφ i 12 (by decide)) rfl
      | 12, _ => cases hv; exact key _ rfl _ (vint hφ i 13 (by decide)) rfl
    · simp only [Cx.val, hl]
      rfl
theorem law (h : D.OK w) (hcap : ∀ i, i < D.abs.length → (D.ab i).tg.length ≤ D.tc i ∧ (D.ab i).code.length ≤ D.cc i) (hn : I64 n) : Calls Try.prog 3 #[D.val, .int .i64 n] w fun e w' => e = .returned (.bool true) ∧ Below w.heap.size w w' := by
  obtain ⟨lo, hi, hr, h1, h2⟩ := runs_of (n := D.abs.length) (by have := h.len; omega)
  refine trueB_calls (noNG_of noNG) mixed hr (ρ := lrho D n) (fun e he => ?_) ⟨fun i => lawIv_ok h hn h1 h2 i, fun f hf => ?_, fun i c hc => ?_⟩ (fun r => rfl) ?_
  · simp only [lawKT, List.mem_cons, List.not_mem_nil, or_false] at he
    rcases he with rfl | rfl | rfl
    · intro φ vs w' hφ hs ho hv hp
      obtain ⟨oa, cap, B, O, hok, rfl⟩ := arg_ok h hφ hs ho hv hp
      refine (checkC hok hn).mono ?_
      rintro e w'' ⟨rfl, hbl⟩
      exact ⟨_, rfl, by simp only [VR, si, hφ]; rfl, hbl⟩
    · intro φ vs w' hφ hs ho hv hp
      obtain ⟨oa, cap, B, O, hok, rfl⟩ := arg_ok h hφ hs ho hv hp
      refine (checkR hok hn).mono ?_
      rintro e w'' ⟨rfl, hbl⟩
      exact ⟨_, rfl, by simp only [VR, si, hφ]; rfl, hbl⟩
    · intro φ vs w' hφ hs ho hv hp
      simp only [VRs] at hv
      subst hv
      refine (rows.works w').mono ?_
      rintro e w'' ⟨rfl, hb⟩
      exact ⟨_, rfl, by simp only [VR], hb⟩
  · rcases List.mem_append.1 hf with hf | hf
    · exact lawF_ok h f hf
    · obtain ⟨q, hq, hf⟩ := List.mem_flatMap.1 hf
      have := upto_mem hq
      exact abF_ok h hcap (by omega) f hf
  · exact lawS_ok h (by omega) rfl i c hc
  · simp only [VRs, VR, cardV, si]
    exact ⟨_, _, rfl, ⟨_, ⟨_, _, rfl, rfl, _, _, rfl, rfl, _, _, rfl, rfl, _, _, rfl, rfl, _, _, rfl, rfl, _, _, rfl, rfl, _, _, rfl, rfl, _, _, rfl, rfl, _, _, rfl, rfl, _, _, rfl, rfl, _, _, rfl, rfl, rfl⟩, rfl⟩, _, _, rfl, rfl, rfl⟩
end
set_option maxRecDepth 100000 in
theorem lifted (os : Os) (started : os.Started) (H : Type) (enc : TypeId × Value → H) :
    ReturnsInHanded {} Try.checked os 3 .any (Rows.cardChecksSpec.pre6 enc Try.prog Try.f3 Rows.cardChecksRow.domain false) (Rows.cardChecksSpec.post enc Try.prog Try.f3 false true false false) := by
  refine returnsInHanded_of_change (C := Try.checked) own started (by kernel_rfl) Try.func3
    (ChangeSpec.witness6 (enc := enc) (C := Try.checked) false ⟨#[], #[.agg #[.string .empty, .int .i64 0, .int .i64 0, .int .i64 0, .int .i64 0, .int .i64 0, .int .i64 0, .int .i64 0, .int .i64 0, .int .i64 0, .slice none 0 0], .int .i64 0], []⟩ 8 (by kernel_rfl) (by kernel_rfl) (by kernel_rfl) (by kernel_rfl)) ?_
  intro W base args ds gs before hval0 hW hcnd _
  have hval : ∀ (j : Nat) t v, Try.f3.params[j]? = some t → args[j]? = some v → Value.okWide Try.prog W .any base t v := hval0
  have hW' := hW
  obtain ⟨p, q, hA0, hV, rfl, hfz, hnd⟩ := hW
  have hA : DataW.TrodAll enc Try.prog W 0 (fun _ => true) true Try.f3.params.toList args.toList ds p := hA0
  rw [Try.params3] at hA hval
  obtain ⟨v0, v1, d0, d1, p0, p1, rfl, rfl, rfl, h0, h1⟩ := trodAll_two hA
  obtain ⟨rfl, rfl⟩ := trodVars_none hV
  obtain ⟨n, rfl, rfl, rfl, wn⟩ := open_int Try.underlying3 (hval 1 3 v1 rfl rfl) h1
  obtain ⟨cs, rfl, _⟩ := okWide_struct Try.underlying26 (hval 0 26 v0 rfl rfl)
  clear hA0 hval0
  have hlt : ∀ x ∈ p0, x.block < W.heap.size := fun x hx => by simpa using hW'.lt x (by simp [hx])
  simp only [List.append_nil] at hW'
  obtain ⟨fuel, hf⟩ := h0
  have hf' : DataW.trod enc Try.prog W 0 (fun _ => true) true fuel 26 cs.toList = some (d0, p0) := hf
  obtain ⟨D, hD, hcs, hcap⟩ := card_of hf'
  have hl := law hD hcap (lit64 wn)
  rw [← hcs] at hl
  refine hl.mono fun e W' ⟨he, hb⟩ => ?_
  subst he
  have hargs := Below.trod (by kernel_rfl) (by kernel_rfl) (of_decide_eq_true (by kernel_rfl)) (⟨fuel, hf⟩ : DataW.Trod enc Try.prog W 0 (fun _ => true) true 26 (.agg cs) d0 p0) hb hlt
  exact ⟨_, rfl, _, _, _, [], p0 ++ [], [], hW', trodAll_mk1 (shut_bool Try.underlying4 _), trodAll_mk2 hargs (shut_int Try.underlying3 wn), rfl, hb.frame _, fun h => by cases h⟩
theorem over : Rows.cardChecksRow.holds Try.pinned (OpenSpec.ofChange Rows.cardChecksSpec) :=
  OpenClaim.holds_of_wide 3 Try.f3 rfl rfl rfl rfl rfl rfl rfl ⟨rfl, rfl, rfl, rfl, rfl⟩ rfl rfl rfl rfl rfl (by kernel_rfl) Try.func3 (by kernel_rfl)
    (of_decide_eq_true (by kernel_rfl)) (by unfold Func.isWrapper; first | (rw [if_pos (by decide +kernel)]; kernel_rfl) | (rw [if_neg (by decide +kernel)]; exact ⟨rfl, rfl⟩))
    (fun os started H enc _ => lifted os started H enc)
theorem proved : Rows.CardChecksSaid := over
end
end Go.Proofs.Ytgbpkilegbechaa.cards
