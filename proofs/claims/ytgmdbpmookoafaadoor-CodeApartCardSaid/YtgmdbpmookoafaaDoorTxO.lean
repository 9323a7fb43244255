/-
  'CodeApart' over known calls: two codes that may be have the same text only if they are the same.
-/
import Derived.Test.YtgmdbpmookoafaaDoorTxN
import Derived.Test.YtgmdbpmookoafaaDoorTxM
import Derived.Test.YtgmdbpmookoafaaDoorTxL
import Derived.Test.YtgmdbpmookoafaaDoorSpecs
namespace Go.Proofs.YtgmdbpmookoafaaDoor.apart
open Go.Ev Go.RowKit Go.Proofs.YtgmdbpmookoafaaDoor.text
set_option linter.unusedVariables false
noncomputable section
def nums0 : List Int := [0, 1, 28, 2, 29, 14, 24, 3, 30, 22, 20, 15, 25, 17, 4, 8, 31, 27, 13, 23, 21, 19, 16, 7, 26, 12, 18, 6, 11, 5, 10, 9]
def nums1 : List Int := [0, 1, 56, 2, 57, 49, 28, 3, 61, 58, 42, 50, 38, 29, 17, 4, 62, 47, 59, 36, 45, 43, 51, 22, 53, 39, 33, 30, 24, 18, 12, 5, 63, 55, 48, 27, 60, 41, 37, 16, 46, 35, 44, 21, 52, 32, 23, 11, 54, 26, 40, 15, 34, 20, 31, 10, 25, 14, 19, 9, 13, 8, 7, 6]
def nums2 : List Int := [1, 10, 100, 1000, 10000, 100000, 1000000, 10000000, 100000000, 1000000000, 10000000000, 100000000000, 1000000000000, 10000000000000, 100000000000000, 1000000000000000, 10000000000000000, 100000000000000000, 1000000000000000000, 10000000000000000000]
noncomputable def tabs : Tabs := [(1, nums0.map fun z => Value.int .u8 z), (2, nums1.map fun z => Value.int .u8 z), (0, nums2.map fun z => Value.int .u64 z)]
/-! ### the chapter's rows -/
namespace rows
instance said : Ext := ⟨fun _ w => TabsOK tabs w⟩
theorem none_known : ∀ f ∈ ([] : List FuncId), ∀ w : World, TabsOK tabs w → Calls Tryd.prog f #[] w fun e w' => e = .returned (.bool true) ∧ Below w.heap.size w w' := by
  intro f hf
  cases hf
theorem ran : Go.Ev.runT Tryd.prog tabs [] 20000 11 = true := by kernel_rfl
theorem works (w : World) (h : TabsOK tabs w) : Calls Tryd.prog 11 #[] w fun e w' => e = .returned (.bool true) ∧ Below w.heap.size w w' :=
  runT_calls (noNG_of noNG) mixed (fun _ _ h => h) none_known ran w h h
end rows
/-! ### the library's Itoa -/
theorem tab_pow {w : World} (h : TabsOK tabs w) : Go.Lib.TabIs Tryd.prog w "internal/strconv.uint64pow10" .u64 Go.Lib.pow10Tab := by
  obtain ⟨c, e, fr, h1, h2⟩ := h 0 (nums2.map fun z => Value.int .u64 z) rfl
  have hg : Tryd.prog.globalNamed "internal/strconv.uint64pow10" = some 0 := by kernel_rfl
  unfold Go.Lib.TabIs World.var?
  simp only [hg, Option.bind_some, h1]
  have e : Go.Lib.pow10Tab = nums2 := by decide
  rw [e, ← h2]
theorem itoaOK {w : World} (h : TabsOK tabs w) : ItoaOK w := fun n hn w' h1 h2 => by
  refine (Tryd.strconv_Itoa n hn.1 hn.2 w' (tab_pow (h.of_old h2))).mono ?_
  rintro e w'' ⟨rfl, k, os, rfl⟩
  exact ⟨rfl, Go.Lib.below_grow _ _ (Nat.le_refl _) k os⟩
/-! ### a code that may be has operations from 1 to 24 -/
abbrev spec (xs : List Ins) : Int := more.spec 2 40 xs
theorem toM {w : World} {oa : Option Addr} {B O : Nat} {xs : List Ins} (h : Lst w oa B O xs) : more.Lst w oa B O xs := ⟨h.cells, h.fits⟩
def toX : TrB → TrX Bool
  | .leaf b => .leaf b
  | .cut i c l r => .cut i c (toX l) (toX r)
  | .rel k i j l r => .rel k i j (toX l) (toX r)
theorem toX_val {v : Nat → Int} : ∀ {t : TrB}, valX (toX t) v = valB t v
  | .leaf b => rfl
  | .cut i c l r => by simp only [toX, valX, valB, toX_val]
  | .rel k i j l r => by simp only [toX, valX, valB, toX_val]
def opP (iv : Ivs) (rs : Rels) (b : Bool) : Bool := match b with
  | true => match decide (1 ≤ (ivAt iv 3).1) with
    | true => decide ((ivAt iv 3).2 ≤ 24)
    | false => false
  | false => true
def goodIv : Ivs := [(2, 2), (40, 40), (0, 32), (-9223372036854775808, 9223372036854775807), (-9223372036854775808, 9223372036854775807), (-9223372036854775808, 9223372036854775807), (-9223372036854775808, 9223372036854775807), (-9223372036854775808, 9223372036854775807)]
theorem good_all : allI opP (toX more.AT) goodIv [] = true := by kernel_rfl
theorem good_op {xs : List Ins} {i : Nat} (hin : more.In 2 40 xs) (hf : I64 (xs.getD i (0, 0, 0)).1 ∧ I64 (xs.getD i (0, 0, 0)).2.1 ∧ I64 (xs.getD i (0, 0, 0)).2.2) (hi : i ≤ xs.length) (hg : more.good 2 40 xs i = true) : 1 ≤ (xs.getD i (0, 0, 0)).1 ∧ (xs.getD i (0, 0, 0)).1 ≤ 24 := by
  have hn := hin.n32
  have f6 : I64 (i : Int) := ⟨by omega, by omega⟩
  have f7 : I64 ((i : Int) + 1) := ⟨by omega, by omega⟩
  have hv : VOK goodIv [] (more.vals 2 40 xs i) := ⟨iv_all (f := more.vals 2 40 xs i) ⟨⟨Int.le_refl _, Int.le_refl _⟩, ⟨Int.le_refl _, Int.le_refl _⟩, ⟨by show (0 : Int) ≤ (xs.length : Int); omega, by show (xs.length : Int) ≤ 32; omega⟩, hf.1, hf.2.1, hf.2.2, f6, f7, trivial⟩ fun j => by
      match j with
      | 0 => exact ⟨by show _ ≤ (2 : Int); decide, by show (2 : Int) ≤ _; decide⟩
      | 1 => exact ⟨by show _ ≤ (40 : Int); decide, by show (40 : Int) ≤ _; decide⟩
      | 2 => exact ⟨by show _ ≤ (xs.length : Int); omega, by show (xs.length : Int) ≤ _; omega⟩
      | 3 => exact hf.1
      | 4 => exact hf.2.1
      | 5 => exact hf.2.2
      | 6 => exact f6
      | 7 => exact f7
      | j + 8 => exact i64_0, fun p hp => by cases hp⟩
  obtain ⟨iv, rs, h1, h2⟩ := allI_ok good_all hv
  rw [toX_val] at h2
  unfold more.good at hg
  rw [hg] at h2
  have h3 := h1.1 3
  have e3 : more.vals 2 40 xs i 3 = (xs.getD i (0, 0, 0)).1 := rfl
  rw [e3] at h3
  simp only [opP] at h2
  split at h2
  · rename_i h4
    have h4 := of_decide_eq_true h4
    have h5 := of_decide_eq_true h2
    omega
  · cases h2
theorem ops_in {w : World} {oa : Option Addr} {B O : Nat} {xs : List Ins} (hL : Lst w oa B O xs) (hn : xs.length ≤ 40) (h0 : spec xs = 0) : ∀ x ∈ xs, 1 ≤ x.1 ∧ x.1 ≤ 24 := by
  obtain ⟨hin, hg⟩ := (more.spec_in (t := 2) (c := 40) (toM hL) ⟨by decide, by decide⟩ ⟨by decide, by decide⟩ (by omega)).2.2 h0
  intro x hx
  obtain ⟨i, hi, e⟩ := List.mem_iff_getElem.1 hx
  have := good_op hin (hL.fit i) (by omega) (hg i hi)
  have e2 : xs.getD i (0, 0, 0) = x := by simp [List.getD_eq_getElem?_getD, hi, e]
  rw [e2] at this
  exact this
/-! ### what the symbols stand for -/
structure Args where
  oa : Option Addr
  ca : Nat
  la : Nat
  Ba : Nat
  Oa : Nat
  ob : Option Addr
  cb : Nat
  lb : Nat
  Bb : Nat
  Ob : Nat
  xs : List Ins
  ys : List Ins
def flag (g : Args) : Int := if textB g.xs = textB g.ys then 1 else 0
def aval (g : Args) (i : Nat) : Nat → Int
  | 1 => g.la
  | 3 => g.lb
  | 5 => g.xs.length
  | 7 => g.ys.length
  | 8 => i
  | 9 => i + 1
  | 10 => opA g.xs i
  | 11 => aA g.xs i
  | 12 => bA g.xs i
  | 13 => opA g.ys i
  | 14 => aA g.ys i
  | 15 => bA g.ys i
  | 16 => spec g.xs
  | 17 => spec g.ys
  | 20 => flag g
  | _ => 0
def avv (g : Args) : Nat → Value
  | 0 => .slice g.oa g.la g.ca
  | 2 => .slice g.ob g.lb g.cb
  | 4 => .slice g.oa g.xs.length g.ca
  | 6 => .slice g.ob g.ys.length g.cb
  | 18 => .string (bstr (textB g.xs))
  | 19 => .string (bstr (textB g.ys))
  | _ => .bool false
theorem avv_one {g : Args} (j : Nat) : (avv g j).oneCell' = true := by
  unfold avv
  split <;> rfl
def arho (g : Args) (i : Nat) : Rho :=
  ⟨aval g i, avv g, fun k => if k = 13 then g.Bb else g.Ba, fun k => if k = 10 then g.Oa + i * 3 else if k = 13 then g.Ob + i * 3 else 0, avv_one, fun _ => [], fun _ _ h => by cases h⟩
/-- What is known of the arguments. -/
structure Args.OK (g : Args) (w : World) : Prop where
  la : Lst w g.oa g.Ba g.Oa g.xs
  lb : Lst w g.ob g.Bb g.Ob g.ys
  na : g.xs.length = min g.la 40
  nb : g.ys.length = min g.lb 40
  ma : (g.la : Int) ≤ 9223372036854775807
  mb : (g.lb : Int) ≤ 9223372036854775807
  ka : g.la ≤ g.ca
  kb : g.lb ≤ g.cb
section
variable {w : World} {g : Args} {i : Nat}
theorem Args.OK.sa (h : g.OK w) : 0 ≤ spec g.xs ∧ spec g.xs ≤ 1000 := by
  have hn := h.na
  have := more.spec_in (t := 2) (c := 40) (toM h.la) ⟨by decide, by decide⟩ ⟨by decide, by decide⟩ (by omega)
  exact ⟨this.1, this.2.1⟩
theorem Args.OK.sb (h : g.OK w) : 0 ≤ spec g.ys ∧ spec g.ys ≤ 1000 := by
  have hn := h.nb
  have := more.spec_in (t := 2) (c := 40) (toM h.lb) ⟨by decide, by decide⟩ ⟨by decide, by decide⟩ (by omega)
  exact ⟨this.1, this.2.1⟩
theorem flag_in (g : Args) : 0 ≤ flag g ∧ flag g ≤ 1 := by
  unfold flag
  split <;> omega
theorem aval_fits (h : g.OK w) (hi : i ≤ 40) : ∀ k, I64 (aval g i k) := fun k => by
  obtain ⟨f1, f2, f3⟩ := h.la.fit i
  obtain ⟨f4, f5, f6⟩ := h.lb.fit i
  have hna := h.na
  have hnb := h.nb
  have hsa := h.sa
  have hsb := h.sb
  have hfl := flag_in g
  unfold aval
  split
  · exact i64_n h.ma
  · exact i64_n h.mb
  · exact i64_n (by omega)
  · exact i64_n (by omega)
  · exact i64_n (by omega)
  · exact ⟨by omega, by omega⟩
  · exact f1
  · exact f2
  · exact f3
  · exact f4
  · exact f5
  · exact f6
  · exact ⟨by omega, by omega⟩
  · exact ⟨by omega, by omega⟩
  · exact ⟨by omega, by omega⟩
  · exact i64_0
theorem aiv1 (h : g.OK w) (hi : i ≤ 40) : IvOK caiv1 (arho g i) := by
  have f := aval_fits h hi
  have hna := h.na
  have hnb := h.nb
  exact iv_all (f := aval g i) ⟨f 0, ⟨by show (0 : Int) ≤ (g.la : Int); omega, h.ma⟩, f 2, ⟨by show (0 : Int) ≤ (g.lb : Int); omega, h.mb⟩, f 4, ⟨by show (0 : Int) ≤ (g.xs.length : Int); omega, by show (g.xs.length : Int) ≤ 40; omega⟩, f 6, ⟨by show (0 : Int) ≤ (g.ys.length : Int); omega, by show (g.ys.length : Int) ≤ 40; omega⟩,
    ⟨by show 0 ≤ (i : Int); omega, by show (i : Int) ≤ 40; omega⟩, ⟨by show 1 ≤ (i : Int) + 1; omega, by show (i : Int) + 1 ≤ 41; omega⟩, f 10, f 11, f 12, f 13, f 14, f 15, h.sa, h.sb, f 18, f 19, flag_in g, trivial⟩ f
theorem aiv0 (h : g.OK w) (hi : i ≤ 40) : IvOK caiv0 (arho g i) := by
  have f := aval_fits h hi
  have hna := h.na
  have hnb := h.nb
  exact iv_all (f := aval g i) ⟨f 0, ⟨by show (0 : Int) ≤ (g.la : Int); omega, h.ma⟩, f 2, ⟨by show (0 : Int) ≤ (g.lb : Int); omega, h.mb⟩, f 4, ⟨by show (0 : Int) ≤ (g.xs.length : Int); omega, by show (g.xs.length : Int) ≤ 40; omega⟩, f 6, ⟨by show (0 : Int) ≤ (g.ys.length : Int); omega, by show (g.ys.length : Int) ≤ 40; omega⟩,
    ⟨by show 0 ≤ (i : Int); omega, by show (i : Int) ≤ 40; omega⟩, ⟨by show 1 ≤ (i : Int) + 1; omega, by show (i : Int) + 1 ≤ 41; omega⟩, f 10, f 11, f 12, f 13, f 14, f 15, h.sa, h.sb, trivial⟩ f
theorem fact_min {ρ : Rho} {a b : Nat} {c : Int} (h : ρ.int b = if c < ρ.int a then c else ρ.int a) : FactOK ρ (.fn .min [si a, .int .i64 c] (si b)) :=
  ⟨[.int .i64 (ρ.int a), .int .i64 c], .int .i64 (ρ.int b), rfl, rfl, by show Value.int .i64 (ρ.int b) = _; rw [h]⟩
theorem apF_ok (h : g.OK w) : FsOK apF (arho g i) := by
  have hna := h.na
  have hnb := h.nb
  have hka := h.ka
  have hkb := h.kb
  refine fs_cons (fact_len rfl rfl) (fs_cons (fact_len rfl rfl) (fs_cons (fact_min ?_) (fs_cons (fact_min ?_) (fs_cons ?_ (fs_cons ?_ (fs_cons (fact_len rfl rfl) (fs_cons (fact_len rfl rfl) fs_nil)))))))
  · show (g.xs.length : Int) = if (40 : Int) < (g.la : Int) then 40 else (g.la : Int)
    split <;> omega
  · show (g.ys.length : Int) = if (40 : Int) < (g.lb : Int) then 40 else (g.lb : Int)
    split <;> omega
  · exact fact_cut (a := g.oa) (l := g.la) (c := g.ca) (m := g.xs.length) (k := .i64) rfl rfl (by omega) rfl
  · exact fact_cut (a := g.ob) (l := g.lb) (c := g.cb) (m := g.ys.length) (k := .i64) rfl rfl (by omega) rfl
theorem aent_ok (h : g.OK w) {iv : Ivs} {fs : List Fact} (h1 : IvOK iv (arho g i)) (h2 : FsOK fs (arho g i)) (φ : Phi) (hφ : φ.ρ = arho g i) : EnvP (Aent iv fs) φ w :=
  ⟨by rw [hφ]; exact h1, by rw [hφ]; exact fs_app h2 (apF_ok h), fun k cs h => by cases h⟩
theorem bstr_inj {a b : List UInt8} (h : bstr a = bstr b) : a = b := by
  unfold bstr at h
  simpa using h
theorem eqFl_ok {iv : Ivs} (h1 : IvOK iv (arho g i)) : FsOK (eqFl iv 20 (.sym 18) (.sym 19)) (arho g i) := by
  have := h1 20
  have e20 : (arho g i).int 20 = flag g := rfl
  rw [e20] at this
  have fact : ∀ b : Bool, b = decide (textB g.xs = textB g.ys) → FactOK (arho g i) (.bin .eql (.sym 18) (.sym 19) (.bool b)) := fun b hb =>
    ⟨.string (bstr (textB g.xs)), .string (bstr (textB g.ys)), .bool b, rfl, rfl, rfl, (fun cs h => by cases h), (fun h => by cases h), fun P t w => by
      have e1 : ∀ l : List UInt8, (bstr l).toList = l := fun l => by rw [ByteArray.toList_eq]; rfl
      have : ((bstr (textB g.xs)).toList == (bstr (textB g.ys)).toList) = b := by
        rw [hb, e1, e1]
        by_cases e : textB g.xs = textB g.ys
        · rw [e]; simp
        · rw [decide_eq_false e]
          exact beq_eq_false_iff_ne.2 e
      simp only [binOp, Op.stringOp, this]
      rfl⟩
  unfold eqFl
  cases e1 : decide ((ivAt iv 20).2 = 0) with
  | true =>
    have := of_decide_eq_true e1
    refine fs_cons (fact false (decide_eq_false ?_).symm) fs_nil
    intro e
    have hf : flag g = 1 := if_pos e
    omega
  | false => cases e2 : decide ((ivAt iv 20).1 = 1) with
    | true =>
      have := of_decide_eq_true e2
      refine fs_cons (fact true (decide_eq_true ?_).symm) fs_nil
      apply Classical.byContradiction
      intro e
      have hf : flag g = 0 := if_neg e
      omega
    | false => exact fs_nil
theorem hasLssA {fs : List Fact} {a b : Nat} {ρ : Rho} (w : World) (h : hasLss fs a b = true) (k : FsOK fs ρ) : ρ.int a < ρ.int b := by
  unfold hasLss at h
  rw [List.any_eq_true] at h
  obtain ⟨f, hf, hh⟩ := h
  split at hh
  · rename_i k1 x k2 y
    simp only [Bool.and_eq_true] at hh
    have e1 := Nat.eq_of_beq_eq_true hh.1
    have e2 := Nat.eq_of_beq_eq_true hh.2
    subst e1 e2
    exact lss_of Tryd.prog w (k _ hf)
  · cases hh
theorem aloop_ok (h : g.OK w) {iv : Ivs} {fs : List Fact} (h1 : IvOK iv (arho g i)) (h2 : FsOK fs (arho g i)) (φ : Phi) (hφ : φ.ρ = arho g i) : EnvP (Aloop iv fs) φ w := by
  have hna := h.na
  have hnb := h.nb
  unfold Aloop
  split
  · rename_i ha hb
    have hia : (i : Int) < (g.xs.length : Int) := hasLssA w ha h2
    have hib : (i : Int) < (g.ys.length : Int) := hasLssA w hb h2
    obtain ⟨g1, g2, g3, g4, g5⟩ := h.la.cells i _ (at_of (d := (0, 0, 0)) (by omega))
    obtain ⟨k1, k2, k3, k4, k5⟩ := h.lb.cells i _ (at_of (d := (0, 0, 0)) (by omega))
    have v : ∀ k, VR φ (sv iv .i64 k) (.int .i64 (aval g i k)) := fun k => by have := VR_sv (φ := φ) (iv := iv) (by rw [hφ]; exact h1) .i64 k; rw [hφ] at this; exact this
    refine ⟨by rw [hφ]; exact h1, by
      rw [hφ]
      refine fs_app h2 (fs_app (apF_ok h) (fs_cons ?_ (fs_cons ?_ (fs_cons ?_ fs_nil))))
      · refine fact_at (n := i) (B := g.Ba) (O := g.Oa) (l := g.xs.length) (c := g.ca) ?_ rfl (by omega) rfl rfl
        show some (Value.slice g.oa g.xs.length g.ca) = _
        rw [g1]
      · refine fact_at (n := i) (B := g.Bb) (O := g.Ob) (l := g.ys.length) (c := g.cb) ?_ rfl (by omega) rfl rfl
        show some (Value.slice g.ob g.ys.length g.cb) = _
        rw [k1]
      · exact fact_add rfl (show -9223372036854775808 ≤ (i : Int) + 1 by omega) (show (i : Int) + 1 ≤ 9223372036854775807 by omega), fun k cs hk => ?_⟩
    simp only at hk
    split at hk
    · rename_i hb
      have := Nat.eq_of_beq_eq_true hb
      subst this
      cases hk
      have eb : φ.ρ.blk 10 = g.Ba := by rw [hφ]; rfl
      have eo : φ.ρ.off 10 = g.Oa + i * 3 := by rw [hφ]; rfl
      rw [eb, eo]
      refine ⟨g2, fun j x hx => ?_⟩
      match j with
      | 0 => cases hx; exact ⟨_, g3, v 10⟩
      | 1 => cases hx; exact ⟨_, g4, v 11⟩
      | 2 => cases hx; exact ⟨_, g5, v 12⟩
      | j + 3 => simp at hx
    · rename_i hb _
      have := Nat.eq_of_beq_eq_true hb
      subst this
      cases hk
      have eb : φ.ρ.blk 13 = g.Bb := by rw [hφ]; rfl
      have eo : φ.ρ.off 13 = g.Ob + i * 3 := by rw [hφ]; rfl
      rw [eb, eo]
      refine ⟨k2, fun j x hx => ?_⟩
      match j with
      | 0 => cases hx; exact ⟨_, k3, v 13⟩
      | 1 => cases hx; exact ⟨_, k4, v 14⟩
      | 2 => cases hx; exact ⟨_, k5, v 15⟩
      | j + 3 => simp at hx
    · cases hk
  · exact ⟨by rw [hφ]; exact h1, by rw [hφ]; exact fs_app h2 (fs_app (apF_ok h) (eqFl_ok h1)), fun k cs h => by cases h⟩
/-! ### what is said of the calls -/
theorem aext (hT : TabsOK tabs w) (h : g.OK w) : ∀ e ∈ caKT, KEok Tryd.prog (arho g i) w e := by
  have hna := h.na
  have hnb := h.nb
  have i2 : more.I64 2 := ⟨by decide, by decide⟩
  have i40 : more.I64 40 := ⟨by decide, by decide⟩
  intro e he
  simp only [caKT, List.mem_cons, List.not_mem_nil, or_false] at he
  rcases he with rfl | rfl | rfl | rfl | rfl
  · intro φ vs w' hφ h1 h2 hv _
    simp only [VRs] at hv
    subst hv
    refine (rows.works w' (hT.of_old h2)).mono ?_
    rintro en w'' ⟨rfl, hb⟩
    exact ⟨_, rfl, by simp only [VR], hb⟩
  · intro φ vs w' hφ h1 h2 hv _
    simp only [VRs, VR, hφ] at hv
    obtain ⟨_, _, rfl, rfl, _, _, rfl, rfl, _, _, rfl, rfl, rfl⟩ := hv
    refine (more.contractC (cap := g.ca) (toM (h.la.later h1 h2)) i2 i40 (by omega)).mono ?_
    rintro en w'' ⟨rfl, hb⟩
    exact ⟨_, rfl, by simp only [VR, hφ]; rfl, hb⟩
  · intro φ vs w' hφ h1 h2 hv _
    simp only [VRs, VR, hφ] at hv
    obtain ⟨_, _, rfl, rfl, _, _, rfl, rfl, _, _, rfl, rfl, rfl⟩ := hv
    refine (more.contractC (cap := g.cb) (toM (h.lb.later h1 h2)) i2 i40 (by omega)).mono ?_
    rintro en w'' ⟨rfl, hb⟩
    exact ⟨_, rfl, by simp only [VR, hφ]; rfl, hb⟩
  · intro φ vs w' hφ h1 h2 hv _
    simp only [VRs, VR, hφ] at hv
    obtain ⟨_, _, rfl, rfl, rfl⟩ := hv
    refine (textC (cap := g.ca) (itoaOK (hT.of_old h2)) (h.la.later h1 h2) (by omega)).mono ?_
    rintro en w'' ⟨rfl, hb⟩
    exact ⟨_, rfl, by simp only [VR, hφ]; rfl, hb⟩
  · intro φ vs w' hφ h1 h2 hv _
    simp only [VRs, VR, hφ] at hv
    obtain ⟨_, _, rfl, rfl, rfl⟩ := hv
    refine (textC (cap := g.cb) (itoaOK (hT.of_old h2)) (h.lb.later h1 h2) (by omega)).mono ?_
    rintro en w'' ⟨rfl, hb⟩
    exact ⟨_, rfl, by simp only [VR, hφ]; rfl, hb⟩
/-! ### the paths -/
theorem rdF (h0 : flag g = 0) {I : Nat → Nat → Prop} (hI : ∀ p i, I p i) : ∀ m i, i + m = g.xs.length → Rd caC (aval g) I 1 i (.bool true) := by
  intro m
  have fin : ∀ i, valX (.cut 20 (0) (.leaf (.ret (.bool true))) (.leaf (.ret (.bool false)))) (aval g i) = Leaf.ret (.bool true) := fun i => by
    simp only [valX]
    rw [if_pos (show aval g i 20 ≤ 0 by show flag g ≤ 0; omega)]
  induction m with
  | zero =>
    intro i hi
    refine .ret (c := cac1) rfl (hI _ _) ?_
    show valX cat1 _ = _
    simp only [cat1, valX]
    rw [if_neg (show ¬ aval g i 8 < aval g i 5 by show ¬ (i : Int) < (g.xs.length : Int); omega)]
    exact fin i
  | succ m ih =>
    intro i hi
    have e : valX cac1.tr (aval g i) = if (i : Int) < (g.ys.length : Int) then .goto 1 [.sint .i64 9] else .ret (.bool true) := by
      show valX cat1 _ = _
      simp only [cat1, valX]
      rw [if_pos (show aval g i 8 < aval g i 5 by show (i : Int) < (g.xs.length : Int); omega)]
      simp only [cat1L, valX]
      by_cases hk : (i : Int) < (g.ys.length : Int)
      · rw [if_pos (show aval g i 8 < aval g i 7 from hk), if_pos hk]
      · rw [if_neg (show ¬ aval g i 8 < aval g i 7 from hk), if_neg hk]
        exact fin i
    by_cases hk : (i : Int) < (g.ys.length : Int)
    · rw [if_pos hk] at e
      exact .next (c := cac1) rfl (hI _ _) e (ih (i + 1) (by omega))
    · rw [if_neg hk] at e
      exact .ret (c := cac1) rfl (hI _ _) e
theorem flag_zero (h : g.OK w) (h1 : spec g.xs = 0) (h2 : spec g.ys = 0) (hne : g.xs ≠ g.ys) : flag g = 0 := by
  have hna := h.na
  have hnb := h.nb
  unfold flag
  exact if_neg fun e => hne (text_inj (ops_in h.la (by omega) h1) (ops_in h.lb (by omega) h2) e)
theorem flag_one (he : g.xs = g.ys) : flag g = 1 := by
  unfold flag
  rw [he]
  exact if_pos rfl
theorem ins_ext {x y : Ins} (h1 : x.1 = y.1) (h2 : x.2.1 = y.2.1) (h3 : x.2.2 = y.2.2) : x = y := Prod.ext h1 (Prod.ext h2 h3)
theorem rdT (h : g.OK w) (h1 : spec g.xs = 0) (h2 : spec g.ys = 0) (hl : g.xs.length = g.ys.length) {I : Nat → Nat → Prop} (hI : ∀ p i, I p i) : ∀ m i, i + m = g.xs.length → (∀ j, j < i → g.xs[j]? = g.ys[j]?) → Rd caC (aval g) I 2 i (.bool true) := by
  intro m
  induction m with
  | zero =>
    intro i hi hj
    have he : g.xs = g.ys := List.ext_getElem? fun j => by
      by_cases hji : j < i
      · exact hj j hji
      · rw [List.getElem?_eq_none (by omega), List.getElem?_eq_none (by omega)]
    have hf := flag_one he
    refine .ret (c := cac2) rfl (hI _ _) ?_
    show valX cat2 _ = _
    simp only [cat2, valX]
    rw [if_neg (show ¬ aval g i 8 < aval g i 5 by show ¬ (i : Int) < (g.xs.length : Int); omega)]
    simp only [cat2R, valX]
    rw [if_neg (show ¬ aval g i 20 ≤ 0 by show ¬ flag g ≤ 0; omega)]
  | succ m ih =>
    intro i hi hj
    have ex := at_of (d := ((0, 0, 0) : Ins)) (show i < g.xs.length by omega)
    have ey := at_of (d := ((0, 0, 0) : Ins)) (show i < g.ys.length by omega)
    by_cases heq : g.xs.getD i (0, 0, 0) = g.ys.getD i (0, 0, 0)
    · have e : valX cac2.tr (aval g i) = .goto 2 [.sint .i64 9] := by
        show valX cat2 _ = _
        simp only [cat2, valX]
        rw [if_pos (show aval g i 8 < aval g i 5 by show (i : Int) < (g.xs.length : Int); omega)]
        simp only [cat2L, valX]
        rw [if_pos (show aval g i 8 < aval g i 7 by show (i : Int) < (g.ys.length : Int); omega)]
        simp only [aval, opA, aA, bA, heq, Int.lt_irrefl, if_false]
      refine .next (c := cac2) rfl (hI _ _) e (ih (i + 1) (by omega) fun j hj' => ?_)
      by_cases e2 : j = i
      · subst e2
        rw [ex, ey, heq]
      · exact hj j (by omega)
    · have hne : g.xs ≠ g.ys := fun e => heq (by rw [e])
      have hf := flag_zero h h1 h2 hne
      have e : valX cac2.tr (aval g i) = .goto 1 [.sint .i64 9] := by
        show valX cat2 _ = _
        simp only [cat2, valX]
        rw [if_pos (show aval g i 8 < aval g i 5 by show (i : Int) < (g.xs.length : Int); omega)]
        simp only [cat2L, valX]
        rw [if_pos (show aval g i 8 < aval g i 7 by show (i : Int) < (g.ys.length : Int); omega)]
        repeat' split
        all_goals first
          | rfl
          | (exfalso
             rename_i n1 n2 n3 n4 n5 n6
             refine heq (ins_ext ?_ ?_ ?_)
             · show aval g i 10 = aval g i 13; omega
             · show aval g i 11 = aval g i 14; omega
             · show aval g i 12 = aval g i 15; omega)
      exact .next (c := cac2) rfl (hI _ _) e (rdF hf hI m (i + 1) (by omega))
theorem rd0 (h : g.OK w) {I : Nat → Nat → Prop} (hI : ∀ p i, I p i) : Rd caC (aval g) I 0 0 (.bool true) := by
  have hsa := h.sa
  have hsb := h.sb
  have e : valX cac0.tr (aval g 0) = if spec g.xs = 0 then if spec g.ys = 0 then if g.xs.length = g.ys.length then .goto 2 [.int .i64 0] else .goto 1 [.int .i64 0] else .ret (.bool true) else .ret (.bool true) := by
    show valX cat0 _ = _
    simp only [cat0, valX]
    by_cases h1 : spec g.xs = 0
    · rw [if_pos (show aval g 0 16 ≤ 0 by show spec g.xs ≤ 0; omega), if_pos h1]
      simp only [cat0L, valX]
      by_cases h2 : spec g.ys = 0
      · rw [if_pos (show aval g 0 17 ≤ 0 by show spec g.ys ≤ 0; omega), if_pos h2]
        by_cases h3 : g.xs.length = g.ys.length
        · rw [if_neg (show ¬ aval g 0 5 < aval g 0 7 by show ¬ (g.xs.length : Int) < (g.ys.length : Int); omega), if_neg (show ¬ aval g 0 7 < aval g 0 5 by show ¬ (g.ys.length : Int) < (g.xs.length : Int); omega), if_pos h3]
        · rw [if_neg h3]
          by_cases h4 : (g.xs.length : Int) < (g.ys.length : Int)
          · rw [if_pos (show aval g 0 5 < aval g 0 7 from h4)]
          · rw [if_neg (show ¬ aval g 0 5 < aval g 0 7 from h4), if_pos (show aval g 0 7 < aval g 0 5 by show (g.ys.length : Int) < (g.xs.length : Int); omega)]
      · rw [if_neg (show ¬ aval g 0 17 ≤ 0 by show ¬ spec g.ys ≤ 0; omega), if_neg h2]
    · rw [if_neg (show ¬ aval g 0 16 ≤ 0 by show ¬ spec g.xs ≤ 0; omega), if_neg h1]
      rfl
  by_cases h1 : spec g.xs = 0
  · rw [if_pos h1] at e
    by_cases h2 : spec g.ys = 0
    · rw [if_pos h2] at e
      by_cases h3 : g.xs.length = g.ys.length
      · rw [if_pos h3] at e
        exact .zero (c := cac0) rfl (hI _ _) e (rdT h h1 h2 h3 hI g.xs.length 0 (by omega) fun j hj => by omega)
      · rw [if_neg h3] at e
        exact .zero (c := cac0) rfl (hI _ _) e (rdF (flag_zero h h1 h2 fun k => h3 (by rw [k])) hI g.xs.length 0 (by omega))
    · rw [if_neg h2] at e
      exact .ret (c := cac0) rfl (hI _ _) e
  · rw [if_neg h1] at e
    exact .ret (c := cac0) rfl (hI _ _) e
theorem shape : shapeC 3 8 5 9 0 caC = true := by kernel_rfl
theorem aagree (i j : Nat) : agree 8 (arho g i) (arho g j) := fun k hk => by
  match k, hk with
  | 0, _ => exact ⟨rfl, rfl, rfl, rfl, rfl⟩
  | 1, _ => exact ⟨rfl, rfl, rfl, rfl, rfl⟩
  | 2, _ => exact ⟨rfl, rfl, rfl, rfl, rfl⟩
  | 3, _ => exact ⟨rfl, rfl, rfl, rfl, rfl⟩
  | 4, _ => exact ⟨rfl, rfl, rfl, rfl, rfl⟩
  | 5, _ => exact ⟨rfl, rfl, rfl, rfl, rfl⟩
  | 6, _ => exact ⟨rfl, rfl, rfl, rfl, rfl⟩
  | 7, _ => exact ⟨rfl, rfl, rfl, rfl, rfl⟩
theorem lawC (hT : TabsOK tabs w) (h : g.OK w) : Calls Tryd.prog 7 #[.slice g.oa g.la g.ca, .slice g.ob g.lb g.cb] w fun e w' => e = .returned (.bool true) ∧ Below w.heap.size w w' := by
  have hna := h.na
  refine ix_calls (KT := caKT) caauto Tryd.func7 (by kernel_rfl) (args := [.sym 0, .sym 2]) (by kernel_rfl) (c0 := cac0) rfl rfl (by kernel_rfl) rfl rfl (I := fun _ _ => True) (n := g.xs.length) (rho := arho g) shape rfl (fun i => rfl) (fun i => rfl) (fun i hi => rfl)
    (fun p c hp h0 i j => ?_) (fun i hi => aext hT h) (fun p c hp i hi hI => ?_) (fun ρ => rfl) (rd0 h fun _ _ => trivial) (by
      simp only [VRs, VR]
      exact ⟨_, _, rfl, rfl, _, _, rfl, rfl, rfl⟩)
  · match p, hp, h0 with
    | 1, hp, _ => cases hp; exact aagree i j
    | 2, hp, _ => cases hp; exact aagree i j
  · match p, hp with
    | 0, hp => cases hp; exact ⟨aiv0 h (by omega), fun iv fs => aent_ok h⟩
    | 1, hp => cases hp; exact ⟨aiv1 h (by omega), fun iv fs => aloop_ok h⟩
    | 2, hp => cases hp; exact ⟨aiv1 h (by omega), fun iv fs => aloop_ok h⟩
end
end
end Go.Proofs.YtgmdbpmookoafaaDoor.apart
