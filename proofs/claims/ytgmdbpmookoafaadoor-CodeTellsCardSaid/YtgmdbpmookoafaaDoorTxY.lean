/-
  'CodeTells' over known calls: where a code may go on, and its text, are as the document says.
-/
import Derived.Test.YtgmdbpmookoafaaDoorTxQ
import Derived.Test.YtgmdbpmookoafaaDoorTxR
import Derived.Test.YtgmdbpmookoafaaDoorTxD
import Derived.Test.YtgmdbpmookoafaaDoorTxL
namespace Go.Proofs.YtgmdbpmookoafaaDoor.tells
open Go.Ev Go.RowKit Go.Proofs.YtgmdbpmookoafaaDoor.text
set_option linter.unusedVariables false
noncomputable section
def nums0 : List Int := [0, 1, 28, 2, 29, 14, 24, 3, 30, 22, 20, 15, 25, 17, 4, 8, 31, 27, 13, 23, 21, 19, 16, 7, 26, 12, 18, 6, 11, 5, 10, 9]
def nums1 : List Int := [0, 1, 56, 2, 57, 49, 28, 3, 61, 58, 42, 50, 38, 29, 17, 4, 62, 47, 59, 36, 45, 43, 51, 22, 53, 39, 33, 30, 24, 18, 12, 5, 63, 55, 48, 27, 60, 41, 37, 16, 46, 35, 44, 21, 52, 32, 23, 11, 54, 26, 40, 15, 34, 20, 31, 10, 25, 14, 19, 9, 13, 8, 7, 6]
def nums2 : List Int := [1, 10, 100, 1000, 10000, 100000, 1000000, 10000000, 100000000, 1000000000, 10000000000, 100000000000, 1000000000000, 10000000000000, 100000000000000, 1000000000000000, 10000000000000000, 100000000000000000, 1000000000000000000, 10000000000000000000]
noncomputable def tabs : Tabs := [(1, nums0.map fun z => Value.int .u8 z), (2, nums1.map fun z => Value.int .u8 z), (0, nums2.map fun z => Value.int .u64 z)]
/-! ### the chapter's rows -/
namespace rows
instance said : Ext := ⟨fun _ w => TabsOK tabs w⟩
theorem none_known : ∀ f ∈ ([] : List FuncId), ∀ w : World, TabsOK tabs w → Calls Tryd.prog f #[] w fun e w' => e = .returned (.bool true) ∧ Below w.heap.size w w' := by
  intro f hf
  cases hf
theorem ran : Go.Ev.runT Tryd.prog tabs [] 20000 11 = true := by kernel_rfl
theorem works (w : World) (h : TabsOK tabs w) : Calls Tryd.prog 11 #[] w fun e w' => e = .returned (.bool true) ∧ Below w.heap.size w w' :=
  runT_calls (noNG_of noNG) mixed (fun _ _ h => h) none_known ran w h h
end rows
/-! ### the library's Itoa -/
theorem tab_pow {w : World} (h : TabsOK tabs w) : Go.Lib.TabIs Tryd.prog w "internal/strconv.uint64pow10" .u64 Go.Lib.pow10Tab := by
  obtain ⟨c, e, fr, h1, h2⟩ := h 0 (nums2.map fun z => Value.int .u64 z) rfl
  have hg : Tryd.prog.globalNamed "internal/strconv.uint64pow10" = some 0 := by kernel_rfl
  unfold Go.Lib.TabIs World.var?
  simp only [hg, Option.bind_some, h1]
  have e : Go.Lib.pow10Tab = nums2 := by decide
  rw [e, ← h2]
theorem itoaOK {w : World} (h : TabsOK tabs w) : ItoaOK w := fun n hn w' h1 h2 => by
  refine (Tryd.strconv_Itoa n hn.1 hn.2 w' (tab_pow (h.of_old h2))).mono ?_
  rintro e w'' ⟨rfl, k, os, rfl⟩
  exact ⟨rfl, Go.Lib.below_grow _ _ (Nat.le_refl _) k os⟩
/-! ### what the symbols stand for -/
structure Args where
  oa : Option Addr
  ca : Nat
  la : Nat
  B : Nat
  O : Nat
  xs : List Ins
  p : Int
def wval (g : Args) (j : Nat) : Nat → Int
  | 1 => g.la
  | 5 => g.xs.length
  | 6 => g.p
  | 7 => if g.p < g.xs.length then g.p + 1 else 0
  | 8 => (j : Int) - 1
  | 9 => j
  | 10 => opA g.xs (j - 1)
  | 11 => aA g.xs (j - 1)
  | 12 => bA g.xs (j - 1)
  | 13 => opA g.xs g.p.toNat
  | 14 => aA g.xs g.p.toNat
  | 15 => bA g.xs g.p.toNat
  | 19 => (textB g.xs).length
  | _ => 0
def wvv (g : Args) : Nat → Value
  | 0 => .slice g.oa g.la g.ca
  | 4 => .slice g.oa g.xs.length g.ca
  | 18 => .string (bstr (textB g.xs))
  | _ => .bool false
theorem wvv_one {g : Args} (j : Nat) : (wvv g j).oneCell' = true := by
  unfold wvv
  split <;> rfl
def wrho (g : Args) (j : Nat) : Rho :=
  ⟨wval g j, wvv g, fun _ => g.B, fun k => if k = 10 then g.O + (j - 1) * 3 else if k = 13 then g.O + g.p.toNat * 3 else 0, wvv_one, fun _ => [], fun _ _ h => by cases h⟩
structure Args.OK (g : Args) (w : World) : Prop where
  la : Lst w g.oa g.B g.O g.xs
  na : g.xs.length = min g.la 40
  ma : (g.la : Int) ≤ 9223372036854775807
  ka : g.la ≤ g.ca
  hp : I64 g.p
section
variable {w : World} {g : Args} {j : Nat}
theorem lines_len {xs : List Ins} {oa : Option Addr} {B O : Nat} (hL : Lst w oa B O xs) : ∀ m i, (linesFrom xs i m).length ≤ 50 * m
  | 0, _ => Nat.le_refl _
  | m + 1, i => by
    simp only [linesFrom, List.length_append]
    have := lineA_len (i := i) hL
    have := lines_len hL m (i + 1)
    omega
theorem Args.OK.tl (h : g.OK w) : (textB g.xs).length ≤ 4000 := by
  have := lines_len h.la g.xs.length 0
  have hna := h.na
  unfold textB
  omega
theorem wval_fits (h : g.OK w) (hj : j ≤ 42) : ∀ k, I64 (wval g j k) := fun k => by
  obtain ⟨f1, f2, f3⟩ := h.la.fit (j - 1)
  obtain ⟨f4, f5, f6⟩ := h.la.fit g.p.toNat
  have hna := h.na
  have htl := h.tl
  have hp := h.hp
  unfold wval
  split
  · exact i64_n h.ma
  · exact i64_n (by omega)
  · exact hp
  · have := hp.1
    constructor <;> split <;> omega
  · exact ⟨by omega, by omega⟩
  · exact i64_n (by omega)
  · exact f1
  · exact f2
  · exact f3
  · exact f4
  · exact f5
  · exact f6
  · exact i64_n (by omega)
  · exact i64_0
theorem wiv1 (h : g.OK w) (hj : j ≤ 42) : IvOK cwiv1 (wrho g j) := by
  have f := wval_fits h hj
  have hna := h.na
  have htl := h.tl
  exact iv_all (f := wval g j) ⟨f 0, ⟨by show (0 : Int) ≤ (g.la : Int); omega, h.ma⟩, f 2, f 3, f 4, ⟨by show (0 : Int) ≤ (g.xs.length : Int); omega, by show (g.xs.length : Int) ≤ 40; omega⟩, f 6, f 7, ⟨by show -1 ≤ (j : Int) - 1; omega, by show (j : Int) - 1 ≤ 41; omega⟩, ⟨by show 0 ≤ (j : Int); omega, by show (j : Int) ≤ 42; omega⟩,
    f 10, f 11, f 12, f 13, f 14, f 15, f 16, f 17, f 18, ⟨by show (0 : Int) ≤ ((textB g.xs).length : Int); omega, by show ((textB g.xs).length : Int) ≤ 4000; omega⟩, trivial⟩ f
theorem wiv0 (h : g.OK w) (hj : j ≤ 42) : IvOK cwiv0 (wrho g j) := by
  have f := wval_fits h hj
  have hna := h.na
  exact iv_all (f := wval g j) ⟨f 0, ⟨by show (0 : Int) ≤ (g.la : Int); omega, h.ma⟩, f 2, f 3, f 4, ⟨by show (0 : Int) ≤ (g.xs.length : Int); omega, by show (g.xs.length : Int) ≤ 40; omega⟩, f 6, f 7, ⟨by show -1 ≤ (j : Int) - 1; omega, by show (j : Int) - 1 ≤ 41; omega⟩, ⟨by show 0 ≤ (j : Int); omega, by show (j : Int) ≤ 42; omega⟩, trivial⟩ f
theorem fact_min {ρ : Rho} {a b : Nat} {c : Int} (h : ρ.int b = if c < ρ.int a then c else ρ.int a) : FactOK ρ (.fn .min [si a, .int .i64 c] (si b)) :=
  ⟨[.int .i64 (ρ.int a), .int .i64 c], .int .i64 (ρ.int b), rfl, rfl, by show Value.int .i64 (ρ.int b) = _; rw [h]⟩
theorem teF_ok (h : g.OK w) : FsOK teF (wrho g j) := by
  have hna := h.na
  have hka := h.ka
  refine fs_cons (fact_len rfl rfl) (fs_cons (fact_min ?_) (fs_cons ?_ (fs_cons (fact_len rfl rfl) (fs_cons (fact_slen (l := textB g.xs) rfl rfl) fs_nil))))
  · show (g.xs.length : Int) = if (40 : Int) < (g.la : Int) then 40 else (g.la : Int)
    split <;> omega
  · exact fact_cut (a := g.oa) (l := g.la) (c := g.ca) (m := g.xs.length) (k := .i64) rfl rfl (by omega) rfl
theorem went_ok (h : g.OK w) {iv : Ivs} {fs : List Fact} (h1 : IvOK iv (wrho g j)) (h2 : FsOK fs (wrho g j)) (φ : Phi) (hφ : φ.ρ = wrho g j) : EnvP (Went iv fs) φ w :=
  ⟨by rw [hφ]; exact h1, by rw [hφ]; exact fs_app h2 (teF_ok h), fun k cs h => by cases h⟩
theorem hasLssW {fs : List Fact} {a b : Nat} {ρ : Rho} (w : World) (h : hasLss fs a b = true) (k : FsOK fs ρ) : ρ.int a < ρ.int b := by
  unfold hasLss at h
  rw [List.any_eq_true] at h
  obtain ⟨f, hf, hh⟩ := h
  split at hh
  · rename_i k1 x k2 y
    simp only [Bool.and_eq_true] at hh
    have e1 := Nat.eq_of_beq_eq_true hh.1
    have e2 := Nat.eq_of_beq_eq_true hh.2
    subst e1 e2
    exact lss_of Tryd.prog w (k _ hf)
  · cases hh
theorem teIn_ok {iv : Ivs} {fs : List Fact} {a : Nat} (w : World) (h1 : IvOK iv (wrho g j)) (h2 : FsOK fs (wrho g j)) (h : teIn iv fs a = true) : 0 ≤ wval g j a ∧ wval g j a < (g.xs.length : Int) := by
  unfold teIn at h
  split at h
  · rename_i hl
    have := hasLssW w hl h2
    have k := (h1 a).1
    have := of_decide_eq_true h
    exact ⟨Int.le_trans this k, hasLssW w hl h2⟩
  · cases h
theorem wloop_ok (h : g.OK w) (hj : j ≤ 42) {iv : Ivs} {fs : List Fact} (h1 : IvOK iv (wrho g j)) (h2 : FsOK fs (wrho g j)) (φ : Phi) (hφ : φ.ρ = wrho g j) : EnvP (Wloop iv fs) φ w := by
  have hna := h.na
  have v : ∀ k, VR φ (sv iv .i64 k) (.int .i64 (wval g j k)) := fun k => by have := VR_sv (φ := φ) (iv := iv) (by rw [hφ]; exact h1) .i64 k; rw [hφ] at this; exact this
  unfold Wloop
  split
  · rename_i ha
    obtain ⟨k0, k1⟩ := teIn_ok w h1 h2 ha
    have k0 : 0 ≤ (j : Int) - 1 := k0
    have k1 : (j : Int) - 1 < (g.xs.length : Int) := k1
    obtain ⟨g1, g2, g3, g4, g5⟩ := h.la.cells (j - 1) _ (at_of (d := (0, 0, 0)) (by omega))
    refine ⟨by rw [hφ]; exact h1, by
      rw [hφ]
      refine fs_app h2 (fs_app (teF_ok h) (fs_cons ?_ (fs_cons ?_ fs_nil)))
      · refine fact_at (n := j - 1) (B := g.B) (O := g.O) (l := g.xs.length) (c := g.ca) ?_ ?_ (by omega) rfl rfl
        · show some (Value.slice g.oa g.xs.length g.ca) = _
          rw [g1]
        · show (j : Int) - 1 = ((j - 1 : Nat) : Int)
          omega
      · exact fact_add (show (j : Int) = (j : Int) - 1 + 1 by omega) (show -9223372036854775808 ≤ (j : Int) by omega) (show (j : Int) ≤ 9223372036854775807 by omega), fun k cs hk => ?_⟩
    simp only at hk
    split at hk
    · rename_i hb
      have := Nat.eq_of_beq_eq_true hb
      subst this
      cases hk
      have eb : φ.ρ.blk 10 = g.B := by rw [hφ]; rfl
      have eo : φ.ρ.off 10 = g.O + (j - 1) * 3 := by rw [hφ]; rfl
      rw [eb, eo]
      refine ⟨g2, fun j x hx => ?_⟩
      match j with
      | 0 => cases hx; exact ⟨_, g3, v 10⟩
      | 1 => cases hx; exact ⟨_, g4, v 11⟩
      | 2 => cases hx; exact ⟨_, g5, v 12⟩
      | j + 3 => simp at hx
    · cases hk
  · rename_i ha
    obtain ⟨k0, k1⟩ := teIn_ok w h1 h2 ha
    have k0 : 0 ≤ g.p := k0
    have k1 : g.p < (g.xs.length : Int) := k1
    obtain ⟨g1, g2, g3, g4, g5⟩ := h.la.cells g.p.toNat _ (at_of (d := (0, 0, 0)) (by omega))
    have e7 : wval g j 7 = g.p + 1 := if_pos k1
    refine ⟨by rw [hφ]; exact h1, by
      rw [hφ]
      refine fs_app h2 (fs_app (teF_ok h) (fs_cons ?_ (fs_cons ?_ fs_nil)))
      · refine fact_at (n := g.p.toNat) (B := g.B) (O := g.O) (l := g.xs.length) (c := g.ca) ?_ ?_ (by omega) rfl rfl
        · show some (Value.slice g.oa g.xs.length g.ca) = _
          rw [g1]
        · show g.p = ((g.p.toNat : Nat) : Int)
          omega
      · exact fact_add (show wval g j 7 = g.p + 1 from e7) (show -9223372036854775808 ≤ wval g j 7 by rw [e7]; omega) (show wval g j 7 ≤ 9223372036854775807 by rw [e7]; omega), fun k cs hk => ?_⟩
    simp only at hk
    split at hk
    · rename_i hb
      have := Nat.eq_of_beq_eq_true hb
      subst this
      cases hk
      have eb : φ.ρ.blk 13 = g.B := by rw [hφ]; rfl
      have eo : φ.ρ.off 13 = g.O + g.p.toNat * 3 := by rw [hφ]; rfl
      rw [eb, eo]
      refine ⟨g2, fun j x hx => ?_⟩
      match j with
      | 0 => cases hx; exact ⟨_, g3, v 13⟩
      | 1 => cases hx; exact ⟨_, g4, v 14⟩
      | 2 => cases hx; exact ⟨_, g5, v 15⟩
      | j + 3 => simp at hx
    · cases hk
  · refine ⟨by rw [hφ]; exact h1, by
      rw [hφ]
      refine fs_app h2 (fs_app (teF_ok h) (fs_cons ?_ fs_nil))
      exact fact_add (show (j : Int) = (j : Int) - 1 + 1 by omega) (show -9223372036854775808 ≤ (j : Int) by omega) (show (j : Int) ≤ 9223372036854775807 by omega), fun k cs h => by cases h⟩
/-! ### what is said of the calls -/
theorem wext (hT : TabsOK tabs w) (h : g.OK w) : ∀ e ∈ cwKT, KEok Tryd.prog (wrho g j) w e := by
  have hna := h.na
  intro e he
  simp only [cwKT, List.mem_cons, List.not_mem_nil, or_false] at he
  rcases he with rfl | rfl | rfl
  · intro φ vs w' hφ h1 h2 hv _
    simp only [VRs] at hv
    subst hv
    refine (rows.works w' (hT.of_old h2)).mono ?_
    rintro en w'' ⟨rfl, hb⟩
    exact ⟨_, rfl, by simp only [VR], hb⟩
  · intro φ vs w' hφ h1 h2 hv _
    simp only [VRs, VR, hφ] at hv
    obtain ⟨_, _, rfl, rfl, rfl⟩ := hv
    refine (textC (cap := g.ca) (itoaOK (hT.of_old h2)) (h.la.later h1 h2) (by omega)).mono ?_
    rintro en w'' ⟨rfl, hb⟩
    exact ⟨_, rfl, by simp only [VR, hφ]; rfl, hb⟩
  · intro φ vs w' hφ h1 h2 hv _
    simp only [VRs, VR, hφ] at hv
    obtain ⟨_, _, rfl, rfl, rfl⟩ := hv
    refine (textR (cap := g.ca) (digitsOK w') (h.la.later h1 h2) (by omega)).mono ?_
    rintro en w'' ⟨rfl, hb⟩
    exact ⟨_, rfl, by simp only [VR, hφ]; rfl, hb⟩
theorem wagree (i j : Nat) : agree 8 (wrho g i) (wrho g j) := fun k hk => by
  match k, hk with
  | 0, _ => exact ⟨rfl, rfl, rfl, rfl, rfl⟩
  | 1, _ => exact ⟨rfl, rfl, rfl, rfl, rfl⟩
  | 2, _ => exact ⟨rfl, rfl, rfl, rfl, rfl⟩
  | 3, _ => exact ⟨rfl, rfl, rfl, rfl, rfl⟩
  | 4, _ => exact ⟨rfl, rfl, rfl, rfl, rfl⟩
  | 5, _ => exact ⟨rfl, rfl, rfl, rfl, rfl⟩
  | 6, _ => exact ⟨rfl, rfl, rfl, rfl, rfl⟩
  | 7, _ => exact ⟨rfl, rfl, rfl, rfl, rfl⟩
/-! ### the paths -/
theorem leafL (v : Nat → Int) : valX cwt1L v = .ret (.bool true) := by
  simp only [cwt1L, valX]
  repeat' split
  all_goals first | rfl | (exfalso; omega)
theorem leafN (v : Nat → Int) : valX cwt1R v = .goto 1 [.sint .i64 9] := by
  simp only [cwt1R, valX]
  repeat' split
  all_goals first | rfl | (exfalso; omega)
theorem ok1W (hT : TabsOK tabs w) (h : g.OK w) (hj : j ≤ 42) : @CutP.OK (extKT Tryd.prog cwKT) cwc1 w (wrho g j) := by
  letI : Ext := extKT Tryd.prog cwKT
  exact CutP.ok_of (wext hT h) (wiv1 h hj) fun iv fs => wloop_ok h hj
theorem run1W (hT : TabsOK tabs w) (h : g.OK w) : ∀ m j, j + m = g.xs.length + 2 → ∃ k, @Runs (extKT Tryd.prog cwKT) cwC w (.bool true) k 1 (wrho g j) := by
  letI : Ext := extKT Tryd.prog cwKT
  have hna := h.na
  intro m
  induction m with
  | zero =>
    intro j hj
    refine run_ret (c := cwc1) (r := .bool true) rfl (ok1W hT h (by omega)) ?_ rfl
    show valX cwt1 _ = _
    simp only [cwt1, valX]
    rw [if_pos (show (wrho g j).int 5 < (wrho g j).int 8 by show (g.xs.length : Int) < (j : Int) - 1; omega)]
    exact leafL _
  | succ m ih =>
    intro j hj
    refine run_step (c := cwc1) (d := cwc1) rfl (ok1W hT h (by omega)) (q := 1) (xs := [.sint .i64 9]) ?_ rfl (wagree j (j + 1)) ?_ (ih (j + 1) (by omega))
    · show valX cwt1 _ = _
      simp only [cwt1, valX]
      rw [if_neg (show ¬ (wrho g j).int 5 < (wrho g j).int 8 by show ¬ (g.xs.length : Int) < (j : Int) - 1; omega)]
      exact leafN _
    · have e : cwc1.ys = [.sint .i64 8] := rfl
      rw [e]
      refine ⟨⟨.int .i64 (j : Int), rfl, ?_⟩, trivial⟩
      show some (Value.int .i64 (((j + 1 : Nat) : Int) - 1)) = _
      congr 2
      omega
theorem lawW (hT : TabsOK tabs w) (h : g.OK w) : Calls Tryd.prog 4 #[.slice g.oa g.la g.ca, .int .i64 g.p] w fun e w' => e = .returned (.bool true) ∧ Below w.heap.size w w' := by
  letI : Ext := extKT Tryd.prog cwKT
  have h0 : ∃ k, Runs cwC w (.bool true) k 0 (wrho g 0) := by
    refine run_step (c := cwc0) (d := cwc1) rfl (CutP.ok_of (wext hT h) (wiv0 h (by omega)) fun iv fs => went_ok h) (q := 1) (xs := [.int .i64 (-1)]) rfl rfl (wagree 0 0) ?_ (run1W hT h (g.xs.length + 2) 0 (by omega))
    have e : cwc1.ys = [.sint .i64 8] := rfl
    rw [e]
    exact ⟨⟨_, rfl, rfl⟩, trivial⟩
  obtain ⟨k, hk⟩ := h0
  exact auto_calls cwauto Tryd.func4 (by kernel_rfl) (args := [.sym 0, .sint .i64 6]) (by kernel_rfl) (c := cwc0) rfl rfl (by kernel_rfl) rfl rfl (fun r b h => by cases h) (by
    simp only [VRs, VR]
    exact ⟨_, _, rfl, rfl, _, _, rfl, rfl, rfl⟩) hk
end
end
end Go.Proofs.YtgmdbpmookoafaaDoor.tells
