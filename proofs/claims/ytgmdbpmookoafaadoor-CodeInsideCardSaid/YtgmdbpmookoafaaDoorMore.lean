/-
  'CodeMore': of any code (its first forty instructions), of any number of targets, any length: what may be for fewer may be for more, and a beginning that no jump leaves may be, too. The condition: the listed tables hold what the row lists (the chapter's rows, that each statement asks, look into them); the card ties that to the program's text.
-/
import Derived.Test.YtgmdbpmookoafaaDoorSpecs
import Derived.Test.YtgmdbpmookoafaaDoorTie
import Derived.Test.YtgmdbpmookoafaaDoorCards
import Derived.WalkKit
import Derived.ProofKit
import Derived.OpenShut
import Derived.Carry
import Derived.Deep.Slices
import Derived.Lay
import Derived.MakeChecks
import Derived.SevenTiedAt
namespace Go.Proofs.YtgmdbpmookoafaaDoor.more
open Go.ChangeShapes Go.WideShapes Go.ChangeAt Go.RowKit
set_option linter.unusedVariables false
theorem own : ownKnob Tryd.prog.godebug = none := by kernel_rfl
def nums0 : List Int := [0, 1, 28, 2, 29, 14, 24, 3, 30, 22, 20, 15, 25, 17, 4, 8, 31, 27, 13, 23, 21, 19, 16, 7, 26, 12, 18, 6, 11, 5, 10, 9]
def nums1 : List Int := [0, 1, 56, 2, 57, 49, 28, 3, 61, 58, 42, 50, 38, 29, 17, 4, 62, 47, 59, 36, 45, 43, 51, 22, 53, 39, 33, 30, 24, 18, 12, 5, 63, 55, 48, 27, 60, 41, 37, 16, 46, 35, 44, 21, 52, 32, 23, 11, 54, 26, 40, 15, 34, 20, 31, 10, 25, 14, 19, 9, 13, 8, 7, 6]
def nums2 : List Int := [1, 10, 100, 1000, 10000, 100000, 1000000, 10000000, 100000000, 1000000000, 10000000000, 100000000000, 1000000000000, 10000000000000, 100000000000000, 1000000000000000, 10000000000000000, 100000000000000000, 1000000000000000000, 10000000000000000000]
noncomputable def tabs : Go.Ev.Tabs := [(1, nums0.map fun z => Value.int .u8 z), (2, nums1.map fun z => Value.int .u8 z), (0, nums2.map fun z => Value.int .u64 z)]
/-! ### the chapter's rows -/
namespace rows
instance said : Go.Ev.Ext := ⟨fun _ w => Go.Ev.TabsOK tabs w⟩
theorem none_known : ∀ f ∈ ([] : List FuncId), ∀ w : World, Go.Ev.TabsOK tabs w → Calls Tryd.prog f #[] w fun e w' => e = .returned (.bool true) ∧ Below w.heap.size w w' := by
  intro f hf
  cases hf
theorem ran : Go.Ev.runT Tryd.prog tabs [] 20000 11 = true := by kernel_rfl
theorem works (w : World) (h : Go.Ev.TabsOK tabs w) : Calls Tryd.prog 11 #[] w fun e w' => e = .returned (.bool true) ∧ Below w.heap.size w w' :=
  Go.Ev.runT_calls (Go.Ev.noNG_of noNG) mixed (fun _ _ h => h) none_known ran w h h
end rows
/-! ### the statement's function -/
def args6 : List Go.Ev.VV := [.sym 0, .sint .u8 0, .sint .u8 1]
def ivA : Go.Ev.Ivs := [(0, 255), (0, 255), (0, 40), (0, 40), (1, 40), (0, 85), (0, 1000), (2, 41), (0, 2), (0, 40)]
def ivB : Go.Ev.Ivs := [(0, 255), (0, 255), (41, 9223372036854775807), (0, 40), (1, 40), (0, 85), (0, 1000), (2, 41), (0, 2), (0, 40)]
def ivA1 : Go.Ev.Ivs := [(0, 255), (0, 255), (0, 40), (0, 40), (0, 40), (0, 85), (1, 1000), (1, 41), (0, 2), (0, 40)]
def ivB1 : Go.Ev.Ivs := [(0, 255), (0, 255), (41, 9223372036854775807), (0, 40), (0, 40), (0, 85), (1, 1000), (1, 41), (0, 2), (0, 40)]
def ivZ : Go.Ev.Ivs := [(0, 255), (0, 255), (0, 0), (0, 40), (0, 0), (0, 85), (0, 1000), (1, 1), (0, 2), (0, 40)]
def ivLB : Go.Ev.Ivs := [(0, 255), (0, 255), (0, 9223372036854775807), (0, 40), (1, 40), (0, 85), (0, 1000), (2, 41), (0, 2), (0, 40), (-9223372036854775808, 9223372036854775807), (-9223372036854775808, 9223372036854775807), (-9223372036854775808, 9223372036854775807), (0, 39), (1, 40)]
def ivE : Go.Ev.Ivs := [(0, 255), (0, 255), (0, 9223372036854775807), (0, 40), (1, 40), (0, 85), (0, 1000), (2, 41), (0, 2), (0, 40), (-9223372036854775808, 9223372036854775807), (-9223372036854775808, 9223372036854775807), (-9223372036854775808, 9223372036854775807), (0, 40)]
def factsL (T C : Nat) (hi : Go.Ev.VV) : List Go.Ev.Fact := [.len false (.sym 0) (.sint .i64 2), .cut 3 (.sym 0) none (some hi) (.sym 1), .len false (.sym 1) (.sint .i64 4), .bin .rem (.sint .u8 0) (.int .u8 3) (.int .u8 (T : Int)), .bin .quo (.sint .u8 0) (.int .u8 3) (.sint .u8 5), .bin .rem (.sint .u8 5) (.int .u8 41) (.int .u8 (C : Int)), .bin .add (.sint .i64 4) (.int .i64 1) (.sint .i64 7), .bin .rem (.sint .i64 1) (.sint .i64 7) (.sint .i64 3)]
def EP (iv : Go.Ev.Ivs) (T C : Nat) (hi : Go.Ev.VV) (more : List Go.Ev.Fact) : Go.Ev.Env := ⟨fun _ => none, Go.Ev.ivAt iv, factsL T C hi ++ more, fun _ => none⟩
def factsB : List Go.Ev.Fact := [.at 3 (.sym 1) (.sint .i64 13) ⟨.sym 10, 0⟩, .bin .lss (.sint .i64 13) (.sint .i64 3) (.bool true), .bin .add (.sint .i64 13) (.int .i64 1) (.sint .i64 14)]
def ELB (iv : Go.Ev.Ivs) (fs : List Go.Ev.Fact) : Go.Ev.Env := ⟨fun _ => none, Go.Ev.ivAt iv, fs ++ factsB, fun i => match Nat.beq i 10 with | true => some [Go.Ev.sv iv .i64 10, Go.Ev.sv iv .i64 11, Go.Ev.sv iv .i64 12] | false => none⟩
def factsE : List Go.Ev.Fact := [.bin .lss (.sint .i64 13) (.sint .i64 3) (.bool false), .cut 3 (.sym 1) none (some (.sint .i64 3)) (.sym 15)]
def EE : Go.Ev.Env := ⟨fun _ => none, Go.Ev.ivAt ivE, factsE, fun _ => none⟩
def zeroF : List Go.Ev.Fact := [.cut 3 (.sym 1) none (some (.int .i64 0)) (.sym 15)]
def call (u d : Nat) : Go.Ev.KE := ⟨9, [.sym 1, .int .i64 (u : Int), .int .i64 (d : Int)], [], .int .i64 0⟩
def kts (C u : Nat) : Nat → List Go.Ev.KE
  | 0 => []
  | j + 1 => match Nat.ble (C + 7 * j) 40 with
    | true => call u (C + 7 * j) :: kts C u j
    | false => kts C u j
def upto (T u : Nat) (l : List Go.Ev.KE) : List Go.Ev.KE := match Nat.ble T u with
  | true => l
  | false => []
def KT (T C : Nat) : List Go.Ev.KE := ⟨11, [], [], .bool true⟩ :: ⟨9, [.sym 15, .sint .i64 8, .sint .i64 9], [], .int .i64 0⟩ :: ⟨9, [.sym 15, .int .i64 (T : Int), .int .i64 (C : Int)], [], .int .i64 0⟩ :: (upto T 0 (kts C 0 6) ++ (upto T 1 (kts C 1 6) ++ upto T 2 (kts C 2 6)))
def KT1 (T C : Nat) : List Go.Ev.KE := [⟨11, [], [], .bool true⟩, ⟨9, [.sym 1, .int .i64 (T : Int), .int .i64 (C : Int)], [], .sint .i64 6⟩]
noncomputable def aL : Go.Ev.VT := (.nd (.nd (.nd (.nd (.nd (.nd (.nd .lf (some .any) .lf) (some .any) .lf) (some .any) (.nd (.nd .lf (some .any) .lf) (some .any) .lf)) (some .any) (.nd (.nd (.nd .lf (some .any) .lf) (some .any) .lf) (some .any) (.nd (.nd .lf (some .any) .lf) (some .any) .lf))) (some .any) (.nd (.nd (.nd (.nd .lf (some .any) .lf) (some .any) .lf) (some .any) (.nd (.nd .lf (some .any) .lf) (some .any) .lf)) (some (.sint .i64 3)) (.nd (.nd (.nd .lf (some .any) .lf) (some .any) .lf) (some .any) (.nd .lf (some .any) .lf)))) (some .any) (.nd (.nd (.nd (.nd (.nd .lf (some .any) .lf) (some .any) .lf) (some .any) (.nd (.nd .lf (some .any) .lf) (some .any) .lf)) (some .any) (.nd (.nd (.nd .lf (some .any) .lf) (some .any) .lf) (some .any) (.nd (.nd .lf (some .any) .lf) (some .any) .lf))) (some .any) (.nd (.nd (.nd (.nd .lf (some .any) .lf) (some .any) .lf) (some .any) (.nd (.nd .lf (some .any) .lf) (some .any) .lf)) (some .any) (.nd (.nd (.nd .lf (some .any) .lf) (some .any) .lf) (some .any) (.nd .lf (some .any) .lf))))) (some (.sym 1)) (.nd (.nd (.nd (.nd (.nd (.nd .lf (some .any) .lf) (some .any) .lf) (some .any) (.nd (.nd .lf (some .any) .lf) (some .any) .lf)) (some .any) (.nd (.nd (.nd .lf (some .any) .lf) (some .any) .lf) (some .any) (.nd (.nd .lf (some .any) .lf) (some .any) .lf))) (some .any) (.nd (.nd (.nd (.nd .lf (some .any) .lf) (some .any) .lf) (some .any) (.nd (.nd .lf (some .any) .lf) (some .any) .lf)) (some .any) (.nd (.nd (.nd .lf (some .any) .lf) (some .any) .lf) (some .any) (.nd .lf (some .any) .lf)))) (some .any) (.nd (.nd (.nd (.nd (.nd .lf (some .any) .lf) (some .any) .lf) (some .any) (.nd (.nd .lf (some .any) .lf) (some .any) .lf)) (some .any) (.nd (.nd (.nd .lf (some .any) .lf) (some .any) .lf) (some .any) (.nd (.nd .lf (some .any) .lf) (some .any) .lf))) (some (.bool false)) (.nd (.nd (.nd (.nd .lf (some .any) .lf) (some .any) .lf) (some .any) (.nd (.nd .lf (some .any) .lf) (some .any) .lf)) (some .any) (.nd (.nd (.nd .lf (some .any) .lf) (some .any) .lf) (some .any) (.nd .lf (some .any) .lf))))))
noncomputable def lL : Go.Ev.TT Go.Ev.VO := .lf
noncomputable def bL : Code := match Tryd.f6.body with
  | some c => c
  | none => .skip
noncomputable def sideL : Go.Ev.Side := ⟨Tryd.f6.ntmps, Go.Ev.loopAt bL 8 1, aL, lL, 0, [(7, .i64, 8, 8), (8, .i64, 9, 9), (12, .i64, 13, 14)], Tryd.f6.results.toList, .bool true⟩
noncomputable def outL (T C : Nat) (iv : Go.Ev.Ivs) (fs : List Go.Ev.Fact) : Option Bool := sideL.out Tryd.prog (Go.Ev.rcKT Tryd.prog (KT T C) 20000) 10 (ELB iv fs)
/-- All that is run, at one number of targets, one of cards. -/
structure Ok (T C : Nat) : Prop where
  a1 : Go.Ev.trueB Tryd.prog (KT1 T C) 20000 6 args6 (EP ivA1 T C (.sint .i64 2) []) = true
  b1 : Go.Ev.trueB Tryd.prog (KT1 T C) 20000 6 args6 (EP ivB1 T C (.int .i64 40) []) = true
  z : Go.Ev.trueB Tryd.prog (KT T C) 20000 6 args6 (EP ivZ T C (.sint .i64 2) zeroF) = true
  preA : Go.Ev.preB3 (Go.Ev.rcKT Tryd.prog (KT T C) 20000) 10 sideL bL 8 1 (Go.Ev.listT args6 0 .lf) (EP ivA T C (.sint .i64 2) []) [(T : Int), (C : Int), 0] = true
  preB : Go.Ev.preB3 (Go.Ev.rcKT Tryd.prog (KT T C) 20000) 10 sideL bL 8 1 (Go.Ev.listT args6 0 .lf) (EP ivB T C (.int .i64 40) []) [(T : Int), (C : Int), 0] = true
  fin : Go.Ev.endB Tryd.prog (Go.Ev.rcKT Tryd.prog (KT T C) 20000) sideL bL 8 4 EE (.bool true) = true
  body : Go.Ev.chkB (outL T C) AL ivLB [] = true
noncomputable def okB (T C : Nat) : Bool := match Go.Ev.trueB Tryd.prog (KT1 T C) 20000 6 args6 (EP ivA1 T C (.sint .i64 2) []), Go.Ev.trueB Tryd.prog (KT1 T C) 20000 6 args6 (EP ivB1 T C (.int .i64 40) []), Go.Ev.trueB Tryd.prog (KT T C) 20000 6 args6 (EP ivZ T C (.sint .i64 2) zeroF),
    Go.Ev.preB3 (Go.Ev.rcKT Tryd.prog (KT T C) 20000) 10 sideL bL 8 1 (Go.Ev.listT args6 0 .lf) (EP ivA T C (.sint .i64 2) []) [(T : Int), (C : Int), 0], Go.Ev.preB3 (Go.Ev.rcKT Tryd.prog (KT T C) 20000) 10 sideL bL 8 1 (Go.Ev.listT args6 0 .lf) (EP ivB T C (.int .i64 40) []) [(T : Int), (C : Int), 0],
    Go.Ev.endB Tryd.prog (Go.Ev.rcKT Tryd.prog (KT T C) 20000) sideL bL 8 4 EE (.bool true) with
  | true, true, true, true, true, true => Go.Ev.chkB (outL T C) AL ivLB []
  | _, _, _, _, _, _ => false
theorem okB_ok {T C : Nat} (h : okB T C = true) : Ok T C := by
  unfold okB at h
  split at h
  · rename_i h1 h2 h3 h4 h5 h6
    exact ⟨h1, h2, h3, h4, h5, h6, h⟩
  · cases h
def rng (p : Nat → Bool) : Nat → Nat → Bool
  | _, 0 => true
  | C, n + 1 => match p C with
    | true => rng p (C + 1) n
    | false => false
theorem rng_ok {p : Nat → Bool} : ∀ {n C : Nat}, rng p C n = true → ∀ c, C ≤ c → c < C + n → p c = true
  | 0, C, _, c, h1, h2 => by omega
  | n + 1, C, h, c, h1, h2 => by
    simp only [rng] at h
    split at h
    · rename_i hb
      by_cases hc : c = C
      · rw [hc]; exact hb
      · exact rng_ok h c (by omega) (by omega)
    · cases h
theorem ran_0_0 : rng (okB 0) 0 7 = true := by kernel_rfl
theorem ran_0_7 : rng (okB 0) 7 7 = true := by kernel_rfl
theorem ran_0_14 : rng (okB 0) 14 7 = true := by kernel_rfl
theorem ran_0_21 : rng (okB 0) 21 7 = true := by kernel_rfl
theorem ran_0_28 : rng (okB 0) 28 7 = true := by kernel_rfl
theorem ran_0_35 : rng (okB 0) 35 6 = true := by kernel_rfl
theorem ran_1_0 : rng (okB 1) 0 7 = true := by kernel_rfl
theorem ran_1_7 : rng (okB 1) 7 7 = true := by kernel_rfl
theorem ran_1_14 : rng (okB 1) 14 7 = true := by kernel_rfl
theorem ran_1_21 : rng (okB 1) 21 7 = true := by kernel_rfl
theorem ran_1_28 : rng (okB 1) 28 7 = true := by kernel_rfl
theorem ran_1_35 : rng (okB 1) 35 6 = true := by kernel_rfl
theorem ran_2_0 : rng (okB 2) 0 7 = true := by kernel_rfl
theorem ran_2_7 : rng (okB 2) 7 7 = true := by kernel_rfl
theorem ran_2_14 : rng (okB 2) 14 7 = true := by kernel_rfl
theorem ran_2_21 : rng (okB 2) 21 7 = true := by kernel_rfl
theorem ran_2_28 : rng (okB 2) 28 7 = true := by kernel_rfl
theorem ran_2_35 : rng (okB 2) 35 6 = true := by kernel_rfl
theorem allOk {T C : Nat} (hT : T < 3) (hC : C < 41) : Ok T C := by
  rcases (show T = 0 ∨ T = 1 ∨ T = 2 by omega) with rfl | rfl | rfl
  · rcases (show (0 ≤ C ∧ C < 7) ∨ (7 ≤ C ∧ C < 14) ∨ (14 ≤ C ∧ C < 21) ∨ (21 ≤ C ∧ C < 28) ∨ (28 ≤ C ∧ C < 35) ∨ (35 ≤ C ∧ C < 41) by omega) with h | h | h | h | h | h
    · exact okB_ok (rng_ok ran_0_0 C h.1 h.2)
    · exact okB_ok (rng_ok ran_0_7 C h.1 h.2)
    · exact okB_ok (rng_ok ran_0_14 C h.1 h.2)
    · exact okB_ok (rng_ok ran_0_21 C h.1 h.2)
    · exact okB_ok (rng_ok ran_0_28 C h.1 h.2)
    · exact okB_ok (rng_ok ran_0_35 C h.1 h.2)
  · rcases (show (0 ≤ C ∧ C < 7) ∨ (7 ≤ C ∧ C < 14) ∨ (14 ≤ C ∧ C < 21) ∨ (21 ≤ C ∧ C < 28) ∨ (28 ≤ C ∧ C < 35) ∨ (35 ≤ C ∧ C < 41) by omega) with h | h | h | h | h | h
    · exact okB_ok (rng_ok ran_1_0 C h.1 h.2)
    · exact okB_ok (rng_ok ran_1_7 C h.1 h.2)
    · exact okB_ok (rng_ok ran_1_14 C h.1 h.2)
    · exact okB_ok (rng_ok ran_1_21 C h.1 h.2)
    · exact okB_ok (rng_ok ran_1_28 C h.1 h.2)
    · exact okB_ok (rng_ok ran_1_35 C h.1 h.2)
  · rcases (show (0 ≤ C ∧ C < 7) ∨ (7 ≤ C ∧ C < 14) ∨ (14 ≤ C ∧ C < 21) ∨ (21 ≤ C ∧ C < 28) ∨ (28 ≤ C ∧ C < 35) ∨ (35 ≤ C ∧ C < 41) by omega) with h | h | h | h | h | h
    · exact okB_ok (rng_ok ran_2_0 C h.1 h.2)
    · exact okB_ok (rng_ok ran_2_7 C h.1 h.2)
    · exact okB_ok (rng_ok ran_2_14 C h.1 h.2)
    · exact okB_ok (rng_ok ran_2_21 C h.1 h.2)
    · exact okB_ok (rng_ok ran_2_28 C h.1 h.2)
    · exact okB_ok (rng_ok ran_2_35 C h.1 h.2)
theorem kts_mem {C u : Nat} : ∀ {n : Nat} {e : Go.Ev.KE}, e ∈ kts C u n → ∃ d, C ≤ d ∧ d ≤ 40 ∧ e = call u d
  | 0, e, h => by cases h
  | n + 1, e, h => by
    simp only [kts] at h
    split at h
    · rename_i hb
      rcases List.mem_cons.1 h with rfl | h
      · exact ⟨C + 7 * n, by omega, Nat.le_of_ble_eq_true hb, rfl⟩
      · exact kts_mem h
    · exact kts_mem h
theorem upto_mem {T u C : Nat} {n : Nat} {e : Go.Ev.KE} (h : e ∈ upto T u (kts C u n)) : T ≤ u ∧ ∃ d, C ≤ d ∧ d ≤ 40 ∧ e = call u d := by
  unfold upto at h
  split at h
  · rename_i hb; exact ⟨Nat.le_of_ble_eq_true hb, kts_mem h⟩
  · cases h
theorem KT_mem {T C : Nat} {e : Go.Ev.KE} (h : e ∈ KT T C) : e = ⟨11, [], [], .bool true⟩ ∨ e = ⟨9, [.sym 15, .sint .i64 8, .sint .i64 9], [], .int .i64 0⟩ ∨ e = ⟨9, [.sym 15, .int .i64 (T : Int), .int .i64 (C : Int)], [], .int .i64 0⟩ ∨ ∃ u d, T ≤ u ∧ u ≤ 2 ∧ C ≤ d ∧ d ≤ 40 ∧ e = call u d := by
  simp only [KT, List.mem_cons, List.mem_append] at h
  rcases h with h | h | h | h | h | h
  · exact .inl h
  · exact .inr (.inl h)
  · exact .inr (.inr (.inl h))
  · obtain ⟨g1, d, g2, g3, g4⟩ := upto_mem h
    exact .inr (.inr (.inr ⟨0, d, g1, by omega, g2, g3, g4⟩))
  · obtain ⟨g1, d, g2, g3, g4⟩ := upto_mem h
    exact .inr (.inr (.inr ⟨1, d, g1, by omega, g2, g3, g4⟩))
  · obtain ⟨g1, d, g2, g3, g4⟩ := upto_mem h
    exact .inr (.inr (.inr ⟨2, d, g1, by omega, g2, g3, g4⟩))
/-- What the symbols stand for. -/
def lv (a b n k m : Nat) (s : Int) (xs : List Ins) (i : Nat) : Nat → Int
  | 0 => a
  | 1 => b
  | 2 => n
  | 3 => k
  | 4 => m
  | 5 => (a / 3 : Nat)
  | 6 => s
  | 7 => (m : Int) + 1
  | 8 => (a % 3 : Nat)
  | 9 => (a / 3 % 41 : Nat)
  | 10 => (xs.getD i (0, 0, 0)).1
  | 11 => (xs.getD i (0, 0, 0)).2.1
  | 12 => (xs.getD i (0, 0, 0)).2.2
  | 13 => i
  | 14 => (i : Int) + 1
  | _ => 0
def sl15 (oa : Option Addr) (cap n m k i : Nat) : Nat → Value
  | 0 => .slice oa n cap
  | 15 => .slice oa (if i = k then k else 0) cap
  | _ => .slice oa m cap
theorem sl15_one {oa : Option Addr} {cap n m k i : Nat} (j : Nat) : (sl15 oa cap n m k i j).oneCell' = true := by
  unfold sl15
  split <;> rfl
theorem sl15_nb {oa : Option Addr} {cap n m k i : Nat} (j : Nat) (b : Bool) : sl15 oa cap n m k i j ≠ .bool b := by
  unfold sl15
  split <;> (intro h; cases h)
def rhoM (oa : Option Addr) (cap B O a b n k m : Nat) (s : Int) (xs : List Ins) (i : Nat) : Go.Ev.Rho :=
  ⟨lv a b n k m s xs i, sl15 oa cap n m k i, fun _ => B, fun j => if j = 10 then O + i * 3 else 0, sl15_one, sl15_nb⟩
section
variable {w : World} {oa : Option Addr} {cap B O a b n k m : Nat} {s : Int} {xs : List Ins} {i : Nat}
theorem Lst.later {w' : World} (h : Lst w oa B O xs) (hs : w.heap.size ≤ w'.heap.size) (ho : ∀ k, k < w.heap.size → w'.heap[k]? = w.heap[k]?) : Lst w' oa B O xs := by
  refine ⟨fun i x hi => ?_, h.fits⟩
  obtain ⟨g1, g2, g3, g4, g5⟩ := h.cells i x hi
  have e : ∀ o, w'.cell? ⟨B, o, none⟩ = w.cell? ⟨B, o, none⟩ := fun o => by simp only [World.cell?, ho B g2]
  exact ⟨g1, Nat.lt_of_lt_of_le g2 hs, by rw [e]; exact g3, by rw [e]; exact g4, by rw [e]; exact g5⟩
theorem Lst.take (h : Lst w oa B O xs) (m : Nat) : Lst w oa B O (xs.take m) := by
  refine ⟨fun i x hi => h.cells i x ?_, fun x hx => h.fits x (List.mem_of_mem_take hx)⟩
  rw [List.getElem?_take] at hi
  split at hi
  · exact hi
  · cases hi
/-- The bounds of the symbols below ten. -/
theorem iv_ok {l : Go.Ev.Ivs} {n0 n1 m0 m1 s0 s1 : Int} (ha : a ≤ 255) (hb : b ≤ 255) (hn0 : n0 ≤ n) (hn1 : (n : Int) ≤ n1) (hk : k ≤ 40) (hm0 : m0 ≤ m) (hm1 : (m : Int) ≤ m1) (hs0 : s0 ≤ s) (hs1 : s ≤ s1)
    (hl : ∀ j, (Go.Ev.ivAt l j).1 ≤ lv a b n k m s xs i (j + 10) ∧ lv a b n k m s xs i (j + 10) ≤ (Go.Ev.ivAt l j).2) :
    Go.Ev.IvOK ((0, 255) :: (0, 255) :: (n0, n1) :: (0, 40) :: (m0, m1) :: (0, 85) :: (s0, s1) :: (m0 + 1, m1 + 1) :: (0, 2) :: (0, 40) :: l) (rhoM oa cap B O a b n k m s xs i) :=
  Go.Ev.ivs_cons ⟨by show (0 : Int) ≤ (a : Int); omega, by show (a : Int) ≤ 255; omega⟩ (Go.Ev.ivs_cons ⟨by show (0 : Int) ≤ (b : Int); omega, by show (b : Int) ≤ 255; omega⟩ (Go.Ev.ivs_cons ⟨hn0, hn1⟩ (Go.Ev.ivs_cons ⟨by show (0 : Int) ≤ (k : Int); omega, by show (k : Int) ≤ 40; omega⟩
    (Go.Ev.ivs_cons ⟨hm0, hm1⟩ (Go.Ev.ivs_cons ⟨by show (0 : Int) ≤ ((a / 3 : Nat) : Int); omega, by show ((a / 3 : Nat) : Int) ≤ 85; omega⟩ (Go.Ev.ivs_cons ⟨hs0, hs1⟩ (Go.Ev.ivs_cons ⟨by show m0 + 1 ≤ (m : Int) + 1; omega, by show (m : Int) + 1 ≤ m1 + 1; omega⟩
      (Go.Ev.ivs_cons ⟨by show (0 : Int) ≤ ((a % 3 : Nat) : Int); omega, by show ((a % 3 : Nat) : Int) ≤ 2; omega⟩ (Go.Ev.ivs_cons ⟨by show (0 : Int) ≤ ((a / 3 % 41 : Nat) : Int); omega, by show ((a / 3 % 41 : Nat) : Int) ≤ 40; omega⟩ hl)))))))))
theorem rest_ok (hf : I64 (xs.getD i (0, 0, 0)).1 ∧ I64 (xs.getD i (0, 0, 0)).2.1 ∧ I64 (xs.getD i (0, 0, 0)).2.2) (hi : i ≤ 40) : ∀ j, (Go.Ev.ivAt [] j).1 ≤ lv a b n k m s xs i (j + 10) ∧ lv a b n k m s xs i (j + 10) ≤ (Go.Ev.ivAt [] j).2 := by
  refine Go.Ev.ivs_nil fun j => ?_
  match j with
  | 0 => exact hf.1
  | 1 => exact hf.2.1
  | 2 => exact hf.2.2
  | 3 => exact ⟨by show _ ≤ (i : Int); omega, by show (i : Int) ≤ _; omega⟩
  | 4 => exact ⟨by show _ ≤ (i : Int) + 1; omega, by show (i : Int) + 1 ≤ _; omega⟩
  | j + 5 => exact ⟨by show _ ≤ (0 : Int); decide, by show (0 : Int) ≤ _; decide⟩
theorem factsL_ok {hi : Go.Ev.VV} {kk : IntKind} (hm : m ≤ n) (hnc : n ≤ cap) (hm40 : m ≤ 40) (ha : a ≤ 255) (hk : k = b % (m + 1)) (hhi : Go.Ev.sval (rhoM oa cap B O a b n k m s xs i) hi = some (.int kk (m : Int))) : Go.Ev.FsOK (factsL (a % 3) (a / 3 % 41) hi) (rhoM oa cap B O a b n k m s xs i) := by
  intro f hf
  simp only [factsL, List.mem_cons, List.not_mem_nil, or_false] at hf
  rcases hf with rfl | rfl | rfl | rfl | rfl | rfl | rfl | rfl
  · exact Go.Ev.fact_len rfl rfl
  · exact Go.Ev.fact_cut (a := oa) (l := n) (c := cap) (m := m) rfl hhi (by omega) rfl
  · exact Go.Ev.fact_len rfl rfl
  · exact Go.Ev.fact_rem (a := (a : Int)) (b := 3) rfl rfl (by decide) rfl
  · refine Go.Ev.fact_quo (a := (a : Int)) (b := 3) rfl rfl (by decide) ?_
    have e : IntKind.u8.wrap ((a : Int).tdiv 3) = ((a / 3 : Nat) : Int) := by
      have e1 : (a : Int).tdiv 3 = ((a / 3 : Nat) : Int) := rfl
      rw [e1]
      exact Go.Ev.wrap_in (by show (0 : Int) ≤ ((a / 3 : Nat) : Int); omega) (by show ((a / 3 : Nat) : Int) ≤ 255; omega)
    rw [e]
    rfl
  · exact Go.Ev.fact_rem (a := ((a / 3 : Nat) : Int)) (b := 41) rfl rfl (by decide) rfl
  · exact Go.Ev.fact_add rfl (show -9223372036854775808 ≤ (m : Int) + 1 by omega) (show (m : Int) + 1 ≤ 9223372036854775807 by omega)
  · refine Go.Ev.fact_rem (k := .i64) (a := (b : Int)) (b := ((m + 1 : Nat) : Int)) rfl rfl (by omega) ?_
    show some (Value.int .i64 (k : Int)) = some (Value.int .i64 ((b % (m + 1) : Nat) : Int))
    rw [hk]
theorem envP {iv : Go.Ev.Ivs} {fs : List Go.Ev.Fact} {φ : Go.Ev.Phi} (hφ : φ.ρ = rhoM oa cap B O a b n k m s xs i) (h1 : Go.Ev.IvOK iv (rhoM oa cap B O a b n k m s xs i)) (h2 : Go.Ev.FsOK fs (rhoM oa cap B O a b n k m s xs i)) : Go.Ev.EnvP ⟨fun _ => none, Go.Ev.ivAt iv, fs, fun _ => none⟩ φ w :=
  ⟨fun i => by rw [hφ]; exact h1 i, fun f hf => by rw [hφ]; exact h2 f hf, fun i c h => by cases h⟩
theorem envLB (hL : Lst w oa B O xs) {iv : Go.Ev.Ivs} {fs : List Go.Ev.Fact} {φ : Go.Ev.Phi} (hφ : φ.ρ = rhoM oa cap B O a b n k m s xs i) (hi : i < k) (hkm : k ≤ m) (hm : m = xs.length) (hm40 : m ≤ 40) (h1 : Go.Ev.IvOK iv (rhoM oa cap B O a b n k m s xs i)) (h2 : Go.Ev.FsOK fs (rhoM oa cap B O a b n k m s xs i)) : Go.Ev.EnvP (ELB iv fs) φ w := by
  obtain ⟨g1, g2, g3, g4, g5⟩ := hL.cells i _ (at_of (by omega))
  refine ⟨fun i => by rw [hφ]; exact h1 i, fun f hf => ?_, fun q cs h => ?_⟩
  · rw [hφ]
    rcases List.mem_append.1 hf with h | h
    · exact h2 f h
    · simp only [factsB, List.mem_cons, List.not_mem_nil, or_false] at h
      rcases h with rfl | rfl | rfl
      · refine Go.Ev.fact_at (n := i) (B := B) (O := O) (l := m) (c := cap) ?_ rfl (by omega) rfl rfl
        show some (Value.slice oa m cap) = _
        rw [g1]
      · exact Go.Ev.factLss (decide_eq_true (show (i : Int) < (k : Int) by omega))
      · exact Go.Ev.fact_add rfl (show -9223372036854775808 ≤ (i : Int) + 1 by omega) (show (i : Int) + 1 ≤ 9223372036854775807 by omega)
  · have hq : q = 10 ∧ cs = [Go.Ev.sv iv .i64 10, Go.Ev.sv iv .i64 11, Go.Ev.sv iv .i64 12] := by
      simp only [ELB] at h
      split at h
      · rename_i hb
        exact ⟨Nat.eq_of_beq_eq_true hb, (Option.some.inj h).symm⟩
      · cases h
    obtain ⟨rfl, rfl⟩ := hq
    have v3 : Go.Ev.VR φ (Go.Ev.sv iv .i64 10) (.int .i64 (xs.getD i (0, 0, 0)).1) := by have := Go.Ev.VR_sv (φ := φ) (iv := iv) (by rw [hφ]; exact h1) .i64 10; rw [hφ] at this; exact this
    have v4 : Go.Ev.VR φ (Go.Ev.sv iv .i64 11) (.int .i64 (xs.getD i (0, 0, 0)).2.1) := by have := Go.Ev.VR_sv (φ := φ) (iv := iv) (by rw [hφ]; exact h1) .i64 11; rw [hφ] at this; exact this
    have v5 : Go.Ev.VR φ (Go.Ev.sv iv .i64 12) (.int .i64 (xs.getD i (0, 0, 0)).2.2) := by have := Go.Ev.VR_sv (φ := φ) (iv := iv) (by rw [hφ]; exact h1) .i64 12; rw [hφ] at this; exact this
    have eb : φ.ρ.blk 10 = B := by rw [hφ]; rfl
    have eo : φ.ρ.off 10 = O + i * 3 := by rw [hφ]; rfl
    rw [eb, eo]
    refine ⟨g2, fun j x hj => ?_⟩
    match j with
    | 0 => simp only [List.getElem?_cons_zero, Option.some.injEq] at hj; subst hj; exact ⟨_, g3, v3⟩
    | 1 => simp only [List.getElem?_cons_succ, List.getElem?_cons_zero, Option.some.injEq] at hj; subst hj; exact ⟨_, g4, v4⟩
    | 2 => simp only [List.getElem?_cons_succ, List.getElem?_cons_zero, Option.some.injEq] at hj; subst hj; exact ⟨_, g5, v5⟩
    | j + 3 => simp at hj
end
section
variable {w : World} {oa : Option Addr} {cap B O a b n k m : Nat} {s : Int} {xs : List Ins} {i : Nat}
theorem keW {ρ : Go.Ev.Rho} (hT : Go.Ev.TabsOK tabs w) : Go.Ev.KEok Tryd.prog ρ w ⟨11, [], [], .bool true⟩ := by
  intro φ vs w' hφ hsz ho hv _
  simp only [Go.Ev.VRs] at hv
  subst hv
  refine (rows.works w' (hT.of_old ho)).mono ?_
  rintro e w'' ⟨rfl, hb⟩
  exact ⟨_, rfl, by simp only [Go.Ev.VR], hb⟩
theorem keC {ρ : Go.Ev.Rho} {zs : List Ins} {t c : Int} (hz : Lst w oa B O zs) (ht : I64 t) (hc : I64 c) (hn : (zs.length : Int) < 9223372036854775807) {vv : List Go.Ev.VV} {r : Go.Ev.VV}
    (hvv : ∀ (φ : Go.Ev.Phi) vs, φ.ρ = ρ → Go.Ev.VRs φ vv vs → vs = [.slice oa zs.length cap, .int .i64 t, .int .i64 c]) (hr : ∀ φ : Go.Ev.Phi, φ.ρ = ρ → Go.Ev.VR φ r (.int .i64 (spec t c zs))) : Go.Ev.KEok Tryd.prog ρ w ⟨9, vv, [], r⟩ := by
  intro φ vs w' hφ hsz ho hv _
  have hv' := hvv φ vs hφ hv
  subst hv'
  refine (contractC (hz.later hsz ho) ht hc hn).mono ?_
  rintro e w'' ⟨rfl, hb⟩
  exact ⟨_, rfl, hr φ hφ, hb⟩
theorem ints {a : Nat} (h : a ≤ 1000) : I64 (a : Int) := ⟨by omega, by omega⟩
theorem slot1 {φ : Go.Ev.Phi} {vs : List Value} {u d : Int} (hφ : φ.ρ = rhoM oa cap B O a b n k m s xs i) (h : Go.Ev.VRs φ [.sym 1, .int .i64 u, .int .i64 d] vs) : vs = [.slice oa m cap, .int .i64 u, .int .i64 d] := by
  simp only [Go.Ev.VRs, Go.Ev.VR, hφ] at h
  obtain ⟨_, _, rfl, rfl, _, _, rfl, rfl, _, _, rfl, rfl, rfl⟩ := h
  rfl
theorem slot15 {φ : Go.Ev.Phi} {vs : List Value} (hφ : φ.ρ = rhoM oa cap B O a b n k m s xs i) (h : Go.Ev.VRs φ [.sym 15, .sint .i64 8, .sint .i64 9] vs) : vs = [.slice oa (if i = k then k else 0) cap, .int .i64 ((a % 3 : Nat) : Int), .int .i64 ((a / 3 % 41 : Nat) : Int)] := by
  simp only [Go.Ev.VRs, Go.Ev.VR, hφ] at h
  obtain ⟨_, _, rfl, rfl, _, _, rfl, rfl, _, _, rfl, rfl, rfl⟩ := h
  rfl
theorem slot15' {φ : Go.Ev.Phi} {vs : List Value} {u d : Int} (hφ : φ.ρ = rhoM oa cap B O a b n k m s xs i) (h : Go.Ev.VRs φ [.sym 15, .int .i64 u, .int .i64 d] vs) : vs = [.slice oa (if i = k then k else 0) cap, .int .i64 u, .int .i64 d] := by
  simp only [Go.Ev.VRs, Go.Ev.VR, hφ] at h
  obtain ⟨_, _, rfl, rfl, _, _, rfl, rfl, _, _, rfl, rfl, rfl⟩ := h
  rfl
/-- What is said of the calls, where the code may be. -/
theorem extKT (hT : Go.Ev.TabsOK tabs w) (hL : Lst w oa B O xs) (hm : m = xs.length) (hm40 : m ≤ 40) (hkm : k ≤ m) (hin : In ((a % 3 : Nat) : Int) ((a / 3 % 41 : Nat) : Int) xs) (hg : ∀ j, j < xs.length → good ((a % 3 : Nat) : Int) ((a / 3 % 41 : Nat) : Int) xs j = true)
    (hb : i = k → ∀ j, j < k → Go.Ev.valB AL (lv a b n k m s xs j) = true) : ∀ e ∈ KT (a % 3) (a / 3 % 41), Go.Ev.KEok Tryd.prog (rhoM oa cap B O a b n k m s xs i) w e := by
  have hT3 : I64 ((a % 3 : Nat) : Int) := ints (by omega)
  have hC3 : I64 ((a / 3 % 41 : Nat) : Int) := ints (by omega)
  -- the beginning
  obtain ⟨zs, z1, z2, z3⟩ : ∃ zs : List Ins, Lst w oa B O zs ∧ zs.length = (if i = k then k else 0) ∧ spec ((a % 3 : Nat) : Int) ((a / 3 % 41 : Nat) : Int) zs = 0 := by
    by_cases hik : i = k
    · have hl : (xs.take k).length = k := by rw [List.length_take]; omega
      refine ⟨xs.take k, hL.take k, by rw [if_pos hik, hl], spec_zero ⟨hin.t0, hin.t2, hin.c0, hin.c40, by have := hin.n32; omega⟩ fun j hj => ?_⟩
      rw [hl] at hj
      exact good_take hin (by omega) hj (hL.fit j) (hg j (by omega)) rfl rfl rfl (hb hik j hj)
    · exact ⟨[], ⟨fun i x h => by simp at h, fun x h => by cases h⟩, by rw [if_neg hik]; rfl, spec_zero ⟨hin.t0, hin.t2, hin.c0, hin.c40, by simp⟩ fun j hj => by simp at hj⟩
  have zn : (zs.length : Int) < 9223372036854775807 := by rw [z2]; split <;> omega
  intro e he
  rcases KT_mem he with rfl | rfl | rfl | ⟨u, d, g1, g2, g3, g4, rfl⟩
  · exact keW hT
  · refine keC (cap := cap) z1 hT3 hC3 zn (fun φ vs hφ h => ?_) (fun φ hφ => by rw [z3]; simp only [Go.Ev.VR])
    rw [z2]
    exact slot15 hφ h
  · refine keC (cap := cap) z1 hT3 hC3 zn (fun φ vs hφ h => ?_) (fun φ hφ => by rw [z3]; simp only [Go.Ev.VR])
    rw [z2]
    exact slot15' hφ h
  · have hin' : In (u : Int) (d : Int) xs := ⟨by omega, by omega, by omega, by omega, hin.n32⟩
    have h0 : spec (u : Int) (d : Int) xs = 0 := spec_zero hin' fun j hj => good_more hin hin' (by omega) (by omega) (hL.fit j) (by omega) (hg j hj)
    refine keC (cap := cap) (t := (u : Int)) (c := (d : Int)) hL (ints (by omega)) (ints (by omega)) (by omega) (fun φ vs hφ h => ?_) (fun φ hφ => by rw [h0]; simp only [Go.Ev.VR])
    rw [← hm]
    exact slot1 hφ h
theorem args_ok : Go.Ev.VRs ⟨fun _ => none, rhoM oa cap B O a b n k m s xs i⟩ args6 [.slice oa n cap, .int .u8 (a : Int), .int .u8 (b : Int)] := by
  simp only [args6, Go.Ev.VRs, Go.Ev.VR]
  exact ⟨_, _, rfl, rfl, _, _, rfl, rfl, _, _, rfl, rfl, rfl⟩
theorem fs_app {f1 f2 : List Go.Ev.Fact} {ρ : Go.Ev.Rho} (h1 : Go.Ev.FsOK f1 ρ) (h2 : Go.Ev.FsOK f2 ρ) : Go.Ev.FsOK (f1 ++ f2) ρ := fun f hf => by
  rcases List.mem_append.1 hf with h | h
  · exact h1 f h
  · exact h2 f h
noncomputable def EL (a b n k m : Nat) (s : Int) (xs : List Ins) (i : Nat) : Go.Ev.Env := if i < k then ELB (Go.Ev.leafOf AL.tr (lv a b n k m s xs i) ivLB []).1 (Go.Ev.leafOf AL.tr (lv a b n k m s xs i) ivLB []).2 else EE
/-- The loop, and what is behind it. -/
theorem looped (hT : Go.Ev.TabsOK tabs w) (hL : Lst w oa B O xs) (hm : m = xs.length) (hm40 : m ≤ 40) (hm1 : 1 ≤ m) (hkm : k ≤ m) (ha : a ≤ 255) (hb : b ≤ 255) (hn : (n : Int) ≤ 9223372036854775807) (hmn : m ≤ n) (hnc : n ≤ cap) (hk : k = b % (m + 1)) (hs0 : 0 ≤ s) (hs1 : s ≤ 1000)
    (hin : In ((a % 3 : Nat) : Int) ((a / 3 % 41 : Nat) : Int) xs) (hg : ∀ j, j < xs.length → good ((a % 3 : Nat) : Int) ((a / 3 % 41 : Nat) : Int) xs j = true) {iv : Go.Ev.Ivs} {hi : Go.Ev.VV} {kk : IntKind}
    (hiv : Go.Ev.IvOK iv (rhoM oa cap B O a b n k m s xs 0)) (hhi : Go.Ev.sval (rhoM oa cap B O a b n k m s xs 0) hi = some (.int kk (m : Int)))
    (hpre : Go.Ev.preB3 (Go.Ev.rcKT Tryd.prog (KT (a % 3) (a / 3 % 41)) 20000) 10 sideL bL 8 1 (Go.Ev.listT args6 0 .lf) (EP iv (a % 3) (a / 3 % 41) hi []) [((a % 3 : Nat) : Int), ((a / 3 % 41 : Nat) : Int), 0] = true) (ok : Ok (a % 3) (a / 3 % 41)) :
    Calls Tryd.prog 6 #[.slice oa n cap, .int .u8 (a : Int), .int .u8 (b : Int)] w fun e w' => e = .returned (.bool true) ∧ Below w.heap.size w w' := by
  have leaf : ∀ i, i < k → Go.Ev.IvOK (Go.Ev.leafOf AL.tr (lv a b n k m s xs i) ivLB []).1 (rhoM oa cap B O a b n k m s xs i) ∧ Go.Ev.FsOK (Go.Ev.leafOf AL.tr (lv a b n k m s xs i) ivLB []).2 (rhoM oa cap B O a b n k m s xs i) := fun i hik =>
    Go.Ev.leafB_ok (ρ := rhoM oa cap B O a b n k m s xs i) (v := lv a b n k m s xs i) rfl
      (iv_ok (m0 := 1) (m1 := 40) ha hb (by omega) hn (by omega) (by omega) (by omega) hs0 hs1
        (Go.Ev.ivs_cons (hL.fit i).1 (Go.Ev.ivs_cons (hL.fit i).2.1 (Go.Ev.ivs_cons (hL.fit i).2.2 (Go.Ev.ivs_cons ⟨by show 0 ≤ (i : Int); omega, by show (i : Int) ≤ 39; omega⟩ (Go.Ev.ivs_cons ⟨by show 1 ≤ (i : Int) + 1; omega, by show (i : Int) + 1 ≤ 40; omega⟩
          (Go.Ev.ivs_nil fun j => ⟨by show _ ≤ (0 : Int); decide, by show (0 : Int) ≤ _; decide⟩))))))) (fun f hf => by cases hf)
  have c := Go.Ev.search_calls (P := Tryd.prog) (Go.Ev.noNG_of noNG) mixed (KT := KT (a % 3) (a / 3 % 41)) (n := 20000) (s := sideL) (fn := Tryd.f6) (c := bL) (args := args6) (args' := [.slice oa n cap, .int .u8 (a : Int), .int .u8 (b : Int)])
    (w0 := w) (rhoAt := rhoM oa cap B O a b n k m s xs) (len := k) (EI := EL a b n k m s xs) (N := 10) (good := fun i => Go.Ev.valB AL (lv a b n k m s xs i)) (E0 := EP iv (a % 3) (a / 3 % 41) hi []) (E2 := EE) (k1 := 8) (k2 := 1) (id := 4) (rG := .bool true) (vB := .bool true) (vG := .bool true) (ini := [((a % 3 : Nat) : Int), ((a / 3 % 41 : Nat) : Int), 0])
    Tryd.func6 (by kernel_rfl) rfl rfl (by kernel_rfl) (by kernel_rfl) (by kernel_rfl) rfl hpre ⟨rfl, rfl, rfl, trivial⟩ ok.fin (by unfold EL; rw [if_neg (by omega)]) (fun r => rfl) (fun i => by unfold EL; split <;> rfl)
    (fun i hik j hj => ⟨by match j, hj with | 0, _ => rfl | 1, _ => rfl | 2, _ => rfl | 3, _ => rfl | 4, _ => rfl | 5, _ => rfl | 6, _ => rfl | 7, _ => rfl | 8, _ => rfl | 9, _ => rfl,
      by match j, hj with | 0, _ => rfl | 1, _ => rfl | 2, _ => rfl | 3, _ => rfl | 4, _ => rfl | 5, _ => rfl | 6, _ => rfl | 7, _ => rfl | 8, _ => rfl | 9, _ => rfl, rfl,
      by show (if j = 10 then _ else 0) = (if j = 10 then _ else 0); rw [if_neg (by omega), if_neg (by omega)]⟩)
    (fun i hik hgi => extKT hT hL hm hm40 hkm hin hg fun e j hj => hgi j (by omega))
    (envP rfl hiv (fs_app (factsL_ok hmn hnc hm40 ha hk hhi) fun f hf => by cases hf))
    (fun i hik hgi φ hφ => by
      unfold EL
      split
      · rename_i hlt
        exact envLB hL hφ hlt hkm hm hm40 (leaf i hlt).1 (leaf i hlt).2
      · have e : i = k := by omega
        subst e
        refine envP hφ (iv_ok (m0 := 1) (m1 := 40) ha hb (by omega) hn (by omega) (by omega) (by omega) hs0 hs1
          (Go.Ev.ivs_cons (hL.fit i).1 (Go.Ev.ivs_cons (hL.fit i).2.1 (Go.Ev.ivs_cons (hL.fit i).2.2 (Go.Ev.ivs_cons ⟨by show 0 ≤ (i : Int); omega, by show (i : Int) ≤ 40; omega⟩ (Go.Ev.ivs_nil fun j => by
            match j with
            | 0 => exact ⟨by show _ ≤ (i : Int) + 1; omega, by show (i : Int) + 1 ≤ _; omega⟩
            | j + 1 => exact ⟨by show _ ≤ (0 : Int); decide, by show (0 : Int) ≤ _; decide⟩)))))) fun f hf => ?_
        simp only [factsE, List.mem_cons, List.not_mem_nil, or_false] at hf
        rcases hf with rfl | rfl
        · exact Go.Ev.factLss (decide_eq_false (show ¬ ((i : Int) < (i : Int)) by omega))
        · refine Go.Ev.fact_cut (a := oa) (l := m) (c := cap) (m := i) (k := .i64) rfl rfl (by omega) ?_
          show some (Value.slice oa (if i = i then i else 0) cap) = _
          rw [if_pos rfl])
    (fun i hik => by
      unfold EL
      rw [if_pos hik]
      exact Go.Ev.valB_ok ok.body)
    (fun i hik p hp => by
      simp only [sideL, List.mem_cons, List.not_mem_nil, or_false] at hp
      rcases hp with rfl | rfl | rfl
      · rfl
      · rfl
      · show ((i + 1 : Nat) : Int) = (i : Int) + 1; omega)
    (fun φ v hv => by simpa only [sideL, Go.Ev.VR] using hv) (fun φ v hv => by simpa only [Go.Ev.VR] using hv) args_ok
  refine c.mono ?_
  rintro e w' ⟨rfl, hbl⟩
  exact ⟨by simp, hbl⟩
end
theorem law {w : World} (hT : Go.Ev.TabsOK tabs w) {oa : Option Addr} {cap B O a b : Nat} {ys : List Ins} (hL : Lst w oa B O ys) (ha : a ≤ 255) (hb : b ≤ 255) (hn : (ys.length : Int) ≤ 9223372036854775807) (hcap : ys.length ≤ cap) :
    Calls Tryd.prog 6 #[.slice oa ys.length cap, .int .u8 (a : Int), .int .u8 (b : Int)] w fun e w' => e = .returned (.bool true) ∧ Below w.heap.size w w' := by
  have hl : (ys.take 40).length = min 40 ys.length := List.length_take
  have hLx := hL.take 40
  have hT3 : I64 ((a % 3 : Nat) : Int) := ints (by omega)
  have hC3 : I64 ((a / 3 % 41 : Nat) : Int) := ints (by omega)
  have hnx : ((ys.take 40).length : Int) < 9223372036854775807 := by rw [hl]; omega
  obtain ⟨hs0, hs1, hsz⟩ := spec_in hLx hT3 hC3 hnx
  have ok : Ok (a % 3) (a / 3 % 41) := allOk (by omega) (by omega)
  generalize hxs : ys.take 40 = xs at *
  have hkm : b % (xs.length + 1) ≤ xs.length := by have := Nat.mod_lt b (show xs.length + 1 > 0 by omega); omega
  have hm40 : xs.length ≤ 40 := by omega
  have rest0 := rest_ok (a := a) (b := b) (n := ys.length) (k := b % (xs.length + 1)) (m := xs.length) (s := spec ((a % 3 : Nat) : Int) ((a / 3 % 41 : Nat) : Int) xs) (xs := xs) (i := 0) (hLx.fit 0) (by omega)
  by_cases hz : spec ((a % 3 : Nat) : Int) ((a / 3 % 41 : Nat) : Int) xs = 0
  · obtain ⟨hin, hg⟩ := hsz hz
    by_cases hm0 : xs.length = 0
    · have hy : ys.length = 0 := by omega
      have hk0 : b % (xs.length + 1) = 0 := by omega
      refine Go.Ev.trueB_calls (Go.Ev.noNG_of noNG) mixed ok.z (ρ := rhoM oa cap B O a b ys.length (b % (xs.length + 1)) xs.length (spec ((a % 3 : Nat) : Int) ((a / 3 % 41 : Nat) : Int) xs) xs 0)
        (extKT hT hLx rfl hm40 hkm hin hg fun e j hj => by omega) (envP rfl (iv_ok (m0 := 0) (m1 := 0) ha hb (by omega) (by omega) (by omega) (by omega) (by omega) hs0 hs1 rest0) (fs_app (factsL_ok (by omega) hcap hm40 ha rfl (kk := .i64) (by show some (Value.int .i64 (ys.length : Int)) = some (Value.int .i64 (xs.length : Int)); rw [hy, hm0])) fun f hf => ?_)) (fun r => rfl) args_ok
      simp only [zeroF, List.mem_singleton] at hf
      subst hf
      refine Go.Ev.fact_cut (a := oa) (l := xs.length) (c := cap) (m := 0) (k := .i64) rfl rfl (by omega) ?_
      show some (Value.slice oa (if 0 = b % (xs.length + 1) then b % (xs.length + 1) else 0) cap) = _
      rw [hk0]
      rfl
    · by_cases h40 : ys.length ≤ 40
      · have e : ys.length = xs.length := by omega
        exact looped hT hLx rfl hm40 (by omega) hkm ha hb hn (by omega) hcap rfl hs0 hs1 hin hg (iv_ok (m0 := 1) (m1 := 40) ha hb (by omega) (by omega) (by omega) (by omega) (by omega) hs0 hs1 rest0) (hi := .sint .i64 2) (kk := .i64) (by show some (Value.int .i64 (ys.length : Int)) = some (Value.int .i64 (xs.length : Int)); rw [e]) ok.preA ok
      · have e : xs.length = 40 := by omega
        exact looped hT hLx rfl hm40 (by omega) hkm ha hb hn (by omega) hcap rfl hs0 hs1 hin hg (iv_ok (m0 := 1) (m1 := 40) ha hb (by omega) hn (by omega) (by omega) (by omega) hs0 hs1 rest0) (hi := .int .i64 40) (kk := .i64) (by show some (Value.int .i64 40) = some (Value.int .i64 (xs.length : Int)); rw [e]; rfl) ok.preB ok
  · have ext : ∀ e ∈ KT1 (a % 3) (a / 3 % 41), Go.Ev.KEok Tryd.prog (rhoM oa cap B O a b ys.length (b % (xs.length + 1)) xs.length (spec ((a % 3 : Nat) : Int) ((a / 3 % 41 : Nat) : Int) xs) xs 0) w e := by
      intro e he
      simp only [KT1, List.mem_cons, List.not_mem_nil, or_false] at he
      rcases he with rfl | rfl
      · exact keW hT
      · exact keC (cap := cap) hLx hT3 hC3 hnx (fun φ vs hφ h => slot1 hφ h) (fun φ hφ => by simp only [Go.Ev.VR, hφ]; rfl)
    by_cases h40 : ys.length ≤ 40
    · have e : ys.length = xs.length := by omega
      exact Go.Ev.trueB_calls (Go.Ev.noNG_of noNG) mixed ok.a1 ext (envP rfl (iv_ok (m0 := 0) (m1 := 40) ha hb (by omega) (by omega) (by omega) (by omega) (by omega) (by omega) hs1 rest0) (fs_app (factsL_ok (by omega) hcap hm40 ha rfl (kk := .i64) (by show some (Value.int .i64 (ys.length : Int)) = some (Value.int .i64 (xs.length : Int)); rw [e])) fun f hf => by cases hf)) (fun r => rfl) args_ok
    · have e : xs.length = 40 := by omega
      exact Go.Ev.trueB_calls (Go.Ev.noNG_of noNG) mixed ok.b1 ext (envP rfl (iv_ok (m0 := 0) (m1 := 40) ha hb (by omega) hn (by omega) (by omega) (by omega) (by omega) hs1 rest0) (fs_app (factsL_ok (by omega) hcap hm40 ha rfl (kk := .i64) (by show some (Value.int .i64 40) = some (Value.int .i64 (xs.length : Int)); rw [e]; rfl)) fun f hf => by cases hf)) (fun r => rfl) args_ok
/-! ### what an argument holds -/
theorem lit64 {x : Int} (h : (Lit.int .i64 x).wf = true) : I64 x := by
  simpa [Lit.wf, IntKind.min, IntKind.max, IntKind.signed, IntKind.bits] using h
set_option maxRecDepth 100000 in
theorem ins_of {H : Type} {enc : TypeId × Value → H} {w : World} {base : Nat} {sp : Nat → Bool} {held : Bool} {fuel : Nat} {cs : List Value} {y : DataW H × List MemPlace} (h : DataW.trod enc Tryd.prog w base sp held fuel 34 cs = some y) :
    ∃ x : Ins, cs = [.int .i64 x.1, .int .i64 x.2.1, .int .i64 x.2.2] ∧ I64 x.1 ∧ I64 x.2.1 ∧ I64 x.2.2 := by
  obtain ⟨xs, n, rfl, hx, hl, hxl, hall⟩ := DataW.trod_struct Tryd.underlying34 h
  have hc3 : Tryd.prog.cellsOf 3 = 1 := by kernel_rfl
  have hc34 : Tryd.prog.cellsOf 34 = 3 := by kernel_rfl
  rw [hc34] at hl
  match cs, hl with
  | [a, b, c], _ =>
    have h0 : DataW.trod enc Tryd.prog w base sp held n 3 (([a, b, c].drop 0).take (Tryd.prog.cellsOf 3)) = xs[0]? := hall 0 _ rfl
    have h1 : DataW.trod enc Tryd.prog w base sp held n 3 (([a, b, c].drop 1).take (Tryd.prog.cellsOf 3)) = xs[1]? := hall 1 _ rfl
    have h2 : DataW.trod enc Tryd.prog w base sp held n 3 (([a, b, c].drop 2).take (Tryd.prog.cellsOf 3)) = xs[2]? := hall 2 _ rfl
    rw [hc3] at h0 h1 h2
    simp only [List.take_succ_cons, List.take_zero, List.drop_succ_cons, List.drop_zero] at h0 h1 h2
    have hlen : xs.length = 3 := hxl
    match xs, hlen with
    | [x0, x1, x2], _ =>
      simp only [List.getElem?_cons_zero, List.getElem?_cons_succ] at h0 h1 h2
      obtain ⟨a', e0, _, w0⟩ := DataW.trod_int Tryd.underlying3 h0
      obtain ⟨b', e1, _, w1⟩ := DataW.trod_int Tryd.underlying3 h1
      obtain ⟨c', e2, _, w2⟩ := DataW.trod_int Tryd.underlying3 h2
      simp only [List.cons.injEq, and_true] at e0 e1 e2
      subst e0 e1 e2
      exact ⟨(a', b', c'), rfl, lit64 w0, lit64 w1, lit64 w2⟩
theorem choose_ins {p : Nat → Ins → Prop} : ∀ {n : Nat}, (∀ i, i < n → ∃ x, p i x) → ∃ xs : List Ins, xs.length = n ∧ ∀ i x, xs[i]? = some x → p i x
  | 0, _ => ⟨[], rfl, fun i x h => by simp at h⟩
  | n + 1, h => by
    obtain ⟨xs, h1, h2⟩ := choose_ins (n := n) fun i hi => h i (by omega)
    obtain ⟨x, hx⟩ := h n (by omega)
    refine ⟨xs ++ [x], by simp [h1], fun i y hy => ?_⟩
    rw [List.getElem?_append] at hy
    split at hy
    · exact h2 i y hy
    · rename_i hi
      have : i = n := by
        have := (List.getElem?_eq_some_iff.1 hy).1
        simp at this
        omega
      subst this
      rw [h1] at hy
      simp at hy
      subst hy
      exact hx
set_option maxRecDepth 100000 in
theorem lst_of {H : Type} {enc : TypeId × Value → H} {w : World} {sp : Nat → Bool} {held : Bool} {r : Reach} {b0 : Nat} {v : Value} {d : DataW H} {ps : List MemPlace} (hval : Value.okWide Tryd.prog w r b0 22 v) (h : DataW.Trod enc Tryd.prog w 0 sp held 22 v d ps) :
    ∃ oa cap B O, ∃ xs : List Ins, v = .slice oa xs.length cap ∧ Lst w oa B O xs ∧ xs.length ≤ cap ∧ (xs.length : Int) ≤ 9223372036854775807 := by
  obtain ⟨a0, len, cap, rfl⟩ := okWide_slice Tryd.underlying22 hval
  obtain ⟨fuel, hf⟩ := h
  have hc34 : Tryd.prog.cellsOf 34 = 3 := by kernel_rfl
  rcases Go.Deep.open_slice Tryd.underlying22 hf with ⟨hcs, _⟩ | ⟨a, len', cap', m, n, D, Pl, hcs, _, hl, hm, hmm, _, hall⟩
  · simp only [Value.cells, List.cons.injEq, Value.slice.injEq, and_true] at hcs
    obtain ⟨rfl, rfl, rfl⟩ := hcs
    exact ⟨none, 0, 0, 0, [], rfl, ⟨fun i x hi => by simp at hi, fun x hx => by cases hx⟩, Nat.le_refl _, by simp⟩
  · simp only [Value.cells, List.cons.injEq, Value.slice.injEq, and_true] at hcs
    obtain ⟨rfl, rfl, rfl⟩ := hcs
    have hlm : len ≤ m := by rw [hmm]; split <;> omega
    rw [hc34] at hall
    have each : ∀ i, i < len → ∃ x : Ins, (w.cell? (a.add (i * 3)) = some (.int .i64 x.1) ∧ w.cell? ((a.add (i * 3)).add 1) = some (.int .i64 x.2.1) ∧ w.cell? ((a.add (i * 3)).add 2) = some (.int .i64 x.2.2)) ∧ I64 x.1 ∧ I64 x.2.1 ∧ I64 x.2.2 := by
      intro i hi
      obtain ⟨cs', h1, h2⟩ := hall i (by omega)
      obtain ⟨x, rfl, hx⟩ := ins_of h2
      obtain ⟨_, _, hcell⟩ := World.cells?_some h1
      refine ⟨x, ⟨?_, hcell 1 (by omega), hcell 2 (by omega)⟩, hx⟩
      have := hcell 0 (by omega)
      simpa [Addr.add] using this
    obtain ⟨xs, hx1, hx2⟩ := choose_ins each
    have hbig : (xs.length : Int) ≤ 9223372036854775807 := by
      have : cap ≤ maxLen := hm
      have e : maxLen ≤ 9223372036854775807 := by decide
      omega
    cases xs with
    | nil =>
      have : len = 0 := by simpa using hx1.symm
      subst this
      exact ⟨some a, cap, 0, 0, [], rfl, ⟨fun i x hi => by simp at hi, fun x hx => by cases hx⟩, hl, hbig⟩
    | cons x0 xs' =>
      have h00 := (hx2 0 x0 rfl).1.1
      obtain ⟨B, O, spot⟩ := a
      have hspot : spot = none := by simpa [Addr.add] using World.cell?_spot h00
      subst hspot
      refine ⟨some ⟨B, O, none⟩, cap, B, O, x0 :: xs', by rw [hx1], ⟨fun i x hi => ?_, fun x hx => ?_⟩, by omega, hbig⟩
      · obtain ⟨⟨g1, g2, g3⟩, _⟩ := hx2 i x hi
        rw [Addr.add_lit] at g1 g2 g3
        rw [Addr.add_lit] at g2 g3
        refine ⟨rfl, ?_, g1, g2, g3⟩
        unfold World.cell? at g1
        split at g1
        · rename_i he
          exact (Array.getElem?_eq_some_iff.1 he).1
        · cases g1
      · obtain ⟨i, hi⟩ := List.getElem?_of_mem hx
        exact (hx2 i x hi).2
theorem laid_met (W : World) (hL : laidMet Tryd.prog Rows.codeMoreRow.laid W) : Go.Ev.TabsOK tabs W :=
  Go.Ev.tabsOK_cons (Go.Ev.tab_of_reads (k := .u8) (zs := nums0) (Go.Lib.laidMet.reads hL (n := "math/bits.deBruijn32tab") (d := Rows.laid_math_bits_deBruijn32tab) (.head _)) (g := 1) (t := 109) (e := 5) (m := 32) (by kernel_rfl) (by kernel_rfl) (by kernel_rfl) (by kernel_rfl) (by kernel_rfl) (by kernel_rfl))
    (Go.Ev.tabsOK_cons (Go.Ev.tab_of_reads (k := .u8) (zs := nums1) (Go.Lib.laidMet.reads hL (n := "math/bits.deBruijn64tab") (d := Rows.laid_math_bits_deBruijn64tab) (.tail _ (.head _))) (g := 2) (t := 110) (e := 5) (m := 64) (by kernel_rfl) (by kernel_rfl) (by kernel_rfl) (by kernel_rfl) (by kernel_rfl) (by kernel_rfl))
    (Go.Ev.tabsOK_cons (Go.Ev.tab_of_reads (k := .u64) (zs := nums2) (Go.Lib.laidMet.reads hL (n := "internal/strconv.uint64pow10") (d := Rows.laid_internal_strconv_uint64pow10) (.tail _ (.tail _ (.head _)))) (g := 0) (t := 107) (e := 87) (m := 20) (by kernel_rfl) (by kernel_rfl) (by kernel_rfl) (by kernel_rfl) (by kernel_rfl) (by kernel_rfl))
    (Go.Ev.tabsOK_nil W)))
theorem u8_of {x : Int} (h : (Lit.int .u8 x).wf = true) : ∃ a : Nat, x = (a : Int) ∧ a ≤ 255 := by
  have h' : 0 ≤ x ∧ x ≤ 255 := by simpa [Lit.wf, IntKind.min, IntKind.max, IntKind.signed, IntKind.bits] using h
  exact ⟨x.toNat, by omega, by omega⟩
set_option maxRecDepth 100000 in
theorem lifted (os : Os) (started : os.Started) (H : Type) (enc : TypeId × Value → H) :
    ReturnsInHanded {} Tryd.checked os 6 .any (fun w args => (Rows.codeMoreSpec.pre enc Tryd.prog Tryd.f6 [] false w args ∧ laidMetH Tryd.prog Rows.codeMoreRow.laid w) ∧ sizedMet enc Tryd.prog Tryd.f6 (OpenSpec.ofChange Rows.codeMoreSpec) false w args)
      (Rows.codeMoreSpec.post enc Tryd.prog Tryd.f6 false true false false) := by
  refine returnsInHanded_of_change_and (C := Tryd.checked) (X := fun w _ => laidMetH Tryd.prog Rows.codeMoreRow.laid w) (fun _ _ _ hh h => h.of_heap hh) own started (by kernel_rfl) Tryd.func6
    (ChangeSpec.witness_shaped (enc := enc) (C := Tryd.checked) (os := os) (X := fun w _ => laidMetH Tryd.prog Rows.codeMoreRow.laid w) false (World.laidAll Tryd.prog os Rows.codeMoreRow.laid) #[.slice none 0 0, .int .u8 0, .int .u8 0] 8 (World.laidAll_os _ _ _)
      (World.shaped_of_ZipB (by kernel_rfl) (by kernel_rfl)) (by kernel_rfl) (by kernel_rfl) (by kernel_rfl)
      (by rw [MakeChecks.laidMetH_plain _ _ _ (by kernel_rfl)]; exact laidMet_laidAll _ (by kernel_rfl) (by kernel_rfl))) ?_
  intro W base args ds gs before hval0 hW _ _ hL _
  have hval : ∀ (j : Nat) t v, Tryd.f6.params[j]? = some t → args[j]? = some v → Value.okWide Tryd.prog W .any base t v := hval0
  have hW' := hW
  obtain ⟨p, q, hA0, hV, rfl, _, _⟩ := hW
  have hA : DataW.TrodAll enc Tryd.prog W 0 (fun _ => true) true Tryd.f6.params.toList args.toList ds p := hA0
  rw [Tryd.params6] at hA hval
  obtain ⟨v0, v1, v2, d0, d1, d2, p0, p1, p2, rfl, rfl, rfl, h0, h1, h2⟩ := trodAll_three hA
  obtain ⟨rfl, rfl⟩ := trodVars_none hV
  obtain ⟨t, rfl, rfl, rfl, wt⟩ := open_int Tryd.underlying5 (hval 1 5 v1 rfl rfl) h1
  obtain ⟨c, rfl, rfl, rfl, wc⟩ := open_int Tryd.underlying5 (hval 2 5 v2 rfl rfl) h2
  obtain ⟨oa, cap, B, O, xs, rfl, hxs, hcap, hn⟩ := lst_of (hval 0 22 v0 rfl rfl) h0
  have hlt : ∀ x ∈ p0, x.block < W.heap.size := fun x hx => by simpa using hW'.lt x (by simp [hx])
  simp only [List.append_nil] at hW'
  rw [MakeChecks.laidMetH_plain _ _ _ (by kernel_rfl)] at hL
  obtain ⟨a, ea, ha⟩ := u8_of wt
  obtain ⟨b, eb, hb'⟩ := u8_of wc
  have hlaw := law (laid_met W hL) hxs ha hb' hn hcap
  rw [← ea, ← eb] at hlaw
  refine hlaw.mono fun e W' ⟨he, hb⟩ => ?_
  subst he
  have hargs := Below.trod (by kernel_rfl) (by kernel_rfl) (of_decide_eq_true (by kernel_rfl)) h0 hb hlt
  exact ⟨_, rfl, _, _, _, [], p0 ++ ([] ++ []), [], hW', trodAll_mk1 (shut_bool Tryd.underlying4 _), trodAll_mk3 hargs (shut_int Tryd.underlying5 wt) (shut_int Tryd.underlying5 wc), rfl, hb.frame _, fun h => by cases h⟩
theorem over : Rows.codeMoreRow.holds Tryd.pinned (OpenSpec.ofChange Rows.codeMoreSpec) :=
  OpenClaim.holds_of_wide 6 Tryd.f6 rfl rfl rfl rfl rfl rfl rfl ⟨rfl, rfl, rfl, rfl, rfl⟩ rfl rfl rfl rfl rfl (by kernel_rfl) Tryd.func6 (by kernel_rfl)
    (of_decide_eq_true (by kernel_rfl)) (by unfold Func.isWrapper; first | (rw [if_pos (by decide +kernel)]; kernel_rfl) | (rw [if_neg (by decide +kernel)]; exact ⟨rfl, rfl⟩))
    (fun os started H enc _ => lifted os started H enc)
theorem proved : Rows.CodeMoreCardSaid :=
  Claim7.holds_tied_plain_at .later [] [.data, .data, .data] true (true, "7abd0002bc4a667ec958eb1064d949b687c8540c000e41d455896065a9830dfe") false over (fun _ h => by cases h) (by kernel_rfl) (fun _ h => by cases h) codeMore_row_tie rfl ⟨rfl, rfl⟩ (by kernel_rfl) rfl
    (fun f fn hf hfn => by
      obtain rfl : f = 6 := Option.some.inj ((show Tryd.prog.funcNamed "trefoil/trefoillaw04.CodeMore" = some 6 by kernel_rfl).symm.trans hf) |>.symm
      obtain rfl : fn = Tryd.f6 := (Option.some.inj (Tryd.func6.symm.trans hfn)).symm
      exact ⟨by kernel_rfl, fun j t ht => by
        rw [Tryd.params6] at ht
        have hm : t ∈ [22, 5, 5] := by simpa using Array.mem_of_getElem? ht
        have hall : ([22, 5, 5].all fun u => !Tryd.prog.wantsStandIn u) = true := by kernel_rfl
        exact (show Tryd.prog.wantsStandIn t = false by simpa using List.all_eq_true.1 hall t hm)⟩)
    (by kernel_rfl)
end Go.Proofs.YtgmdbpmookoafaaDoor.more
