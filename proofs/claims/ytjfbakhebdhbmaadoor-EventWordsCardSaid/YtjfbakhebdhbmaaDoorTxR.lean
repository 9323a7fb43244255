/-
  Events: the chapter's rows, which each statement asks; the library's decimal.
-/
import Derived.Test.YtjfbakhebdhbmaaDoorTxX
import Derived.Test.YtjfbakhebdhbmaaDoorTxI
import Derived.Test.YtjfbakhebdhbmaaDoorEvW
namespace Go.Proofs.YtjfbakhebdhbmaaDoor.event
open Go.Ev Go.RowKit
set_option linter.unusedVariables false
noncomputable section
def nums0 : List Int := [0, 1, 28, 2, 29, 14, 24, 3, 30, 22, 20, 15, 25, 17, 4, 8, 31, 27, 13, 23, 21, 19, 16, 7, 26, 12, 18, 6, 11, 5, 10, 9]
def nums1 : List Int := [0, 1, 56, 2, 57, 49, 28, 3, 61, 58, 42, 50, 38, 29, 17, 4, 62, 47, 59, 36, 45, 43, 51, 22, 53, 39, 33, 30, 24, 18, 12, 5, 63, 55, 48, 27, 60, 41, 37, 16, 46, 35, 44, 21, 52, 32, 23, 11, 54, 26, 40, 15, 34, 20, 31, 10, 25, 14, 19, 9, 13, 8, 7, 6]
def nums2 : List Int := [1, 10, 100, 1000, 10000, 100000, 1000000, 10000000, 100000000, 1000000000, 10000000000, 100000000000, 1000000000000, 10000000000000, 100000000000000, 1000000000000000, 10000000000000000, 100000000000000000, 1000000000000000000, 10000000000000000000]
noncomputable def tabs : Tabs := [(1, nums0.map fun z => Value.int .u8 z), (2, nums1.map fun z => Value.int .u8 z), (0, nums2.map fun z => Value.int .u64 z)]
namespace rows
instance said : Ext := ⟨fun _ w => TabsOK tabs w⟩
theorem none_known : ∀ f ∈ ([] : List FuncId), ∀ w : World, TabsOK tabs w → Calls Tryd.prog f #[] w fun e w' => e = .returned (.bool true) ∧ Below w.heap.size w w' := by
  intro f hf
  cases hf
theorem ran : Go.Ev.runT Tryd.prog tabs [] 20000 13 = true := by kernel_rfl
theorem works (w : World) (h : TabsOK tabs w) : Calls Tryd.prog 13 #[] w fun e w' => e = .returned (.bool true) ∧ Below w.heap.size w w' :=
  runT_calls (noNG_of noNG) mixed (fun _ _ h => h) none_known ran w h h
end rows
theorem tab_pow {w : World} (h : TabsOK tabs w) : Go.Lib.TabIs Tryd.prog w "internal/strconv.uint64pow10" .u64 Go.Lib.pow10Tab := by
  obtain ⟨c, e, fr, h1, h2⟩ := h 0 (nums2.map fun z => Value.int .u64 z) rfl
  have hg : Tryd.prog.globalNamed "internal/strconv.uint64pow10" = some 0 := by kernel_rfl
  unfold Go.Lib.TabIs World.var?
  simp only [hg, Option.bind_some, h1]
  have e : Go.Lib.pow10Tab = nums2 := by decide
  rw [e, ← h2]
theorem itoaOK {w : World} (h : TabsOK tabs w) : ItoaOK w := fun n hn w' h1 h2 => by
  refine (Tryd.strconv_Itoa n hn.1 hn.2 w' (tab_pow (h.of_old h2))).mono ?_
  rintro e w'' ⟨rfl, k, os, rfl⟩
  exact ⟨rfl, Go.Lib.below_grow _ _ (Nat.le_refl _) k os⟩
end
end Go.Proofs.YtjfbakhebdhbmaaDoor.event
