/-
  works() of chapter 6 answers true. It takes no argument. The kernel runs the evaluator of the texts before (Go.Ev), which is proved sound for the model.
-/
import Derived.Test.YtmmmknhdigapkaaRows
import Derived.Test.YtmmmknhdigapkaaEvPd
namespace Go.Proofs.Ytmmmknhdigapkaa.poolKnown
open Go.RowKit

theorem noNG : Go.Ev.noNGb Try.prog = true := by kernel_rfl
theorem mixed : Try.prog.follows .mixedOrders = true := by kernel_rfl
theorem ran12 : Go.Ev.runC Try.prog [13] [29, 30, 31, 46, 49, 50, 51, 70, 71, 72, 73] 1 20000 12 = true := by kernel_rfl
theorem walk12 (w : World) : Calls Try.prog 12 #[] w fun e w' => e = .returned (.bool true) ∧ Below w.heap.size w w' :=
  Go.Ev.runC_calls (Go.Ev.noNG_of noNG) mixed ran12 w
end Go.Proofs.Ytmmmknhdigapkaa.poolKnown
