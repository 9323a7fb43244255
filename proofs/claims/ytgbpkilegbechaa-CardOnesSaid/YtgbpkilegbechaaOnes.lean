/-
  'CardOnes': the law at any kind, field and number, by cases: what the kernel runs.
-/
import Derived.Test.YtgbpkilegbechaaRows
import Derived.Test.YtgbpkilegbechaaEvZ
namespace Go.Proofs.Ytgbpkilegbechaa.ones
open Go.RowKit
set_option linter.unusedVariables false
theorem noNG : Go.Ev.noNGb Try.prog = true := by kernel_rfl
theorem mixed : Try.prog.follows .mixedOrders = true := by kernel_rfl
def E (K F : Nat) (iv : Go.Ev.Ivs) (fs : List Go.Ev.Fact) : Go.Ev.Env := ⟨fun _ => none, Go.Ev.ivAt iv, fs ++ [.bin .rem (.sint .u8 0) (.int .u8 4) (.int .u8 (K : Int)), .bin .rem (.sint .u8 1) (.int .u8 24) (.int .u8 (F : Int))], fun _ => none⟩
def KT : List Go.Ev.KE := [⟨10, [], [], .bool true⟩]
def iv0 : Go.Ev.Ivs := [(0, 255), (0, 255), (-9223372036854775808, 9223372036854775807)]
noncomputable def lc (K F : Nat) (iv : Go.Ev.Ivs) (fs : List Go.Ev.Fact) : Bool := Go.Ev.trueB Try.prog KT 20000 4 [.sint .u8 0, .sint .u8 1, Go.Ev.sv iv .i64 2] (E K F iv fs)
end Go.Proofs.Ytgbpkilegbechaa.ones
