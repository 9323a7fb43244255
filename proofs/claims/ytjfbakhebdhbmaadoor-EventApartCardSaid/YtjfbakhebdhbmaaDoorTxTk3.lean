/-
  Events: what the kernel runs.
-/
import Derived.Test.YtjfbakhebdhbmaaDoorTxT
namespace Go.Proofs.YtjfbakhebdhbmaaDoor.event
open Go.Ev Go.RowKit
set_option linter.unusedVariables false
noncomputable section
theorem xt17xk0 : Go.Ev.chkX (xt17xlf xt17xc0) xt17xt0 xt15xiv0 [] = true := by kernel_rfl
theorem xt26xk0 : Go.Ev.chkX (xt26xlf xt26xc0) xt26xt0 xt26xiv0 [] = true := by kernel_rfl
theorem xt2xk0 : Go.Ev.chkX (xt2xlf xt2xc0) xt2xt0 xt1xiv0 [] = true := by kernel_rfl
theorem xt4xk0 : Go.Ev.chkX (xt4xlf xt4xc0) xt4xt0 xt1xiv0 [] = true := by kernel_rfl
theorem xt12xk0 : Go.Ev.chkX (xt12xlf xt12xc0) xt12xt0 xt1xiv0 [] = true := by kernel_rfl
theorem xt29xk0 : Go.Ev.chkX (xt29xlf xt29xc0) xt29xt0 xt1xiv0 [] = true := by kernel_rfl
theorem fik4 : Go.Ev.chkX (filf fic4) fit4 fiiv0 [] = true := by kernel_rfl
theorem fik8 : Go.Ev.chkX (filf fic8) fit8 fiiv0 [] = true := by kernel_rfl
theorem fik12 : Go.Ev.chkX (filf fic12) fit12 fiiv0 [] = true := by kernel_rfl
theorem fik16 : Go.Ev.chkX (filf fic16) fit16 fiiv0 [] = true := by kernel_rfl
theorem fik20 : Go.Ev.chkX (filf fic20) fit20 fiiv0 [] = true := by kernel_rfl
theorem fik24 : Go.Ev.chkX (filf fic24) fit24 fiiv0 [] = true := by kernel_rfl
theorem fik28 : Go.Ev.chkX (filf fic28) fit28 fiiv0 [] = true := by kernel_rfl
theorem xt18xk0 : Go.Ev.chkX (xt18xlf xt18xc0) xt18xt0 xt1xiv0 [] = true := by kernel_rfl
theorem xt23xk0 : Go.Ev.chkX (xt23xlf xt23xc0) xt23xt0 xt1xiv0 [] = true := by kernel_rfl
end
end Go.Proofs.YtjfbakhebdhbmaaDoor.event
