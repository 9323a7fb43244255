/-
  Events: what the kernel runs.
-/
import Derived.Test.YtjfbakhebdhbmaaDoorTxT
namespace Go.Proofs.YtjfbakhebdhbmaaDoor.event
open Go.Ev Go.RowKit
set_option linter.unusedVariables false
noncomputable section
theorem xt10xk0 : Go.Ev.chkX (xt10xlf xt10xc0) xt10xt0 xt1xiv0 [] = true := by kernel_rfl
theorem xt3xk0 : Go.Ev.chkX (xt3xlf xt3xc0) xt3xt0 xt1xiv0 [] = true := by kernel_rfl
theorem xt9xk0 : Go.Ev.chkX (xt9xlf xt9xc0) xt9xt0 xt1xiv0 [] = true := by kernel_rfl
theorem xt21xk0 : Go.Ev.chkX (xt21xlf xt21xc0) xt21xt0 xt1xiv0 [] = true := by kernel_rfl
theorem fik2 : Go.Ev.chkX (filf fic2) fit2 fiiv0 [] = true := by kernel_rfl
theorem fik6 : Go.Ev.chkX (filf fic6) fit6 fiiv0 [] = true := by kernel_rfl
theorem fik10 : Go.Ev.chkX (filf fic10) fit10 fiiv0 [] = true := by kernel_rfl
theorem fik14 : Go.Ev.chkX (filf fic14) fit14 fiiv0 [] = true := by kernel_rfl
theorem fik18 : Go.Ev.chkX (filf fic18) fit18 fiiv0 [] = true := by kernel_rfl
theorem fik22 : Go.Ev.chkX (filf fic22) fit22 fiiv0 [] = true := by kernel_rfl
theorem fik26 : Go.Ev.chkX (filf fic26) fit26 fiiv0 [] = true := by kernel_rfl
theorem xt11xk0 : Go.Ev.chkX (xt11xlf xt11xc0) xt11xt0 xt1xiv0 [] = true := by kernel_rfl
theorem xt20xk0 : Go.Ev.chkX (xt20xlf xt20xc0) xt20xt0 xt1xiv0 [] = true := by kernel_rfl
theorem xt25xk0 : Go.Ev.chkX (xt25xlf xt25xc0) xt25xt0 xt1xiv0 [] = true := by kernel_rfl
theorem puk1 : Go.Ev.chkX (pulf puc1) put1 puiv0 [] = true := by kernel_rfl
theorem puk2 : Go.Ev.chkX (pulf puc2) put2 puiv0 [] = true := by kernel_rfl
end
end Go.Proofs.YtjfbakhebdhbmaaDoor.event
