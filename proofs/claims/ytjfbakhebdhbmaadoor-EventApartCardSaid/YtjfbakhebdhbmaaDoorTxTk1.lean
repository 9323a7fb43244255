/-
  Events: what the kernel runs.
-/
import Derived.Test.YtjfbakhebdhbmaaDoorTxT
namespace Go.Proofs.YtjfbakhebdhbmaaDoor.event
open Go.Ev Go.RowKit
set_option linter.unusedVariables false
noncomputable section
theorem xt28xk0 : Go.Ev.chkX (xt28xlf xt28xc0) xt28xt0 xt15xiv0 [] = true := by kernel_rfl
theorem xt1xk0 : Go.Ev.chkX (xt1xlf xt1xc0) xt1xt0 xt1xiv0 [] = true := by kernel_rfl
theorem xt8xk0 : Go.Ev.chkX (xt8xlf xt8xc0) xt8xt0 xt1xiv0 [] = true := by kernel_rfl
theorem xt7xk0 : Go.Ev.chkX (xt7xlf xt7xc0) xt7xt0 xt1xiv0 [] = true := by kernel_rfl
theorem xt14xk0 : Go.Ev.chkX (xt14xlf xt14xc0) xt14xt0 xt1xiv0 [] = true := by kernel_rfl
theorem fik1 : Go.Ev.chkX (filf fic1) fit1 fiiv0 [] = true := by kernel_rfl
theorem fik5 : Go.Ev.chkX (filf fic5) fit5 fiiv0 [] = true := by kernel_rfl
theorem fik9 : Go.Ev.chkX (filf fic9) fit9 fiiv0 [] = true := by kernel_rfl
theorem fik13 : Go.Ev.chkX (filf fic13) fit13 fiiv0 [] = true := by kernel_rfl
theorem fik17 : Go.Ev.chkX (filf fic17) fit17 fiiv0 [] = true := by kernel_rfl
theorem fik21 : Go.Ev.chkX (filf fic21) fit21 fiiv0 [] = true := by kernel_rfl
theorem fik25 : Go.Ev.chkX (filf fic25) fit25 fiiv0 [] = true := by kernel_rfl
theorem xt6xk0 : Go.Ev.chkX (xt6xlf xt6xc0) xt6xt0 xt1xiv0 [] = true := by kernel_rfl
theorem xt19xk0 : Go.Ev.chkX (xt19xlf xt19xc0) xt19xt0 xt1xiv0 [] = true := by kernel_rfl
theorem xt24xk0 : Go.Ev.chkX (xt24xlf xt24xc0) xt24xt0 xt1xiv0 [] = true := by kernel_rfl
theorem puk0 : Go.Ev.chkX (pulf puc0) put0 puiv0 [] = true := by kernel_rfl
end
end Go.Proofs.YtjfbakhebdhbmaaDoor.event
