/-
  Events: what the kernel runs.
-/
import Derived.Test.YtjfbakhebdhbmaaDoorTxT
namespace Go.Proofs.YtjfbakhebdhbmaaDoor.event
open Go.Ev Go.RowKit
set_option linter.unusedVariables false
noncomputable section
theorem xt28xk0 : Go.Ev.chkX (xt28xlf xt28xc0) xt28xt0 xt15xiv0 [] = true := by kernel_rfl
theorem xt1xk0 : Go.Ev.chkX (xt1xlf xt1xc0) xt1xt0 xt1xiv0 [] = true := by kernel_rfl
theorem xt8xk0 : Go.Ev.chkX (xt8xlf xt8xc0) xt8xt0 xt1xiv0 [] = true := by kernel_rfl
theorem xt7xk0 : Go.Ev.chkX (xt7xlf xt7xc0) xt7xt0 xt1xiv0 [] = true := by kernel_rfl
theorem xt14xk0 : Go.Ev.chkX (xt14xlf xt14xc0) xt14xt0 xt1xiv0 [] = true := by kernel_rfl
theorem fik1 : Go.Ev.chkX (filf fic1) fit1 fiiv0 [] = true := by kernel_rfl
theorem fik5 : Go.Ev.chkX (filf fic5) fit5 fiiv0 [] = true := by kernel_rfl
theorem fik9 : Go.Ev.chkX (filf fic9) fit9 fiiv0 [] = true := by kernel_rfl
theorem fik13 : Go.Ev.chkX (filf fic13) fit13 fiiv0 [] = true := by kernel_rfl
theorem fik17 : Go.Ev.chkX (filf fic17) fit17 fiiv0 [] = true := by kernel_rfl
theorem fik21 : Go.Ev.chkX (filf fic21) fit21 fiiv0 [] = true := by kernel_rfl
theorem fik25 : Go.Ev.chkX (filf fic25) fit25 fiiv0 [] = true := by kernel_rfl
theorem xt6xk0 : Go.Ev.chkX (xt6xlf xt6xc0) xt6xt0 xt1xiv0 [] = true := by kernel_rfl
theorem xt19xk0 : Go.Ev.chkX (xt19xlf xt19xc0) xt19xt0 xt1xiv0 [] = true := by kernel_rfl
theorem xt24xk0 : Go.Ev.chkX (xt24xlf xt24xc0) xt24xt0 xt1xiv0 [] = true := by kernel_rfl
theorem xr29xk0 : Go.Ev.chkX (xr29xlf xr29xc0) xr29xt0 xt1xiv0 [] = true := by kernel_rfl
theorem xr22xk0 : Go.Ev.chkX (xr22xlf xr22xc0) xr22xt0 xt1xiv0 [] = true := by kernel_rfl
theorem xr20xk0 : Go.Ev.chkX (xr20xlf xr20xc0) xr20xt0 xt1xiv0 [] = true := by kernel_rfl
theorem xr19xk0 : Go.Ev.chkX (xr19xlf xr19xc0) xr19xt0 xt1xiv0 [] = true := by kernel_rfl
theorem xr5xk0 : Go.Ev.chkX (xr5xlf xr5xc0) xr5xt0 xt1xiv0 [] = true := by kernel_rfl
theorem xr18xk0 : Go.Ev.chkX (xr18xlf xr18xc0) xr18xt0 xt1xiv0 [] = true := by kernel_rfl
theorem xr6xk0 : Go.Ev.chkX (xr6xlf xr6xc0) xr6xt0 xt1xiv0 [] = true := by kernel_rfl
theorem puk0 : Go.Ev.chkX (pulf puc0) put0 puiv0 [] = true := by kernel_rfl
end
end Go.Proofs.YtjfbakhebdhbmaaDoor.event
