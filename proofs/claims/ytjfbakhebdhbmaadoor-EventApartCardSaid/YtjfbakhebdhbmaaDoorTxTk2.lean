/-
  Events: what the kernel runs.
-/
import Derived.Test.YtjfbakhebdhbmaaDoorTxT
namespace Go.Proofs.YtjfbakhebdhbmaaDoor.event
open Go.Ev Go.RowKit
set_option linter.unusedVariables false
noncomputable section
theorem xt15xk0 : Go.Ev.chkX (xt15xlf xt15xc0) xt15xt0 xt15xiv0 [] = true := by kernel_rfl
theorem xt5xk0 : Go.Ev.chkX (xt5xlf xt5xc0) xt5xt0 xt1xiv0 [] = true := by kernel_rfl
theorem xt13xk0 : Go.Ev.chkX (xt13xlf xt13xc0) xt13xt0 xt1xiv0 [] = true := by kernel_rfl
theorem fik0 : Go.Ev.chkX (filf fic0) fit0 fiiv0 [] = true := by kernel_rfl
theorem fik3 : Go.Ev.chkX (filf fic3) fit3 fiiv0 [] = true := by kernel_rfl
theorem fik7 : Go.Ev.chkX (filf fic7) fit7 fiiv0 [] = true := by kernel_rfl
theorem fik11 : Go.Ev.chkX (filf fic11) fit11 fiiv0 [] = true := by kernel_rfl
theorem fik15 : Go.Ev.chkX (filf fic15) fit15 fiiv0 [] = true := by kernel_rfl
theorem fik19 : Go.Ev.chkX (filf fic19) fit19 fiiv0 [] = true := by kernel_rfl
theorem fik23 : Go.Ev.chkX (filf fic23) fit23 fiiv0 [] = true := by kernel_rfl
theorem fik27 : Go.Ev.chkX (filf fic27) fit27 fiiv0 [] = true := by kernel_rfl
theorem xt16xk0 : Go.Ev.chkX (xt16xlf xt16xc0) xt16xt0 xt1xiv0 [] = true := by kernel_rfl
theorem xt22xk0 : Go.Ev.chkX (xt22xlf xt22xc0) xt22xt0 xt1xiv0 [] = true := by kernel_rfl
theorem xt27xk0 : Go.Ev.chkX (xt27xlf xt27xc0) xt27xt0 xt1xiv0 [] = true := by kernel_rfl
theorem xyk0 : Go.Ev.chkX (xylf xyc0) xyt0 xyiv0 [] = true := by kernel_rfl
end
end Go.Proofs.YtjfbakhebdhbmaaDoor.event
