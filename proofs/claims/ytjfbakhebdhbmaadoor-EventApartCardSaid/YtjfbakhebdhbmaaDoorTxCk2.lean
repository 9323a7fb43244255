/-
  Events: what the kernel runs.
-/
import Derived.Test.YtjfbakhebdhbmaaDoorTxC
namespace Go.Proofs.YtjfbakhebdhbmaaDoor.event
open Go.Ev Go.RowKit
set_option linter.unusedVariables false
noncomputable section
theorem emk0RL : Go.Ev.chkX (emlf emc0) emt0RL (Go.Ev.ivHi (Go.Ev.ivLo emiv0 13 (0 + 1)) 13 (1)) [] = true := by kernel_rfl
theorem etk2LLLL : Go.Ev.chkX (etlf etc2) ett2LLLL (Go.Ev.ivHi (Go.Ev.ivHi (Go.Ev.ivHi (Go.Ev.ivHi eciv0 12 (250)) 13 (2)) 12 (0)) 5 (-1)) [] = true := by kernel_rfl
theorem eck2 : Go.Ev.chkX (eclf ecc2) ect2 eciv0 [] = true := by kernel_rfl
theorem eck7 : Go.Ev.chkX (eclf ecc7) ect7 eciv0 [] = true := by kernel_rfl
theorem eck13 : Go.Ev.chkX (eclf ecc13) ect13 eciv0 [] = true := by kernel_rfl
theorem eck19 : Go.Ev.chkX (eclf ecc19) ect19 eciv0 [] = true := by kernel_rfl
theorem eck23 : Go.Ev.chkX (eclf ecc23) ect23 eciv0 [] = true := by kernel_rfl
theorem emk0L : Go.Ev.chkX (emlf emc0) emt0L (Go.Ev.ivHi emiv0 13 (0)) [] = true := by kernel_rfl
theorem efk1 : Go.Ev.chkX (eflf efc1) eft1 eciv0 [] = true := by kernel_rfl
theorem eck31 : Go.Ev.chkX (eclf ecc31) ect31 eciv0 [] = true := by kernel_rfl
theorem eck37 : Go.Ev.chkX (eclf ecc37) ect37 eciv0 [] = true := by kernel_rfl
theorem eck43 : Go.Ev.chkX (eclf ecc43) ect43 eciv0 [] = true := by kernel_rfl
theorem eck49 : Go.Ev.chkX (eclf ecc49) ect49 eciv0 [] = true := by kernel_rfl
theorem etk5 : Go.Ev.chkX (etlf etc5) ett5 eciv0 [] = true := by kernel_rfl
theorem etk2LR : Go.Ev.chkX (etlf etc2) ett2LR (Go.Ev.ivLo (Go.Ev.ivHi eciv0 12 (250)) 13 (2 + 1)) [] = true := by kernel_rfl
end
end Go.Proofs.YtjfbakhebdhbmaaDoor.event
