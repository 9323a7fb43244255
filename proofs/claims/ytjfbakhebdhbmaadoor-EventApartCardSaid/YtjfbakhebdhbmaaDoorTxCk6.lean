/-
  Events: what the kernel runs.
-/
import Derived.Test.YtjfbakhebdhbmaaDoorTxC
namespace Go.Proofs.YtjfbakhebdhbmaaDoor.event
open Go.Ev Go.RowKit
set_option linter.unusedVariables false
noncomputable section
theorem emk0RRRL : Go.Ev.chkX (emlf emc0) emt0RRRL (Go.Ev.ivHi (Go.Ev.ivLo (Go.Ev.ivLo (Go.Ev.ivLo emiv0 13 (0 + 1)) 13 (1 + 1)) 21 (-1 + 1)) 21 (0)) [] = true := by kernel_rfl
theorem etk2LLLRR : Go.Ev.chkX (etlf etc2) ett2LLLRR (Go.Ev.ivLo (Go.Ev.ivLo (Go.Ev.ivHi (Go.Ev.ivHi (Go.Ev.ivHi eciv0 12 (250)) 13 (2)) 12 (0)) 5 (-1 + 1)) 5 (0 + 1)) [] = true := by kernel_rfl
theorem eck9 : Go.Ev.chkX (eclf ecc9) ect9 eciv0 [] = true := by kernel_rfl
theorem eck15 : Go.Ev.chkX (eclf ecc15) ect15 eciv0 [] = true := by kernel_rfl
theorem eck21 : Go.Ev.chkX (eclf ecc21) ect21 eciv0 [] = true := by kernel_rfl
theorem etk2LLLRLL : Go.Ev.chkX (etlf etc2) ett2LLLRLL (Go.Ev.ivHi (Go.Ev.ivHi (Go.Ev.ivLo (Go.Ev.ivHi (Go.Ev.ivHi (Go.Ev.ivHi eciv0 12 (250)) 13 (2)) 12 (0)) 5 (-1 + 1)) 5 (0)) 6 (-1)) [] = true := by kernel_rfl
theorem eck53 : Go.Ev.chkX (eclf ecc53) ect53 eciv0 [] = true := by kernel_rfl
theorem eck28 : Go.Ev.chkX (eclf ecc28) ect28 eciv0 [] = true := by kernel_rfl
theorem eck32 : Go.Ev.chkX (eclf ecc32) ect32 eciv0 [] = true := by kernel_rfl
theorem eck38 : Go.Ev.chkX (eclf ecc38) ect38 eciv0 [] = true := by kernel_rfl
theorem eck44 : Go.Ev.chkX (eclf ecc44) ect44 eciv0 [] = true := by kernel_rfl
theorem eck50 : Go.Ev.chkX (eclf ecc50) ect50 eciv0 [] = true := by kernel_rfl
theorem efk3 : Go.Ev.chkX (eflf efc3) eft3 eciv0 [] = true := by kernel_rfl
end
end Go.Proofs.YtjfbakhebdhbmaaDoor.event
