/-
  Events: what the kernel runs.
-/
import Derived.Test.YtjfbakhebdhbmaaDoorTxC
namespace Go.Proofs.YtjfbakhebdhbmaaDoor.event
open Go.Ev Go.RowKit
set_option linter.unusedVariables false
noncomputable section
theorem eck1 : Go.Ev.chkX (eclf ecc1) ect1 eciv0 [] = true := by kernel_rfl
theorem eck6 : Go.Ev.chkX (eclf ecc6) ect6 eciv0 [] = true := by kernel_rfl
theorem eck12 : Go.Ev.chkX (eclf ecc12) ect12 eciv0 [] = true := by kernel_rfl
theorem eck18 : Go.Ev.chkX (eclf ecc18) ect18 eciv0 [] = true := by kernel_rfl
theorem eck25 : Go.Ev.chkX (eclf ecc25) ect25 eciv0 [] = true := by kernel_rfl
theorem etk0 : Go.Ev.chkX (etlf etc0) ett0 eciv0 [] = true := by kernel_rfl
theorem etk2LLLRLRLL : Go.Ev.chkX (etlf etc2) ett2LLLRLRLL (Go.Ev.ivHi (Go.Ev.ivHi (Go.Ev.ivLo (Go.Ev.ivHi (Go.Ev.ivLo (Go.Ev.ivHi (Go.Ev.ivHi (Go.Ev.ivHi eciv0 12 (250)) 13 (2)) 12 (0)) 5 (-1 + 1)) 5 (0)) 6 (-1 + 1)) 6 (0)) 7 (-1)) [] = true := by kernel_rfl
theorem eck35 : Go.Ev.chkX (eclf ecc35) ect35 eciv0 [] = true := by kernel_rfl
theorem eck41 : Go.Ev.chkX (eclf ecc41) ect41 eciv0 [] = true := by kernel_rfl
theorem eck47 : Go.Ev.chkX (eclf ecc47) ect47 eciv0 [] = true := by kernel_rfl
theorem etk3 : Go.Ev.chkX (etlf etc3) ett3 eciv0 [] = true := by kernel_rfl
theorem etk2LLR : Go.Ev.chkX (etlf etc2) ett2LLR (Go.Ev.ivLo (Go.Ev.ivHi (Go.Ev.ivHi eciv0 12 (250)) 13 (2)) 12 (0 + 1)) [] = true := by kernel_rfl
end
end Go.Proofs.YtjfbakhebdhbmaaDoor.event
