/-
  Events: what the kernel runs.
-/
import Derived.Test.YtjfbakhebdhbmaaDoorTxC
namespace Go.Proofs.YtjfbakhebdhbmaaDoor.event
open Go.Ev Go.RowKit
set_option linter.unusedVariables false
noncomputable section
theorem emk0RRRR : Go.Ev.chkX (emlf emc0) emt0RRRR (Go.Ev.ivLo (Go.Ev.ivLo (Go.Ev.ivLo (Go.Ev.ivLo emiv0 13 (0 + 1)) 13 (1 + 1)) 21 (-1 + 1)) 21 (0 + 1)) [] = true := by kernel_rfl
theorem eck0 : Go.Ev.chkX (eclf ecc0) ect0 eciv0 [] = true := by kernel_rfl
theorem eck4 : Go.Ev.chkX (eclf ecc4) ect4 eciv0 [] = true := by kernel_rfl
theorem eck10 : Go.Ev.chkX (eclf ecc10) ect10 eciv0 [] = true := by kernel_rfl
theorem eck16 : Go.Ev.chkX (eclf ecc16) ect16 eciv0 [] = true := by kernel_rfl
theorem eck22 : Go.Ev.chkX (eclf ecc22) ect22 eciv0 [] = true := by kernel_rfl
theorem etk2LLLRLRLRLL : Go.Ev.chkX (etlf etc2) ett2LLLRLRLRLL (Go.Ev.ivHi (Go.Ev.ivHi (Go.Ev.ivLo (Go.Ev.ivHi (Go.Ev.ivLo (Go.Ev.ivHi (Go.Ev.ivLo (Go.Ev.ivHi (Go.Ev.ivHi (Go.Ev.ivHi eciv0 12 (250)) 13 (2)) 12 (0)) 5 (-1 + 1)) 5 (0)) 6 (-1 + 1)) 6 (0)) 7 (-1 + 1)) 7 (0)) 8 (-1)) [] = true := by kernel_rfl
theorem etk1 : Go.Ev.chkX (etlf etc1) ett1 eciv0 [] = true := by kernel_rfl
theorem eck30 : Go.Ev.chkX (eclf ecc30) ect30 eciv0 [] = true := by kernel_rfl
theorem eck34 : Go.Ev.chkX (eclf ecc34) ect34 eciv0 [] = true := by kernel_rfl
theorem eck40 : Go.Ev.chkX (eclf ecc40) ect40 eciv0 [] = true := by kernel_rfl
theorem eck46 : Go.Ev.chkX (eclf ecc46) ect46 eciv0 [] = true := by kernel_rfl
theorem eck52 : Go.Ev.chkX (eclf ecc52) ect52 eciv0 [] = true := by kernel_rfl
theorem eck26 : Go.Ev.chkX (eclf ecc26) ect26 eciv26 [] = true := by kernel_rfl
end
end Go.Proofs.YtjfbakhebdhbmaaDoor.event
