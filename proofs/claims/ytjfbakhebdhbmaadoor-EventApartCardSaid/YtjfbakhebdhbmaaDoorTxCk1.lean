/-
  Events: what the kernel runs.
-/
import Derived.Test.YtjfbakhebdhbmaaDoorTxC
namespace Go.Proofs.YtjfbakhebdhbmaaDoor.event
open Go.Ev Go.RowKit
set_option linter.unusedVariables false
noncomputable section
theorem etk2LLLRLRLRLR : Go.Ev.chkX (etlf etc2) ett2LLLRLRLRLR (Go.Ev.ivLo (Go.Ev.ivHi (Go.Ev.ivLo (Go.Ev.ivHi (Go.Ev.ivLo (Go.Ev.ivHi (Go.Ev.ivLo (Go.Ev.ivHi (Go.Ev.ivHi (Go.Ev.ivHi eciv0 12 (250)) 13 (2)) 12 (0)) 5 (-1 + 1)) 5 (0)) 6 (-1 + 1)) 6 (0)) 7 (-1 + 1)) 7 (0)) 8 (-1 + 1)) [] = true := by kernel_rfl
theorem etk2LLLRLRR : Go.Ev.chkX (etlf etc2) ett2LLLRLRR (Go.Ev.ivLo (Go.Ev.ivLo (Go.Ev.ivHi (Go.Ev.ivLo (Go.Ev.ivHi (Go.Ev.ivHi (Go.Ev.ivHi eciv0 12 (250)) 13 (2)) 12 (0)) 5 (-1 + 1)) 5 (0)) 6 (-1 + 1)) 6 (0 + 1)) [] = true := by kernel_rfl
theorem eck3 : Go.Ev.chkX (eclf ecc3) ect3 eciv0 [] = true := by kernel_rfl
theorem eck8 : Go.Ev.chkX (eclf ecc8) ect8 eciv0 [] = true := by kernel_rfl
theorem eck14 : Go.Ev.chkX (eclf ecc14) ect14 eciv0 [] = true := by kernel_rfl
theorem eck20 : Go.Ev.chkX (eclf ecc20) ect20 eciv0 [] = true := by kernel_rfl
theorem eck29 : Go.Ev.chkX (eclf ecc29) ect29 eciv0 [] = true := by kernel_rfl
theorem eck33 : Go.Ev.chkX (eclf ecc33) ect33 eciv0 [] = true := by kernel_rfl
theorem eck39 : Go.Ev.chkX (eclf ecc39) ect39 eciv0 [] = true := by kernel_rfl
theorem eck45 : Go.Ev.chkX (eclf ecc45) ect45 eciv0 [] = true := by kernel_rfl
theorem eck51 : Go.Ev.chkX (eclf ecc51) ect51 eciv0 [] = true := by kernel_rfl
theorem eck27 : Go.Ev.chkX (eclf ecc27) ect27 eciv27 [] = true := by kernel_rfl
theorem etk2R : Go.Ev.chkX (etlf etc2) ett2R (Go.Ev.ivLo eciv0 12 (250 + 1)) [] = true := by kernel_rfl
end
end Go.Proofs.YtjfbakhebdhbmaaDoor.event
