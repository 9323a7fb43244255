/-
  Events: what the kernel runs.
-/
import Derived.Test.YtjfbakhebdhbmaaDoorTxC
namespace Go.Proofs.YtjfbakhebdhbmaaDoor.event
open Go.Ev Go.RowKit
set_option linter.unusedVariables false
noncomputable section
theorem emk0RRL : Go.Ev.chkX (emlf emc0) emt0RRL (Go.Ev.ivHi (Go.Ev.ivLo (Go.Ev.ivLo emiv0 13 (0 + 1)) 13 (1 + 1)) 21 (-1)) [] = true := by kernel_rfl
theorem efk2 : Go.Ev.chkX (eflf efc2) eft2 eciv0 [] = true := by kernel_rfl
theorem eck5 : Go.Ev.chkX (eclf ecc5) ect5 eciv0 [] = true := by kernel_rfl
theorem eck11 : Go.Ev.chkX (eclf ecc11) ect11 eciv0 [] = true := by kernel_rfl
theorem eck17 : Go.Ev.chkX (eclf ecc17) ect17 eciv0 [] = true := by kernel_rfl
theorem eck24 : Go.Ev.chkX (eclf ecc24) ect24 eciv0 [] = true := by kernel_rfl
theorem efk0 : Go.Ev.chkX (eflf efc0) eft0 eciv0 [] = true := by kernel_rfl
theorem etk2LLLRLRLRR : Go.Ev.chkX (etlf etc2) ett2LLLRLRLRR (Go.Ev.ivLo (Go.Ev.ivLo (Go.Ev.ivHi (Go.Ev.ivLo (Go.Ev.ivHi (Go.Ev.ivLo (Go.Ev.ivHi (Go.Ev.ivHi (Go.Ev.ivHi eciv0 12 (250)) 13 (2)) 12 (0)) 5 (-1 + 1)) 5 (0)) 6 (-1 + 1)) 6 (0)) 7 (-1 + 1)) 7 (0 + 1)) [] = true := by kernel_rfl
theorem eck36 : Go.Ev.chkX (eclf ecc36) ect36 eciv0 [] = true := by kernel_rfl
theorem eck42 : Go.Ev.chkX (eclf ecc42) ect42 eciv0 [] = true := by kernel_rfl
theorem eck48 : Go.Ev.chkX (eclf ecc48) ect48 eciv0 [] = true := by kernel_rfl
theorem etk4 : Go.Ev.chkX (etlf etc4) ett4 eciv0 [] = true := by kernel_rfl
end
end Go.Proofs.YtjfbakhebdhbmaaDoor.event
