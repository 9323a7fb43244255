/-
  Events: what the kernel runs.
-/
import Derived.Test.YtjfbakhebdhbmaaDoorTxC
namespace Go.Proofs.YtjfbakhebdhbmaaDoor.event
open Go.Ev Go.RowKit
set_option linter.unusedVariables false
noncomputable section
theorem emk0RRL : Go.Ev.chkX (emlf emc0) emt0RRL (Go.Ev.ivHi (Go.Ev.ivLo (Go.Ev.ivLo emiv0 13 (0 + 1)) 13 (1 + 1)) 21 (-1)) [] = true := by kernel_rfl
theorem rck25 : Go.Ev.chkX (rclf rcc25) rct25 eciv0 [] = true := by kernel_rfl
theorem rck20 : Go.Ev.chkX (rclf rcc20) rct20 eciv0 [] = true := by kernel_rfl
theorem rck7 : Go.Ev.chkX (rclf rcc7) rct7 eciv0 [] = true := by kernel_rfl
theorem rck13 : Go.Ev.chkX (rclf rcc13) rct13 eciv0 [] = true := by kernel_rfl
theorem rck10 : Go.Ev.chkX (rclf rcc10) rct10 eciv0 [] = true := by kernel_rfl
theorem efk2 : Go.Ev.chkX (eflf efc2) eft2 eciv0 [] = true := by kernel_rfl
theorem eck5 : Go.Ev.chkX (eclf ecc5) ect5 eciv0 [] = true := by kernel_rfl
theorem eck11 : Go.Ev.chkX (eclf ecc11) ect11 eciv0 [] = true := by kernel_rfl
theorem eck17 : Go.Ev.chkX (eclf ecc17) ect17 eciv0 [] = true := by kernel_rfl
theorem eck24 : Go.Ev.chkX (eclf ecc24) ect24 eciv0 [] = true := by kernel_rfl
theorem rtk1 : Go.Ev.chkX (rtlf rtc1) rtt1 eciv0 [] = true := by kernel_rfl
theorem rtk2LLRLRLRLRLLRR : Go.Ev.chkX (rtlf rtc2) rtt2LLRLRLRLRLLRR (Go.Ev.ivLo (Go.Ev.ivLo (Go.Ev.ivHi (Go.Ev.ivHi (Go.Ev.ivLo (Go.Ev.ivHi (Go.Ev.ivLo (Go.Ev.ivHi (Go.Ev.ivLo (Go.Ev.ivHi (Go.Ev.ivLo (Go.Ev.ivHi (Go.Ev.ivHi eciv0 12 (250)) 13 (2)) 1 (-1 + 1)) 1 (0)) 2 (-1 + 1)) 2 (0)) 3 (-1 + 1)) 3 (1)) 4 (-1 + 1)) 4 (0)) 12 (0)) 5 (-1 + 1)) 5 (0 + 1)) [] = true := by kernel_rfl
theorem rck27 : Go.Ev.chkX (rclf rcc27) rct27 eciv27 [] = true := by kernel_rfl
theorem rck39 : Go.Ev.chkX (rclf rcc39) rct39 eciv0 [] = true := by kernel_rfl
theorem rck51 : Go.Ev.chkX (rclf rcc51) rct51 eciv0 [] = true := by kernel_rfl
theorem rck63 : Go.Ev.chkX (rclf rcc63) rct63 eciv0 [] = true := by kernel_rfl
theorem rck75 : Go.Ev.chkX (rclf rcc75) rct75 eciv0 [] = true := by kernel_rfl
theorem efk0 : Go.Ev.chkX (eflf efc0) eft0 eciv0 [] = true := by kernel_rfl
theorem etk2LLLRLRLRR : Go.Ev.chkX (etlf etc2) ett2LLLRLRLRR (Go.Ev.ivLo (Go.Ev.ivLo (Go.Ev.ivHi (Go.Ev.ivLo (Go.Ev.ivHi (Go.Ev.ivLo (Go.Ev.ivHi (Go.Ev.ivHi (Go.Ev.ivHi eciv0 12 (250)) 13 (2)) 12 (0)) 5 (-1 + 1)) 5 (0)) 6 (-1 + 1)) 6 (0)) 7 (-1 + 1)) 7 (0 + 1)) [] = true := by kernel_rfl
theorem eck36 : Go.Ev.chkX (eclf ecc36) ect36 eciv0 [] = true := by kernel_rfl
theorem eck42 : Go.Ev.chkX (eclf ecc42) ect42 eciv0 [] = true := by kernel_rfl
theorem eck48 : Go.Ev.chkX (eclf ecc48) ect48 eciv0 [] = true := by kernel_rfl
theorem etk4 : Go.Ev.chkX (etlf etc4) ett4 eciv0 [] = true := by kernel_rfl
theorem rck28 : Go.Ev.chkX (rclf rcc28) rct28 eciv0 [] = true := by kernel_rfl
theorem rck30 : Go.Ev.chkX (rclf rcc30) rct30 eciv0 [] = true := by kernel_rfl
theorem rck42 : Go.Ev.chkX (rclf rcc42) rct42 eciv0 [] = true := by kernel_rfl
theorem rck54 : Go.Ev.chkX (rclf rcc54) rct54 eciv0 [] = true := by kernel_rfl
theorem rck66 : Go.Ev.chkX (rclf rcc66) rct66 eciv0 [] = true := by kernel_rfl
theorem rck78 : Go.Ev.chkX (rclf rcc78) rct78 eciv0 [] = true := by kernel_rfl
theorem rfk4 : Go.Ev.chkX (rflf rfc4) rft4 eciv0 [] = true := by kernel_rfl
end
end Go.Proofs.YtjfbakhebdhbmaaDoor.event
