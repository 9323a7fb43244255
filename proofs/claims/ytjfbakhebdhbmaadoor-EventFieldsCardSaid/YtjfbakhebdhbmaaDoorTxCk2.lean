/-
  Events: what the kernel runs.
-/
import Derived.Test.YtjfbakhebdhbmaaDoorTxC
namespace Go.Proofs.YtjfbakhebdhbmaaDoor.event
open Go.Ev Go.RowKit
set_option linter.unusedVariables false
noncomputable section
theorem rmk0RR : Go.Ev.chkX (rmlf rmc0) rmt0RR (Go.Ev.ivLo (Go.Ev.ivLo emiv0 13 (0 + 1)) 13 (1 + 1)) [] = true := by kernel_rfl
theorem rck9 : Go.Ev.chkX (rclf rcc9) rct9 eciv0 [] = true := by kernel_rfl
theorem rck17 : Go.Ev.chkX (rclf rcc17) rct17 eciv0 [] = true := by kernel_rfl
theorem emk0RL : Go.Ev.chkX (emlf emc0) emt0RL (Go.Ev.ivHi (Go.Ev.ivLo emiv0 13 (0 + 1)) 13 (1)) [] = true := by kernel_rfl
theorem rck4 : Go.Ev.chkX (rclf rcc4) rct4 eciv0 [] = true := by kernel_rfl
theorem etk2LLLL : Go.Ev.chkX (etlf etc2) ett2LLLL (Go.Ev.ivHi (Go.Ev.ivHi (Go.Ev.ivHi (Go.Ev.ivHi eciv0 12 (250)) 13 (2)) 12 (0)) 5 (-1)) [] = true := by kernel_rfl
theorem eck2 : Go.Ev.chkX (eclf ecc2) ect2 eciv0 [] = true := by kernel_rfl
theorem eck7 : Go.Ev.chkX (eclf ecc7) ect7 eciv0 [] = true := by kernel_rfl
theorem eck13 : Go.Ev.chkX (eclf ecc13) ect13 eciv0 [] = true := by kernel_rfl
theorem eck19 : Go.Ev.chkX (eclf ecc19) ect19 eciv0 [] = true := by kernel_rfl
theorem eck23 : Go.Ev.chkX (eclf ecc23) ect23 eciv0 [] = true := by kernel_rfl
theorem rtk0 : Go.Ev.chkX (rtlf rtc0) rtt0 eciv0 [] = true := by kernel_rfl
theorem emk0L : Go.Ev.chkX (emlf emc0) emt0L (Go.Ev.ivHi emiv0 13 (0)) [] = true := by kernel_rfl
theorem rtk2LLRLRLRLL : Go.Ev.chkX (rtlf rtc2) rtt2LLRLRLRLL (Go.Ev.ivHi (Go.Ev.ivHi (Go.Ev.ivLo (Go.Ev.ivHi (Go.Ev.ivLo (Go.Ev.ivHi (Go.Ev.ivLo (Go.Ev.ivHi (Go.Ev.ivHi eciv0 12 (250)) 13 (2)) 1 (-1 + 1)) 1 (0)) 2 (-1 + 1)) 2 (0)) 3 (-1 + 1)) 3 (1)) 4 (-1)) [] = true := by kernel_rfl
theorem rtk2LLRLRR : Go.Ev.chkX (rtlf rtc2) rtt2LLRLRR (Go.Ev.ivLo (Go.Ev.ivLo (Go.Ev.ivHi (Go.Ev.ivLo (Go.Ev.ivHi (Go.Ev.ivHi eciv0 12 (250)) 13 (2)) 1 (-1 + 1)) 1 (0)) 2 (-1 + 1)) 2 (0 + 1)) [] = true := by kernel_rfl
theorem rck29 : Go.Ev.chkX (rclf rcc29) rct29 eciv0 [] = true := by kernel_rfl
theorem rck41 : Go.Ev.chkX (rclf rcc41) rct41 eciv0 [] = true := by kernel_rfl
theorem rck53 : Go.Ev.chkX (rclf rcc53) rct53 eciv0 [] = true := by kernel_rfl
theorem rck65 : Go.Ev.chkX (rclf rcc65) rct65 eciv0 [] = true := by kernel_rfl
theorem rck77 : Go.Ev.chkX (rclf rcc77) rct77 eciv0 [] = true := by kernel_rfl
theorem efk1 : Go.Ev.chkX (eflf efc1) eft1 eciv0 [] = true := by kernel_rfl
theorem eck31 : Go.Ev.chkX (eclf ecc31) ect31 eciv0 [] = true := by kernel_rfl
theorem eck37 : Go.Ev.chkX (eclf ecc37) ect37 eciv0 [] = true := by kernel_rfl
theorem eck43 : Go.Ev.chkX (eclf ecc43) ect43 eciv0 [] = true := by kernel_rfl
theorem eck49 : Go.Ev.chkX (eclf ecc49) ect49 eciv0 [] = true := by kernel_rfl
theorem etk5 : Go.Ev.chkX (etlf etc5) ett5 eciv0 [] = true := by kernel_rfl
theorem rck34 : Go.Ev.chkX (rclf rcc34) rct34 eciv0 [] = true := by kernel_rfl
theorem rck46 : Go.Ev.chkX (rclf rcc46) rct46 eciv0 [] = true := by kernel_rfl
theorem rck58 : Go.Ev.chkX (rclf rcc58) rct58 eciv0 [] = true := by kernel_rfl
theorem rck70 : Go.Ev.chkX (rclf rcc70) rct70 eciv0 [] = true := by kernel_rfl
theorem rtk3 : Go.Ev.chkX (rtlf rtc3) rtt3 eciv0 [] = true := by kernel_rfl
theorem etk2LR : Go.Ev.chkX (etlf etc2) ett2LR (Go.Ev.ivLo (Go.Ev.ivHi eciv0 12 (250)) 13 (2 + 1)) [] = true := by kernel_rfl
end
end Go.Proofs.YtjfbakhebdhbmaaDoor.event
