/-
  Events: what the kernel runs.
-/
import Derived.Test.YtjfbakhebdhbmaaDoorTxC
namespace Go.Proofs.YtjfbakhebdhbmaaDoor.event
open Go.Ev Go.RowKit
set_option linter.unusedVariables false
noncomputable section
theorem rtk2LLRLRLRLRLLRL : Go.Ev.chkX (rtlf rtc2) rtt2LLRLRLRLRLLRL (Go.Ev.ivHi (Go.Ev.ivLo (Go.Ev.ivHi (Go.Ev.ivHi (Go.Ev.ivLo (Go.Ev.ivHi (Go.Ev.ivLo (Go.Ev.ivHi (Go.Ev.ivLo (Go.Ev.ivHi (Go.Ev.ivLo (Go.Ev.ivHi (Go.Ev.ivHi eciv0 12 (250)) 13 (2)) 1 (-1 + 1)) 1 (0)) 2 (-1 + 1)) 2 (0)) 3 (-1 + 1)) 3 (1)) 4 (-1 + 1)) 4 (0)) 12 (0)) 5 (-1 + 1)) 5 (0)) [] = true := by kernel_rfl
theorem rck24 : Go.Ev.chkX (rclf rcc24) rct24 eciv0 [] = true := by kernel_rfl
theorem rck11 : Go.Ev.chkX (rclf rcc11) rct11 eciv0 [] = true := by kernel_rfl
theorem rck6 : Go.Ev.chkX (rclf rcc6) rct6 eciv0 [] = true := by kernel_rfl
theorem rck15 : Go.Ev.chkX (rclf rcc15) rct15 eciv0 [] = true := by kernel_rfl
theorem rck5 : Go.Ev.chkX (rclf rcc5) rct5 eciv0 [] = true := by kernel_rfl
theorem eck1 : Go.Ev.chkX (eclf ecc1) ect1 eciv0 [] = true := by kernel_rfl
theorem eck6 : Go.Ev.chkX (eclf ecc6) ect6 eciv0 [] = true := by kernel_rfl
theorem eck12 : Go.Ev.chkX (eclf ecc12) ect12 eciv0 [] = true := by kernel_rfl
theorem eck18 : Go.Ev.chkX (eclf ecc18) ect18 eciv0 [] = true := by kernel_rfl
theorem eck25 : Go.Ev.chkX (eclf ecc25) ect25 eciv0 [] = true := by kernel_rfl
theorem rfk1 : Go.Ev.chkX (rflf rfc1) rft1 eciv0 [] = true := by kernel_rfl
theorem etk0 : Go.Ev.chkX (etlf etc0) ett0 eciv0 [] = true := by kernel_rfl
theorem rtk2LLRLRLRR : Go.Ev.chkX (rtlf rtc2) rtt2LLRLRLRR (Go.Ev.ivLo (Go.Ev.ivLo (Go.Ev.ivHi (Go.Ev.ivLo (Go.Ev.ivHi (Go.Ev.ivLo (Go.Ev.ivHi (Go.Ev.ivHi eciv0 12 (250)) 13 (2)) 1 (-1 + 1)) 1 (0)) 2 (-1 + 1)) 2 (0)) 3 (-1 + 1)) 3 (1 + 1)) [] = true := by kernel_rfl
theorem rtk2LLL : Go.Ev.chkX (rtlf rtc2) rtt2LLL (Go.Ev.ivHi (Go.Ev.ivHi (Go.Ev.ivHi eciv0 12 (250)) 13 (2)) 1 (-1)) [] = true := by kernel_rfl
theorem rck31 : Go.Ev.chkX (rclf rcc31) rct31 eciv0 [] = true := by kernel_rfl
theorem rck43 : Go.Ev.chkX (rclf rcc43) rct43 eciv0 [] = true := by kernel_rfl
theorem rck55 : Go.Ev.chkX (rclf rcc55) rct55 eciv0 [] = true := by kernel_rfl
theorem rck67 : Go.Ev.chkX (rclf rcc67) rct67 eciv0 [] = true := by kernel_rfl
theorem rtk4 : Go.Ev.chkX (rtlf rtc4) rtt4 eciv0 [] = true := by kernel_rfl
theorem etk2LLLRLRLL : Go.Ev.chkX (etlf etc2) ett2LLLRLRLL (Go.Ev.ivHi (Go.Ev.ivHi (Go.Ev.ivLo (Go.Ev.ivHi (Go.Ev.ivLo (Go.Ev.ivHi (Go.Ev.ivHi (Go.Ev.ivHi eciv0 12 (250)) 13 (2)) 12 (0)) 5 (-1 + 1)) 5 (0)) 6 (-1 + 1)) 6 (0)) 7 (-1)) [] = true := by kernel_rfl
theorem eck35 : Go.Ev.chkX (eclf ecc35) ect35 eciv0 [] = true := by kernel_rfl
theorem eck41 : Go.Ev.chkX (eclf ecc41) ect41 eciv0 [] = true := by kernel_rfl
theorem eck47 : Go.Ev.chkX (eclf ecc47) ect47 eciv0 [] = true := by kernel_rfl
theorem etk3 : Go.Ev.chkX (etlf etc3) ett3 eciv0 [] = true := by kernel_rfl
theorem etk2LLR : Go.Ev.chkX (etlf etc2) ett2LLR (Go.Ev.ivLo (Go.Ev.ivHi (Go.Ev.ivHi eciv0 12 (250)) 13 (2)) 12 (0 + 1)) [] = true := by kernel_rfl
theorem rck32 : Go.Ev.chkX (rclf rcc32) rct32 eciv0 [] = true := by kernel_rfl
theorem rck44 : Go.Ev.chkX (rclf rcc44) rct44 eciv0 [] = true := by kernel_rfl
theorem rck56 : Go.Ev.chkX (rclf rcc56) rct56 eciv0 [] = true := by kernel_rfl
theorem rck68 : Go.Ev.chkX (rclf rcc68) rct68 eciv0 [] = true := by kernel_rfl
theorem rck80 : Go.Ev.chkX (rclf rcc80) rct80 eciv0 [] = true := by kernel_rfl
theorem rfk5 : Go.Ev.chkX (rflf rfc5) rft5 eciv0 [] = true := by kernel_rfl
end
end Go.Proofs.YtjfbakhebdhbmaaDoor.event
