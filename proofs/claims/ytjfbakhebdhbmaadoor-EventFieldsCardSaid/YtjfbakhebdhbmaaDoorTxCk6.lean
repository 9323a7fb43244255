/-
  Events: what the kernel runs.
-/
import Derived.Test.YtjfbakhebdhbmaaDoorTxC
namespace Go.Proofs.YtjfbakhebdhbmaaDoor.event
open Go.Ev Go.RowKit
set_option linter.unusedVariables false
noncomputable section
theorem emk0RRRL : Go.Ev.chkX (emlf emc0) emt0RRRL (Go.Ev.ivHi (Go.Ev.ivLo (Go.Ev.ivLo (Go.Ev.ivLo emiv0 13 (0 + 1)) 13 (1 + 1)) 21 (-1 + 1)) 21 (0)) [] = true := by kernel_rfl
theorem rfk2 : Go.Ev.chkX (rflf rfc2) rft2 eciv0 [] = true := by kernel_rfl
theorem rck21 : Go.Ev.chkX (rclf rcc21) rct21 eciv0 [] = true := by kernel_rfl
theorem rck8 : Go.Ev.chkX (rclf rcc8) rct8 eciv0 [] = true := by kernel_rfl
theorem rck22 : Go.Ev.chkX (rclf rcc22) rct22 eciv0 [] = true := by kernel_rfl
theorem rck14 : Go.Ev.chkX (rclf rcc14) rct14 eciv0 [] = true := by kernel_rfl
theorem etk2LLLRR : Go.Ev.chkX (etlf etc2) ett2LLLRR (Go.Ev.ivLo (Go.Ev.ivLo (Go.Ev.ivHi (Go.Ev.ivHi (Go.Ev.ivHi eciv0 12 (250)) 13 (2)) 12 (0)) 5 (-1 + 1)) 5 (0 + 1)) [] = true := by kernel_rfl
theorem eck9 : Go.Ev.chkX (eclf ecc9) ect9 eciv0 [] = true := by kernel_rfl
theorem eck15 : Go.Ev.chkX (eclf ecc15) ect15 eciv0 [] = true := by kernel_rfl
theorem eck21 : Go.Ev.chkX (eclf ecc21) ect21 eciv0 [] = true := by kernel_rfl
theorem etk2LLLRLL : Go.Ev.chkX (etlf etc2) ett2LLLRLL (Go.Ev.ivHi (Go.Ev.ivHi (Go.Ev.ivLo (Go.Ev.ivHi (Go.Ev.ivHi (Go.Ev.ivHi eciv0 12 (250)) 13 (2)) 12 (0)) 5 (-1 + 1)) 5 (0)) 6 (-1)) [] = true := by kernel_rfl
theorem rtk2LLRLRLRLRLLL : Go.Ev.chkX (rtlf rtc2) rtt2LLRLRLRLRLLL (Go.Ev.ivHi (Go.Ev.ivHi (Go.Ev.ivHi (Go.Ev.ivLo (Go.Ev.ivHi (Go.Ev.ivLo (Go.Ev.ivHi (Go.Ev.ivLo (Go.Ev.ivHi (Go.Ev.ivLo (Go.Ev.ivHi (Go.Ev.ivHi eciv0 12 (250)) 13 (2)) 1 (-1 + 1)) 1 (0)) 2 (-1 + 1)) 2 (0)) 3 (-1 + 1)) 3 (1)) 4 (-1 + 1)) 4 (0)) 12 (0)) 5 (-1)) [] = true := by kernel_rfl
theorem rck79 : Go.Ev.chkX (rclf rcc79) rct79 eciv0 [] = true := by kernel_rfl
theorem rtk2LLRLRLRLRR : Go.Ev.chkX (rtlf rtc2) rtt2LLRLRLRLRR (Go.Ev.ivLo (Go.Ev.ivLo (Go.Ev.ivHi (Go.Ev.ivLo (Go.Ev.ivHi (Go.Ev.ivLo (Go.Ev.ivHi (Go.Ev.ivLo (Go.Ev.ivHi (Go.Ev.ivHi eciv0 12 (250)) 13 (2)) 1 (-1 + 1)) 1 (0)) 2 (-1 + 1)) 2 (0)) 3 (-1 + 1)) 3 (1)) 4 (-1 + 1)) 4 (0 + 1)) [] = true := by kernel_rfl
theorem eck53 : Go.Ev.chkX (eclf ecc53) ect53 eciv0 [] = true := by kernel_rfl
theorem rck33 : Go.Ev.chkX (rclf rcc33) rct33 eciv0 [] = true := by kernel_rfl
theorem rck45 : Go.Ev.chkX (rclf rcc45) rct45 eciv0 [] = true := by kernel_rfl
theorem rck57 : Go.Ev.chkX (rclf rcc57) rct57 eciv0 [] = true := by kernel_rfl
theorem rck69 : Go.Ev.chkX (rclf rcc69) rct69 eciv0 [] = true := by kernel_rfl
theorem rtk6 : Go.Ev.chkX (rtlf rtc6) rtt6 eciv0 [] = true := by kernel_rfl
theorem eck28 : Go.Ev.chkX (eclf ecc28) ect28 eciv0 [] = true := by kernel_rfl
theorem eck32 : Go.Ev.chkX (eclf ecc32) ect32 eciv0 [] = true := by kernel_rfl
theorem eck38 : Go.Ev.chkX (eclf ecc38) ect38 eciv0 [] = true := by kernel_rfl
theorem eck44 : Go.Ev.chkX (eclf ecc44) ect44 eciv0 [] = true := by kernel_rfl
theorem eck50 : Go.Ev.chkX (eclf ecc50) ect50 eciv0 [] = true := by kernel_rfl
theorem efk3 : Go.Ev.chkX (eflf efc3) eft3 eciv0 [] = true := by kernel_rfl
theorem rck40 : Go.Ev.chkX (rclf rcc40) rct40 eciv0 [] = true := by kernel_rfl
theorem rck52 : Go.Ev.chkX (rclf rcc52) rct52 eciv0 [] = true := by kernel_rfl
theorem rck64 : Go.Ev.chkX (rclf rcc64) rct64 eciv0 [] = true := by kernel_rfl
theorem rck76 : Go.Ev.chkX (rclf rcc76) rct76 eciv0 [] = true := by kernel_rfl
theorem rfk3 : Go.Ev.chkX (rflf rfc3) rft3 eciv0 [] = true := by kernel_rfl
theorem rtk2R : Go.Ev.chkX (rtlf rtc2) rtt2R (Go.Ev.ivLo eciv0 12 (250 + 1)) [] = true := by kernel_rfl
end
end Go.Proofs.YtjfbakhebdhbmaaDoor.event
