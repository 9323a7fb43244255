/-
  Events: what the kernel runs.
-/
import Derived.Test.YtjfbakhebdhbmaaDoorTxC
namespace Go.Proofs.YtjfbakhebdhbmaaDoor.event
open Go.Ev Go.RowKit
set_option linter.unusedVariables false
noncomputable section
theorem etk2LLLRLRLRLR : Go.Ev.chkX (etlf etc2) ett2LLLRLRLRLR (Go.Ev.ivLo (Go.Ev.ivHi (Go.Ev.ivLo (Go.Ev.ivHi (Go.Ev.ivLo (Go.Ev.ivHi (Go.Ev.ivLo (Go.Ev.ivHi (Go.Ev.ivHi (Go.Ev.ivHi eciv0 12 (250)) 13 (2)) 12 (0)) 5 (-1 + 1)) 5 (0)) 6 (-1 + 1)) 6 (0)) 7 (-1 + 1)) 7 (0)) 8 (-1 + 1)) [] = true := by kernel_rfl
theorem rck12 : Go.Ev.chkX (rclf rcc12) rct12 eciv0 [] = true := by kernel_rfl
theorem rck23 : Go.Ev.chkX (rclf rcc23) rct23 eciv0 [] = true := by kernel_rfl
theorem rck0 : Go.Ev.chkX (rclf rcc0) rct0 eciv0 [] = true := by kernel_rfl
theorem rck3 : Go.Ev.chkX (rclf rcc3) rct3 eciv0 [] = true := by kernel_rfl
theorem etk2LLLRLRR : Go.Ev.chkX (etlf etc2) ett2LLLRLRR (Go.Ev.ivLo (Go.Ev.ivLo (Go.Ev.ivHi (Go.Ev.ivLo (Go.Ev.ivHi (Go.Ev.ivHi (Go.Ev.ivHi eciv0 12 (250)) 13 (2)) 12 (0)) 5 (-1 + 1)) 5 (0)) 6 (-1 + 1)) 6 (0 + 1)) [] = true := by kernel_rfl
theorem eck3 : Go.Ev.chkX (eclf ecc3) ect3 eciv0 [] = true := by kernel_rfl
theorem eck8 : Go.Ev.chkX (eclf ecc8) ect8 eciv0 [] = true := by kernel_rfl
theorem eck14 : Go.Ev.chkX (eclf ecc14) ect14 eciv0 [] = true := by kernel_rfl
theorem eck20 : Go.Ev.chkX (eclf ecc20) ect20 eciv0 [] = true := by kernel_rfl
theorem rmk0RL : Go.Ev.chkX (rmlf rmc0) rmt0RL (Go.Ev.ivHi (Go.Ev.ivLo emiv0 13 (0 + 1)) 13 (1)) [] = true := by kernel_rfl
theorem rfk0 : Go.Ev.chkX (rflf rfc0) rft0 eciv0 [] = true := by kernel_rfl
theorem rmk0L : Go.Ev.chkX (rmlf rmc0) rmt0L (Go.Ev.ivHi emiv0 13 (0)) [] = true := by kernel_rfl
theorem rtk2LLRLRLRLRLR : Go.Ev.chkX (rtlf rtc2) rtt2LLRLRLRLRLR (Go.Ev.ivLo (Go.Ev.ivHi (Go.Ev.ivLo (Go.Ev.ivHi (Go.Ev.ivLo (Go.Ev.ivHi (Go.Ev.ivLo (Go.Ev.ivHi (Go.Ev.ivLo (Go.Ev.ivHi (Go.Ev.ivHi eciv0 12 (250)) 13 (2)) 1 (-1 + 1)) 1 (0)) 2 (-1 + 1)) 2 (0)) 3 (-1 + 1)) 3 (1)) 4 (-1 + 1)) 4 (0)) 12 (0 + 1)) [] = true := by kernel_rfl
theorem rtk2LLRLL : Go.Ev.chkX (rtlf rtc2) rtt2LLRLL (Go.Ev.ivHi (Go.Ev.ivHi (Go.Ev.ivLo (Go.Ev.ivHi (Go.Ev.ivHi eciv0 12 (250)) 13 (2)) 1 (-1 + 1)) 1 (0)) 2 (-1)) [] = true := by kernel_rfl
theorem rtk2LLRR : Go.Ev.chkX (rtlf rtc2) rtt2LLRR (Go.Ev.ivLo (Go.Ev.ivLo (Go.Ev.ivHi (Go.Ev.ivHi eciv0 12 (250)) 13 (2)) 1 (-1 + 1)) 1 (0 + 1)) [] = true := by kernel_rfl
theorem rck35 : Go.Ev.chkX (rclf rcc35) rct35 eciv0 [] = true := by kernel_rfl
theorem rck47 : Go.Ev.chkX (rclf rcc47) rct47 eciv0 [] = true := by kernel_rfl
theorem rck59 : Go.Ev.chkX (rclf rcc59) rct59 eciv0 [] = true := by kernel_rfl
theorem rck71 : Go.Ev.chkX (rclf rcc71) rct71 eciv0 [] = true := by kernel_rfl
theorem rtk8 : Go.Ev.chkX (rtlf rtc8) rtt8 eciv0 [] = true := by kernel_rfl
theorem eck29 : Go.Ev.chkX (eclf ecc29) ect29 eciv0 [] = true := by kernel_rfl
theorem eck33 : Go.Ev.chkX (eclf ecc33) ect33 eciv0 [] = true := by kernel_rfl
theorem eck39 : Go.Ev.chkX (eclf ecc39) ect39 eciv0 [] = true := by kernel_rfl
theorem eck45 : Go.Ev.chkX (eclf ecc45) ect45 eciv0 [] = true := by kernel_rfl
theorem eck51 : Go.Ev.chkX (eclf ecc51) ect51 eciv0 [] = true := by kernel_rfl
theorem eck27 : Go.Ev.chkX (eclf ecc27) ect27 eciv27 [] = true := by kernel_rfl
theorem rck38 : Go.Ev.chkX (rclf rcc38) rct38 eciv0 [] = true := by kernel_rfl
theorem rck50 : Go.Ev.chkX (rclf rcc50) rct50 eciv0 [] = true := by kernel_rfl
theorem rck62 : Go.Ev.chkX (rclf rcc62) rct62 eciv0 [] = true := by kernel_rfl
theorem rck74 : Go.Ev.chkX (rclf rcc74) rct74 eciv0 [] = true := by kernel_rfl
theorem rtk7 : Go.Ev.chkX (rtlf rtc7) rtt7 eciv0 [] = true := by kernel_rfl
theorem etk2R : Go.Ev.chkX (etlf etc2) ett2R (Go.Ev.ivLo eciv0 12 (250 + 1)) [] = true := by kernel_rfl
end
end Go.Proofs.YtjfbakhebdhbmaaDoor.event
