/-
  Which cards and codes may be: what the kernel runs.
-/
import Derived.Test.YtgbpkilegbechaaTxE
namespace Go.Proofs.Ytgbpkilegbechaa.greater
open Go.Ev Go.RowKit
set_option linter.unusedVariables false
noncomputable section
theorem vdk2L : chkX (vdlf vdc2) vdt2L vdiv2 (.bin .lss (.sint .i64 12) (.sint .i64 11) (.bool true) :: []) = true := by kernel_rfl
theorem vdk1LRRL : chkX (vdlf vdc1) vdt1LRRL (ivHi (ivLo (ivLo vdiv1 21 (0 + 1)) 22 (0 + 1)) 22 (1)) (.bin .lss (.sint .i64 12) (.sint .i64 11) (.bool true) :: []) = true := by kernel_rfl
theorem vdk1LLLRLRRRR : chkX (vdlf vdc1) vdt1LLLRLRRRR (ivLo (ivLo (ivLo (ivLo (ivHi (ivLo (ivHi (ivHi vdiv1 21 (0)) 22 (0)) 14 (0 + 1)) 14 (5)) 14 (1 + 1)) 14 (2 + 1)) 14 (3 + 1)) 14 (4 + 1)) (.bin .lss (.sint .i64 12) (.sint .i64 11) (.bool true) :: []) = true := by kernel_rfl
theorem cck1LRLRRRRRRRRRRRRL : chkX (cclf ccc1) cct1LRLRRRRRRRRRRRRL (ivHi (ivLo (ivLo (ivLo (ivLo (ivLo (ivLo (ivLo (ivLo (ivLo (ivLo (ivLo (ivLo (ivHi (ivLo cciv1 6 (0 + 1)) 6 (24)) 6 (1 + 1)) 6 (2 + 1)) 6 (3 + 1)) 6 (4 + 1)) 6 (5 + 1)) 6 (6 + 1)) 6 (7 + 1)) 6 (8 + 1)) 6 (9 + 1)) 6 (10 + 1)) 6 (11 + 1)) 6 (12 + 1)) 6 (13)) (.bin .lss (.sint .i64 3) (.sint .i64 2) (.bool true) :: []) = true := by kernel_rfl
theorem cck1LRLRRRRRRRRRRRRRL : chkX (cclf ccc1) cct1LRLRRRRRRRRRRRRRL (ivHi (ivLo (ivLo (ivLo (ivLo (ivLo (ivLo (ivLo (ivLo (ivLo (ivLo (ivLo (ivLo (ivLo (ivHi (ivLo cciv1 6 (0 + 1)) 6 (24)) 6 (1 + 1)) 6 (2 + 1)) 6 (3 + 1)) 6 (4 + 1)) 6 (5 + 1)) 6 (6 + 1)) 6 (7 + 1)) 6 (8 + 1)) 6 (9 + 1)) 6 (10 + 1)) 6 (11 + 1)) 6 (12 + 1)) 6 (13 + 1)) 6 (14)) (.bin .lss (.sint .i64 3) (.sint .i64 2) (.bool true) :: []) = true := by kernel_rfl
theorem cck1LRLRRRRRRRRRL : chkX (cclf ccc1) cct1LRLRRRRRRRRRL (ivHi (ivLo (ivLo (ivLo (ivLo (ivLo (ivLo (ivLo (ivLo (ivLo (ivHi (ivLo cciv1 6 (0 + 1)) 6 (24)) 6 (1 + 1)) 6 (2 + 1)) 6 (3 + 1)) 6 (4 + 1)) 6 (5 + 1)) 6 (6 + 1)) 6 (7 + 1)) 6 (8 + 1)) 6 (9 + 1)) 6 (10)) (.bin .lss (.sint .i64 3) (.sint .i64 2) (.bool true) :: []) = true := by kernel_rfl
theorem clk1L : chkX (cllf clc1) clt1L cliv1 (.bin .lss (.sint .i64 12) (.sint .i64 11) (.bool true) :: []) = true := by kernel_rfl
theorem cbk0L : chkX (cblf cbc0) cbt0L (ivHi cbiv0 1 (0)) [] = true := by kernel_rfl
theorem vdk2R : chkX (vdlf vdc2) vdt2R vdiv2 (.bin .lss (.sint .i64 12) (.sint .i64 11) (.bool false) :: []) = true := by kernel_rfl
theorem cck1LRR : chkX (cclf ccc1) cct1LRR (ivLo (ivLo cciv1 6 (0 + 1)) 6 (24 + 1)) (.bin .lss (.sint .i64 3) (.sint .i64 2) (.bool true) :: []) = true := by kernel_rfl
end
end Go.Proofs.Ytgbpkilegbechaa.greater
