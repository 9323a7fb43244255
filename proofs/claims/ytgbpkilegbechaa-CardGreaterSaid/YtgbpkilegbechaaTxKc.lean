/-
  Which cards and codes may be: what the kernel runs.
-/
import Derived.Test.YtgbpkilegbechaaTxE
namespace Go.Proofs.Ytgbpkilegbechaa.greater
open Go.Ev Go.RowKit
set_option linter.unusedVariables false
noncomputable section
theorem vdk1LLRR : chkX (vdlf vdc1) vdt1LLRR (ivLo (ivLo (ivHi vdiv1 21 (0)) 22 (0 + 1)) 22 (1 + 1)) (.bin .lss (.sint .i64 12) (.sint .i64 11) (.bool true) :: []) = true := by kernel_rfl
theorem vdk1LLRL : chkX (vdlf vdc1) vdt1LLRL (ivHi (ivLo (ivHi vdiv1 21 (0)) 22 (0 + 1)) 22 (1)) (.bin .lss (.sint .i64 12) (.sint .i64 11) (.bool true) :: []) = true := by kernel_rfl
theorem vdk1LLLRLRRRL : chkX (vdlf vdc1) vdt1LLLRLRRRL (ivHi (ivLo (ivLo (ivLo (ivHi (ivLo (ivHi (ivHi vdiv1 21 (0)) 22 (0)) 14 (0 + 1)) 14 (5)) 14 (1 + 1)) 14 (2 + 1)) 14 (3 + 1)) 14 (4)) (.bin .lss (.sint .i64 12) (.sint .i64 11) (.bool true) :: []) = true := by kernel_rfl
theorem vdk1LLLRLRL : chkX (vdlf vdc1) vdt1LLLRLRL (ivHi (ivLo (ivHi (ivLo (ivHi (ivHi vdiv1 21 (0)) 22 (0)) 14 (0 + 1)) 14 (5)) 14 (1 + 1)) 14 (2)) (.bin .lss (.sint .i64 12) (.sint .i64 11) (.bool true) :: []) = true := by kernel_rfl
theorem cck1LRLRRRRRRRRRRL : chkX (cclf ccc1) cct1LRLRRRRRRRRRRL (ivHi (ivLo (ivLo (ivLo (ivLo (ivLo (ivLo (ivLo (ivLo (ivLo (ivLo (ivHi (ivLo cciv1 6 (0 + 1)) 6 (24)) 6 (1 + 1)) 6 (2 + 1)) 6 (3 + 1)) 6 (4 + 1)) 6 (5 + 1)) 6 (6 + 1)) 6 (7 + 1)) 6 (8 + 1)) 6 (9 + 1)) 6 (10 + 1)) 6 (11)) (.bin .lss (.sint .i64 3) (.sint .i64 2) (.bool true) :: []) = true := by kernel_rfl
theorem cck0R : chkX (cclf ccc0) cct0R (ivLo cciv0 0 (-1 + 1)) [] = true := by kernel_rfl
theorem cck1LRLL : chkX (cclf ccc1) cct1LRLL (ivHi (ivHi (ivLo cciv1 6 (0 + 1)) 6 (24)) 6 (1)) (.bin .lss (.sint .i64 3) (.sint .i64 2) (.bool true) :: []) = true := by kernel_rfl
theorem cck1LRLRRRRRRRL : chkX (cclf ccc1) cct1LRLRRRRRRRL (ivHi (ivLo (ivLo (ivLo (ivLo (ivLo (ivLo (ivLo (ivHi (ivLo cciv1 6 (0 + 1)) 6 (24)) 6 (1 + 1)) 6 (2 + 1)) 6 (3 + 1)) 6 (4 + 1)) 6 (5 + 1)) 6 (6 + 1)) 6 (7 + 1)) 6 (8)) (.bin .lss (.sint .i64 3) (.sint .i64 2) (.bool true) :: []) = true := by kernel_rfl
theorem vbk0 : chkX (vblf vbc0) vbt0 vbiv0 [] = true := by kernel_rfl
theorem cck1LRLRRRL : chkX (cclf ccc1) cct1LRLRRRL (ivHi (ivLo (ivLo (ivLo (ivHi (ivLo cciv1 6 (0 + 1)) 6 (24)) 6 (1 + 1)) 6 (2 + 1)) 6 (3 + 1)) 6 (4)) (.bin .lss (.sint .i64 3) (.sint .i64 2) (.bool true) :: []) = true := by kernel_rfl
theorem vdk1LLLRLL : chkX (vdlf vdc1) vdt1LLLRLL (ivHi (ivHi (ivLo (ivHi (ivHi vdiv1 21 (0)) 22 (0)) 14 (0 + 1)) 14 (5)) 14 (1)) (.bin .lss (.sint .i64 12) (.sint .i64 11) (.bool true) :: []) = true := by kernel_rfl
theorem vdk1LLLL : chkX (vdlf vdc1) vdt1LLLL (ivHi (ivHi (ivHi vdiv1 21 (0)) 22 (0)) 14 (0)) (.bin .lss (.sint .i64 12) (.sint .i64 11) (.bool true) :: []) = true := by kernel_rfl
theorem clk0 : chkX (cllf clc0) clt0 cliv0 [] = true := by kernel_rfl
theorem cck1R : chkX (cclf ccc1) cct1R cciv1 (.bin .lss (.sint .i64 3) (.sint .i64 2) (.bool false) :: []) = true := by kernel_rfl
end
end Go.Proofs.Ytgbpkilegbechaa.greater
