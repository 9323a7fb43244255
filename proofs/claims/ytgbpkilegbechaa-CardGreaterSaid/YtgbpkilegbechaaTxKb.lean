/-
  Which cards and codes may be: what the kernel runs.
-/
import Derived.Test.YtgbpkilegbechaaTxE
namespace Go.Proofs.Ytgbpkilegbechaa.greater
open Go.Ev Go.RowKit
set_option linter.unusedVariables false
noncomputable section
theorem cck1LRLRRRRRRRRRRRRRR : chkX (cclf ccc1) cct1LRLRRRRRRRRRRRRRR (ivLo (ivLo (ivLo (ivLo (ivLo (ivLo (ivLo (ivLo (ivLo (ivLo (ivLo (ivLo (ivLo (ivLo (ivHi (ivLo cciv1 6 (0 + 1)) 6 (24)) 6 (1 + 1)) 6 (2 + 1)) 6 (3 + 1)) 6 (4 + 1)) 6 (5 + 1)) 6 (6 + 1)) 6 (7 + 1)) 6 (8 + 1)) 6 (9 + 1)) 6 (10 + 1)) 6 (11 + 1)) 6 (12 + 1)) 6 (13 + 1)) 6 (14 + 1)) (.bin .lss (.sint .i64 3) (.sint .i64 2) (.bool true) :: []) = true := by kernel_rfl
theorem vdk1LRRR : chkX (vdlf vdc1) vdt1LRRR (ivLo (ivLo (ivLo vdiv1 21 (0 + 1)) 22 (0 + 1)) 22 (1 + 1)) (.bin .lss (.sint .i64 12) (.sint .i64 11) (.bool true) :: []) = true := by kernel_rfl
theorem cbk0RRL : chkX (cblf cbc0) cbt0RRL (ivHi (ivLo (ivLo cbiv0 1 (0 + 1)) 1 (1 + 1)) 1 (2)) [] = true := by kernel_rfl
theorem vdk1LLLRLRRL : chkX (vdlf vdc1) vdt1LLLRLRRL (ivHi (ivLo (ivLo (ivHi (ivLo (ivHi (ivHi vdiv1 21 (0)) 22 (0)) 14 (0 + 1)) 14 (5)) 14 (1 + 1)) 14 (2 + 1)) 14 (3)) (.bin .lss (.sint .i64 12) (.sint .i64 11) (.bool true) :: []) = true := by kernel_rfl
theorem cck1LRLRRRRRRRRRRRL : chkX (cclf ccc1) cct1LRLRRRRRRRRRRRL (ivHi (ivLo (ivLo (ivLo (ivLo (ivLo (ivLo (ivLo (ivLo (ivLo (ivLo (ivLo (ivHi (ivLo cciv1 6 (0 + 1)) 6 (24)) 6 (1 + 1)) 6 (2 + 1)) 6 (3 + 1)) 6 (4 + 1)) 6 (5 + 1)) 6 (6 + 1)) 6 (7 + 1)) 6 (8 + 1)) 6 (9 + 1)) 6 (10 + 1)) 6 (11 + 1)) 6 (12)) (.bin .lss (.sint .i64 3) (.sint .i64 2) (.bool true) :: []) = true := by kernel_rfl
theorem vdk0R : chkX (vdlf vdc0) vdt0R (ivLo vdiv0 0 (-1 + 1)) [] = true := by kernel_rfl
theorem cck1LRLRRRRRL : chkX (cclf ccc1) cct1LRLRRRRRL (ivHi (ivLo (ivLo (ivLo (ivLo (ivLo (ivHi (ivLo cciv1 6 (0 + 1)) 6 (24)) 6 (1 + 1)) 6 (2 + 1)) 6 (3 + 1)) 6 (4 + 1)) 6 (5 + 1)) 6 (6)) (.bin .lss (.sint .i64 3) (.sint .i64 2) (.bool true) :: []) = true := by kernel_rfl
theorem cck1LRLRRRRRRRRL : chkX (cclf ccc1) cct1LRLRRRRRRRRL (ivHi (ivLo (ivLo (ivLo (ivLo (ivLo (ivLo (ivLo (ivLo (ivHi (ivLo cciv1 6 (0 + 1)) 6 (24)) 6 (1 + 1)) 6 (2 + 1)) 6 (3 + 1)) 6 (4 + 1)) 6 (5 + 1)) 6 (6 + 1)) 6 (7 + 1)) 6 (8 + 1)) 6 (9)) (.bin .lss (.sint .i64 3) (.sint .i64 2) (.bool true) :: []) = true := by kernel_rfl
theorem cck1LRLRRL : chkX (cclf ccc1) cct1LRLRRL (ivHi (ivLo (ivLo (ivHi (ivLo cciv1 6 (0 + 1)) 6 (24)) 6 (1 + 1)) 6 (2 + 1)) 6 (3)) (.bin .lss (.sint .i64 3) (.sint .i64 2) (.bool true) :: []) = true := by kernel_rfl
theorem vak0 : chkX (valf vac0) vat0 vaiv0 [] = true := by kernel_rfl
theorem vdk1LLLRR : chkX (vdlf vdc1) vdt1LLLRR (ivLo (ivLo (ivHi (ivHi vdiv1 21 (0)) 22 (0)) 14 (0 + 1)) 14 (5 + 1)) (.bin .lss (.sint .i64 12) (.sint .i64 11) (.bool true) :: []) = true := by kernel_rfl
theorem cck0L : chkX (cclf ccc0) cct0L (ivHi cciv0 0 (-1)) [] = true := by kernel_rfl
theorem vdk1R : chkX (vdlf vdc1) vdt1R vdiv1 (.bin .lss (.sint .i64 12) (.sint .i64 11) (.bool false) :: []) = true := by kernel_rfl
end
end Go.Proofs.Ytgbpkilegbechaa.greater
