/-
  Which cards and codes may be: what the kernel runs.
-/
import Derived.Test.YtgbpkilegbechaaTxE
namespace Go.Proofs.Ytgbpkilegbechaa.greater
open Go.Ev Go.RowKit
set_option linter.unusedVariables false
noncomputable section
theorem cbk0RRRR : chkX (cblf cbc0) cbt0RRRR (ivLo (ivLo (ivLo (ivLo cbiv0 1 (0 + 1)) 1 (1 + 1)) 1 (2 + 1)) 1 (3 + 1)) [] = true := by kernel_rfl
theorem cbk0RRRL : chkX (cblf cbc0) cbt0RRRL (ivHi (ivLo (ivLo (ivLo cbiv0 1 (0 + 1)) 1 (1 + 1)) 1 (2 + 1)) 1 (3)) [] = true := by kernel_rfl
theorem vdk1LRL : chkX (vdlf vdc1) vdt1LRL (ivHi (ivLo vdiv1 21 (0 + 1)) 22 (0)) (.bin .lss (.sint .i64 12) (.sint .i64 11) (.bool true) :: []) = true := by kernel_rfl
theorem cbk0RL : chkX (cblf cbc0) cbt0RL (ivHi (ivLo cbiv0 1 (0 + 1)) 1 (1)) [] = true := by kernel_rfl
theorem cck1LRLRRRRRRL : chkX (cclf ccc1) cct1LRLRRRRRRL (ivHi (ivLo (ivLo (ivLo (ivLo (ivLo (ivLo (ivHi (ivLo cciv1 6 (0 + 1)) 6 (24)) 6 (1 + 1)) 6 (2 + 1)) 6 (3 + 1)) 6 (4 + 1)) 6 (5 + 1)) 6 (6 + 1)) 6 (7)) (.bin .lss (.sint .i64 3) (.sint .i64 2) (.bool true) :: []) = true := by kernel_rfl
theorem vck0 : chkX (vclf vcc0) vct0 vciv0 [] = true := by kernel_rfl
theorem cck1LRLRL : chkX (cclf ccc1) cct1LRLRL (ivHi (ivLo (ivHi (ivLo cciv1 6 (0 + 1)) 6 (24)) 6 (1 + 1)) 6 (2)) (.bin .lss (.sint .i64 3) (.sint .i64 2) (.bool true) :: []) = true := by kernel_rfl
theorem cck1LRLRRRRL : chkX (cclf ccc1) cct1LRLRRRRL (ivHi (ivLo (ivLo (ivLo (ivLo (ivHi (ivLo cciv1 6 (0 + 1)) 6 (24)) 6 (1 + 1)) 6 (2 + 1)) 6 (3 + 1)) 6 (4 + 1)) 6 (5)) (.bin .lss (.sint .i64 3) (.sint .i64 2) (.bool true) :: []) = true := by kernel_rfl
theorem clk1R : chkX (cllf clc1) clt1R cliv1 (.bin .lss (.sint .i64 12) (.sint .i64 11) (.bool false) :: []) = true := by kernel_rfl
theorem vdk0L : chkX (vdlf vdc0) vdt0L (ivHi vdiv0 0 (-1)) [] = true := by kernel_rfl
theorem cck1LL : chkX (cclf ccc1) cct1LL (ivHi cciv1 6 (0)) (.bin .lss (.sint .i64 3) (.sint .i64 2) (.bool true) :: []) = true := by kernel_rfl
end
end Go.Proofs.Ytgbpkilegbechaa.greater
