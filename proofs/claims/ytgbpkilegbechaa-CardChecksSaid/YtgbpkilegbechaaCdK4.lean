/-
  Certificates: what the kernel runs.
-/
import Derived.Test.YtgbpkilegbechaaCdE
namespace Go.Proofs.Ytgbpkilegbechaa.cards
open Go.Ev Go.RowKit
set_option linter.unusedVariables false
noncomputable section
theorem wck3LRRR : Go.Ev.chkX (wclf wcc3) wct3LRRR (Go.Ev.ivLo (Go.Ev.ivLo (Go.Ev.ivLo wciv3 21 (0 + 1)) 22 (0 + 1)) 22 (1 + 1)) (.bin .lss (.sint .i64 12) (.sint .i64 11) (.bool true) :: []) = true := by kernel_rfl
theorem wck3LLRL : Go.Ev.chkX (wclf wcc3) wct3LLRL (Go.Ev.ivHi (Go.Ev.ivLo (Go.Ev.ivHi wciv3 21 (0)) 22 (0 + 1)) 22 (1)) (.bin .lss (.sint .i64 12) (.sint .i64 11) (.bool true) :: []) = true := by kernel_rfl
theorem wck5LR : Go.Ev.chkX (wclf wcc5) wct5LR (Go.Ev.ivLo wciv5 21 (0 + 1)) (.bin .lss (.sint .i64 12) (.sint .i64 11) (.bool true) :: []) = true := by kernel_rfl
theorem cbk0RRRR : Go.Ev.chkX (cblf cbc0) cbt0RRRR (Go.Ev.ivLo (Go.Ev.ivLo (Go.Ev.ivLo (Go.Ev.ivLo cbiv0 1 (0 + 1)) 1 (1 + 1)) 1 (2 + 1)) 1 (3 + 1)) [] = true := by kernel_rfl
theorem vdk1LRRR : Go.Ev.chkX (vdlf vdc1) vdt1LRRR (Go.Ev.ivLo (Go.Ev.ivLo (Go.Ev.ivLo vdiv1 21 (0 + 1)) 22 (0 + 1)) 22 (1 + 1)) (.bin .lss (.sint .i64 12) (.sint .i64 11) (.bool true) :: []) = true := by kernel_rfl
theorem vdk1LLLRLRRRL : Go.Ev.chkX (vdlf vdc1) vdt1LLLRLRRRL (Go.Ev.ivHi (Go.Ev.ivLo (Go.Ev.ivLo (Go.Ev.ivLo (Go.Ev.ivHi (Go.Ev.ivLo (Go.Ev.ivHi (Go.Ev.ivHi vdiv1 21 (0)) 22 (0)) 14 (0 + 1)) 14 (5)) 14 (1 + 1)) 14 (2 + 1)) 14 (3 + 1)) 14 (4)) (.bin .lss (.sint .i64 12) (.sint .i64 11) (.bool true) :: []) = true := by kernel_rfl
theorem wck3LLLRRRRLRR : Go.Ev.chkX (wclf wcc3) wct3LLLRRRRLRR (Go.Ev.ivLo (Go.Ev.ivLo (Go.Ev.ivHi (Go.Ev.ivLo (Go.Ev.ivLo (Go.Ev.ivLo (Go.Ev.ivLo (Go.Ev.ivHi (Go.Ev.ivHi wciv3 21 (0)) 22 (0)) 14 (0 + 1)) 14 (1 + 1)) 29 (0 + 1)) 24 (-1 + 1)) 24 (0)) 25 (-1 + 1)) 25 (0 + 1)) (.bin .lss (.sint .i64 12) (.sint .i64 11) (.bool true) :: []) = true := by kernel_rfl
theorem cbk0RL : Go.Ev.chkX (cblf cbc0) cbt0RL (Go.Ev.ivHi (Go.Ev.ivLo cbiv0 1 (0 + 1)) 1 (1)) [] = true := by kernel_rfl
theorem vdk1LLLRLRL : Go.Ev.chkX (vdlf vdc1) vdt1LLLRLRL (Go.Ev.ivHi (Go.Ev.ivLo (Go.Ev.ivHi (Go.Ev.ivLo (Go.Ev.ivHi (Go.Ev.ivHi vdiv1 21 (0)) 22 (0)) 14 (0 + 1)) 14 (5)) 14 (1 + 1)) 14 (2)) (.bin .lss (.sint .i64 12) (.sint .i64 11) (.bool true) :: []) = true := by kernel_rfl
theorem wck3LLLRRRL : Go.Ev.chkX (wclf wcc3) wct3LLLRRRL (Go.Ev.ivHi (Go.Ev.ivLo (Go.Ev.ivLo (Go.Ev.ivLo (Go.Ev.ivHi (Go.Ev.ivHi wciv3 21 (0)) 22 (0)) 14 (0 + 1)) 14 (1 + 1)) 29 (0 + 1)) 24 (-1)) (.bin .lss (.sint .i64 12) (.sint .i64 11) (.bool true) :: []) = true := by kernel_rfl
theorem wck3LRLRRLRLRR : Go.Ev.chkX (wclf wcc3) wct3LRLRRLRLRR (Go.Ev.ivLo (Go.Ev.ivLo (Go.Ev.ivHi (Go.Ev.ivLo (Go.Ev.ivHi (Go.Ev.ivLo (Go.Ev.ivLo (Go.Ev.ivHi (Go.Ev.ivLo wciv3 21 (0 + 1)) 22 (0)) 14 (0 + 1)) 14 (1 + 1)) 29 (0)) 24 (-1 + 1)) 24 (0)) 25 (-1 + 1)) 25 (0 + 1)) (.bin .lss (.sint .i64 12) (.sint .i64 11) (.bool true) :: []) = true := by kernel_rfl
theorem wck3LRLRRRL : Go.Ev.chkX (wclf wcc3) wct3LRLRRRL (Go.Ev.ivHi (Go.Ev.ivLo (Go.Ev.ivLo (Go.Ev.ivLo (Go.Ev.ivHi (Go.Ev.ivLo wciv3 21 (0 + 1)) 22 (0)) 14 (0 + 1)) 14 (1 + 1)) 29 (0 + 1)) 24 (-1)) (.bin .lss (.sint .i64 12) (.sint .i64 11) (.bool true) :: []) = true := by kernel_rfl
theorem cck1LRLRRRRRRRRRRRL : Go.Ev.chkX (cclf ccc1) cct1LRLRRRRRRRRRRRL (Go.Ev.ivHi (Go.Ev.ivLo (Go.Ev.ivLo (Go.Ev.ivLo (Go.Ev.ivLo (Go.Ev.ivLo (Go.Ev.ivLo (Go.Ev.ivLo (Go.Ev.ivLo (Go.Ev.ivLo (Go.Ev.ivLo (Go.Ev.ivLo (Go.Ev.ivHi (Go.Ev.ivLo cciv1 6 (0 + 1)) 6 (24)) 6 (1 + 1)) 6 (2 + 1)) 6 (3 + 1)) 6 (4 + 1)) 6 (5 + 1)) 6 (6 + 1)) 6 (7 + 1)) 6 (8 + 1)) 6 (9 + 1)) 6 (10 + 1)) 6 (11 + 1)) 6 (12)) (.bin .lss (.sint .i64 3) (.sint .i64 2) (.bool true) :: []) = true := by kernel_rfl
theorem cck0R : Go.Ev.chkX (cclf ccc0) cct0R (Go.Ev.ivLo cciv0 0 (-1 + 1)) [] = true := by kernel_rfl
theorem vdk0R : Go.Ev.chkX (vdlf vdc0) vdt0R (Go.Ev.ivLo vdiv0 0 (-1 + 1)) [] = true := by kernel_rfl
theorem cck1LRLL : Go.Ev.chkX (cclf ccc1) cct1LRLL (Go.Ev.ivHi (Go.Ev.ivHi (Go.Ev.ivLo cciv1 6 (0 + 1)) 6 (24)) 6 (1)) (.bin .lss (.sint .i64 3) (.sint .i64 2) (.bool true) :: []) = true := by kernel_rfl
theorem cck1LRLRRRRRRRRL : Go.Ev.chkX (cclf ccc1) cct1LRLRRRRRRRRL (Go.Ev.ivHi (Go.Ev.ivLo (Go.Ev.ivLo (Go.Ev.ivLo (Go.Ev.ivLo (Go.Ev.ivLo (Go.Ev.ivLo (Go.Ev.ivLo (Go.Ev.ivLo (Go.Ev.ivHi (Go.Ev.ivLo cciv1 6 (0 + 1)) 6 (24)) 6 (1 + 1)) 6 (2 + 1)) 6 (3 + 1)) 6 (4 + 1)) 6 (5 + 1)) 6 (6 + 1)) 6 (7 + 1)) 6 (8 + 1)) 6 (9)) (.bin .lss (.sint .i64 3) (.sint .i64 2) (.bool true) :: []) = true := by kernel_rfl
theorem cck1LRLRRRL : Go.Ev.chkX (cclf ccc1) cct1LRLRRRL (Go.Ev.ivHi (Go.Ev.ivLo (Go.Ev.ivLo (Go.Ev.ivLo (Go.Ev.ivHi (Go.Ev.ivLo cciv1 6 (0 + 1)) 6 (24)) 6 (1 + 1)) 6 (2 + 1)) 6 (3 + 1)) 6 (4)) (.bin .lss (.sint .i64 3) (.sint .i64 2) (.bool true) :: []) = true := by kernel_rfl
theorem wbk0R : Go.Ev.chkX (wblf wbc0) wbt0R (Go.Ev.ivLo wbiv0 0 (-1 + 1)) [] = true := by kernel_rfl
theorem wck1L : Go.Ev.chkX (wclf wcc1) wct1L wciv1 (.bin .lss (.sint .i64 12) (.sint .i64 11) (.bool true) :: []) = true := by kernel_rfl
theorem wbk3L : Go.Ev.chkX (wblf wbc3) wbt3L wbiv3 (.bin .lss (.sint .i64 12) (.sint .i64 11) (.bool true) :: []) = true := by kernel_rfl
theorem wbk1R : Go.Ev.chkX (wblf wbc1) wbt1R wbiv1 (.bin .lss (.sint .i64 12) (.sint .i64 11) (.bool false) :: []) = true := by kernel_rfl
theorem vdk1LLLRLL : Go.Ev.chkX (vdlf vdc1) vdt1LLLRLL (Go.Ev.ivHi (Go.Ev.ivHi (Go.Ev.ivLo (Go.Ev.ivHi (Go.Ev.ivHi vdiv1 21 (0)) 22 (0)) 14 (0 + 1)) 14 (5)) 14 (1)) (.bin .lss (.sint .i64 12) (.sint .i64 11) (.bool true) :: []) = true := by kernel_rfl
theorem cbk0L : Go.Ev.chkX (cblf cbc0) cbt0L (Go.Ev.ivHi cbiv0 1 (0)) [] = true := by kernel_rfl
theorem vdk2R : Go.Ev.chkX (vdlf vdc2) vdt2R vdiv2 (.bin .lss (.sint .i64 12) (.sint .i64 11) (.bool false) :: []) = true := by kernel_rfl
theorem wck2L : Go.Ev.chkX (wclf wcc2) wct2L wciv2 (.bin .lss (.sint .i64 12) (.sint .i64 11) (.bool true) :: []) = true := by kernel_rfl
theorem cck0L : Go.Ev.chkX (cclf ccc0) cct0L (Go.Ev.ivHi cciv0 0 (-1)) [] = true := by kernel_rfl
theorem wak4R : Go.Ev.chkX (walf wac4) wat4R waiv4 (.bin .lss (.sint .i64 12) (.sint .i64 11) (.bool false) :: []) = true := by kernel_rfl
theorem wck4R : Go.Ev.chkX (wclf wcc4) wct4R wciv4 (.bin .lss (.sint .i64 12) (.sint .i64 11) (.bool false) :: []) = true := by kernel_rfl
theorem wbk2R : Go.Ev.chkX (wblf wbc2) wbt2R wbiv2 (.bin .lss (.sint .i64 12) (.sint .i64 11) (.bool false) :: []) = true := by kernel_rfl
theorem cck1LRR : Go.Ev.chkX (cclf ccc1) cct1LRR (Go.Ev.ivLo (Go.Ev.ivLo cciv1 6 (0 + 1)) 6 (24 + 1)) (.bin .lss (.sint .i64 3) (.sint .i64 2) (.bool true) :: []) = true := by kernel_rfl
end
end Go.Proofs.Ytgbpkilegbechaa.cards
