/-
  Certificates: what the kernel runs.
-/
import Derived.Test.YtgbpkilegbechaaCdE
namespace Go.Proofs.Ytgbpkilegbechaa.cards
open Go.Ev Go.RowKit
set_option linter.unusedVariables false
noncomputable section
theorem cck1LRLRRRRRRRRRRRRRR : Go.Ev.chkX (cclf ccc1) cct1LRLRRRRRRRRRRRRRR (Go.Ev.ivLo (Go.Ev.ivLo (Go.Ev.ivLo (Go.Ev.ivLo (Go.Ev.ivLo (Go.Ev.ivLo (Go.Ev.ivLo (Go.Ev.ivLo (Go.Ev.ivLo (Go.Ev.ivLo (Go.Ev.ivLo (Go.Ev.ivLo (Go.Ev.ivLo (Go.Ev.ivLo (Go.Ev.ivHi (Go.Ev.ivLo cciv1 6 (0 + 1)) 6 (24)) 6 (1 + 1)) 6 (2 + 1)) 6 (3 + 1)) 6 (4 + 1)) 6 (5 + 1)) 6 (6 + 1)) 6 (7 + 1)) 6 (8 + 1)) 6 (9 + 1)) 6 (10 + 1)) 6 (11 + 1)) 6 (12 + 1)) 6 (13 + 1)) 6 (14 + 1)) (.bin .lss (.sint .i64 3) (.sint .i64 2) (.bool true) :: []) = true := by kernel_rfl
theorem wck3LRRL : Go.Ev.chkX (wclf wcc3) wct3LRRL (Go.Ev.ivHi (Go.Ev.ivLo (Go.Ev.ivLo wciv3 21 (0 + 1)) 22 (0 + 1)) 22 (1)) (.bin .lss (.sint .i64 12) (.sint .i64 11) (.bool true) :: []) = true := by kernel_rfl
theorem rbk0 : Go.Ev.chkX (rblf rbc0) rbt0 rbiv0 [] = true := by kernel_rfl
theorem wck3LLLRRRRLRLR : Go.Ev.chkX (wclf wcc3) wct3LLLRRRRLRLR (Go.Ev.ivLo (Go.Ev.ivHi (Go.Ev.ivLo (Go.Ev.ivHi (Go.Ev.ivLo (Go.Ev.ivLo (Go.Ev.ivLo (Go.Ev.ivLo (Go.Ev.ivHi (Go.Ev.ivHi wciv3 21 (0)) 22 (0)) 14 (0 + 1)) 14 (1 + 1)) 29 (0 + 1)) 24 (-1 + 1)) 24 (0)) 25 (-1 + 1)) 25 (0)) 26 (-1 + 1)) (.bin .lss (.sint .i64 12) (.sint .i64 11) (.bool true) :: []) = true := by kernel_rfl
theorem vdk1LLRL : Go.Ev.chkX (vdlf vdc1) vdt1LLRL (Go.Ev.ivHi (Go.Ev.ivLo (Go.Ev.ivHi vdiv1 21 (0)) 22 (0 + 1)) 22 (1)) (.bin .lss (.sint .i64 12) (.sint .i64 11) (.bool true) :: []) = true := by kernel_rfl
theorem vdk1LRRL : Go.Ev.chkX (vdlf vdc1) vdt1LRRL (Go.Ev.ivHi (Go.Ev.ivLo (Go.Ev.ivLo vdiv1 21 (0 + 1)) 22 (0 + 1)) 22 (1)) (.bin .lss (.sint .i64 12) (.sint .i64 11) (.bool true) :: []) = true := by kernel_rfl
theorem vdk1LRL : Go.Ev.chkX (vdlf vdc1) vdt1LRL (Go.Ev.ivHi (Go.Ev.ivLo vdiv1 21 (0 + 1)) 22 (0)) (.bin .lss (.sint .i64 12) (.sint .i64 11) (.bool true) :: []) = true := by kernel_rfl
theorem cbk0RRL : Go.Ev.chkX (cblf cbc0) cbt0RRL (Go.Ev.ivHi (Go.Ev.ivLo (Go.Ev.ivLo cbiv0 1 (0 + 1)) 1 (1 + 1)) 1 (2)) [] = true := by kernel_rfl
theorem wck3LLLRRLRLRLL : Go.Ev.chkX (wclf wcc3) wct3LLLRRLRLRLL (Go.Ev.ivHi (Go.Ev.ivHi (Go.Ev.ivLo (Go.Ev.ivHi (Go.Ev.ivLo (Go.Ev.ivHi (Go.Ev.ivLo (Go.Ev.ivLo (Go.Ev.ivHi (Go.Ev.ivHi wciv3 21 (0)) 22 (0)) 14 (0 + 1)) 14 (1 + 1)) 29 (0)) 24 (-1 + 1)) 24 (0)) 25 (-1 + 1)) 25 (0)) 26 (-1)) (.bin .lss (.sint .i64 12) (.sint .i64 11) (.bool true) :: []) = true := by kernel_rfl
theorem wck3LLLRRLL : Go.Ev.chkX (wclf wcc3) wct3LLLRRLL (Go.Ev.ivHi (Go.Ev.ivHi (Go.Ev.ivLo (Go.Ev.ivLo (Go.Ev.ivHi (Go.Ev.ivHi wciv3 21 (0)) 22 (0)) 14 (0 + 1)) 14 (1 + 1)) 29 (0)) 24 (-1)) (.bin .lss (.sint .i64 12) (.sint .i64 11) (.bool true) :: []) = true := by kernel_rfl
theorem wck3LRLRRLRLL : Go.Ev.chkX (wclf wcc3) wct3LRLRRLRLL (Go.Ev.ivHi (Go.Ev.ivHi (Go.Ev.ivLo (Go.Ev.ivHi (Go.Ev.ivLo (Go.Ev.ivLo (Go.Ev.ivHi (Go.Ev.ivLo wciv3 21 (0 + 1)) 22 (0)) 14 (0 + 1)) 14 (1 + 1)) 29 (0)) 24 (-1 + 1)) 24 (0)) 25 (-1)) (.bin .lss (.sint .i64 12) (.sint .i64 11) (.bool true) :: []) = true := by kernel_rfl
theorem wck3LRLRRLRR : Go.Ev.chkX (wclf wcc3) wct3LRLRRLRR (Go.Ev.ivLo (Go.Ev.ivLo (Go.Ev.ivHi (Go.Ev.ivLo (Go.Ev.ivLo (Go.Ev.ivHi (Go.Ev.ivLo wciv3 21 (0 + 1)) 22 (0)) 14 (0 + 1)) 14 (1 + 1)) 29 (0)) 24 (-1 + 1)) 24 (0 + 1)) (.bin .lss (.sint .i64 12) (.sint .i64 11) (.bool true) :: []) = true := by kernel_rfl
theorem cck1LRLRRRRRRRRRRL : Go.Ev.chkX (cclf ccc1) cct1LRLRRRRRRRRRRL (Go.Ev.ivHi (Go.Ev.ivLo (Go.Ev.ivLo (Go.Ev.ivLo (Go.Ev.ivLo (Go.Ev.ivLo (Go.Ev.ivLo (Go.Ev.ivLo (Go.Ev.ivLo (Go.Ev.ivLo (Go.Ev.ivLo (Go.Ev.ivHi (Go.Ev.ivLo cciv1 6 (0 + 1)) 6 (24)) 6 (1 + 1)) 6 (2 + 1)) 6 (3 + 1)) 6 (4 + 1)) 6 (5 + 1)) 6 (6 + 1)) 6 (7 + 1)) 6 (8 + 1)) 6 (9 + 1)) 6 (10 + 1)) 6 (11)) (.bin .lss (.sint .i64 3) (.sint .i64 2) (.bool true) :: []) = true := by kernel_rfl
theorem cck1LRLRRRRRRRRRL : Go.Ev.chkX (cclf ccc1) cct1LRLRRRRRRRRRL (Go.Ev.ivHi (Go.Ev.ivLo (Go.Ev.ivLo (Go.Ev.ivLo (Go.Ev.ivLo (Go.Ev.ivLo (Go.Ev.ivLo (Go.Ev.ivLo (Go.Ev.ivLo (Go.Ev.ivLo (Go.Ev.ivHi (Go.Ev.ivLo cciv1 6 (0 + 1)) 6 (24)) 6 (1 + 1)) 6 (2 + 1)) 6 (3 + 1)) 6 (4 + 1)) 6 (5 + 1)) 6 (6 + 1)) 6 (7 + 1)) 6 (8 + 1)) 6 (9 + 1)) 6 (10)) (.bin .lss (.sint .i64 3) (.sint .i64 2) (.bool true) :: []) = true := by kernel_rfl
theorem vbk0 : Go.Ev.chkX (vblf vbc0) vbt0 vbiv0 [] = true := by kernel_rfl
theorem cck1LRLRRRRL : Go.Ev.chkX (cclf ccc1) cct1LRLRRRRL (Go.Ev.ivHi (Go.Ev.ivLo (Go.Ev.ivLo (Go.Ev.ivLo (Go.Ev.ivLo (Go.Ev.ivHi (Go.Ev.ivLo cciv1 6 (0 + 1)) 6 (24)) 6 (1 + 1)) 6 (2 + 1)) 6 (3 + 1)) 6 (4 + 1)) 6 (5)) (.bin .lss (.sint .i64 3) (.sint .i64 2) (.bool true) :: []) = true := by kernel_rfl
theorem wck0R : Go.Ev.chkX (wclf wcc0) wct0R (Go.Ev.ivLo wciv0 0 (-1 + 1)) [] = true := by kernel_rfl
theorem wak3L : Go.Ev.chkX (walf wac3) wat3L waiv3 (.bin .lss (.sint .i64 12) (.sint .i64 11) (.bool true) :: []) = true := by kernel_rfl
theorem wbk4L : Go.Ev.chkX (wblf wbc4) wbt4L wbiv4 (.bin .lss (.sint .i64 12) (.sint .i64 11) (.bool true) :: []) = true := by kernel_rfl
theorem wak1R : Go.Ev.chkX (walf wac1) wat1R waiv1 (.bin .lss (.sint .i64 12) (.sint .i64 11) (.bool false) :: []) = true := by kernel_rfl
theorem wck3LRLRL : Go.Ev.chkX (wclf wcc3) wct3LRLRL (Go.Ev.ivHi (Go.Ev.ivLo (Go.Ev.ivHi (Go.Ev.ivLo wciv3 21 (0 + 1)) 22 (0)) 14 (0 + 1)) 14 (1)) (.bin .lss (.sint .i64 12) (.sint .i64 11) (.bool true) :: []) = true := by kernel_rfl
theorem wak2L : Go.Ev.chkX (walf wac2) wat2L waiv2 (.bin .lss (.sint .i64 12) (.sint .i64 11) (.bool true) :: []) = true := by kernel_rfl
theorem wak0L : Go.Ev.chkX (walf wac0) wat0L (Go.Ev.ivHi waiv0 0 (-1)) [] = true := by kernel_rfl
theorem rck0L : Go.Ev.chkX (rclf rcc0) rct0L (Go.Ev.ivHi rciv0 0 (-1)) [] = true := by kernel_rfl
theorem wbk4R : Go.Ev.chkX (wblf wbc4) wbt4R wbiv4 (.bin .lss (.sint .i64 12) (.sint .i64 11) (.bool false) :: []) = true := by kernel_rfl
theorem wck6R : Go.Ev.chkX (wclf wcc6) wct6R wciv6 (.bin .lss (.sint .i64 12) (.sint .i64 11) (.bool false) :: []) = true := by kernel_rfl
theorem cck1LL : Go.Ev.chkX (cclf ccc1) cct1LL (Go.Ev.ivHi cciv1 6 (0)) (.bin .lss (.sint .i64 3) (.sint .i64 2) (.bool true) :: []) = true := by kernel_rfl
theorem rck1R : Go.Ev.chkX (rclf rcc1) rct1R rciv1 (.bin .lss (.sint .i64 3) (.sint .i64 2) (.bool false) :: []) = true := by kernel_rfl
end
end Go.Proofs.Ytgbpkilegbechaa.cards
