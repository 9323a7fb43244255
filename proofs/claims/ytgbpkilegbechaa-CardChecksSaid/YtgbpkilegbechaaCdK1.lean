/-
  Certificates: what the kernel runs.
-/
import Derived.Test.YtgbpkilegbechaaCdE
namespace Go.Proofs.Ytgbpkilegbechaa.cards
open Go.Ev Go.RowKit
set_option linter.unusedVariables false
noncomputable section
theorem vdk2L : Go.Ev.chkX (vdlf vdc2) vdt2L vdiv2 (.bin .lss (.sint .i64 12) (.sint .i64 11) (.bool true) :: []) = true := by kernel_rfl
theorem wck5LL : Go.Ev.chkX (wclf wcc5) wct5LL (Go.Ev.ivHi wciv5 21 (0)) (.bin .lss (.sint .i64 12) (.sint .i64 11) (.bool true) :: []) = true := by kernel_rfl
theorem wck3LRLRRLRLRLR : Go.Ev.chkX (wclf wcc3) wct3LRLRRLRLRLR (Go.Ev.ivLo (Go.Ev.ivHi (Go.Ev.ivLo (Go.Ev.ivHi (Go.Ev.ivLo (Go.Ev.ivHi (Go.Ev.ivLo (Go.Ev.ivLo (Go.Ev.ivHi (Go.Ev.ivLo wciv3 21 (0 + 1)) 22 (0)) 14 (0 + 1)) 14 (1 + 1)) 29 (0)) 24 (-1 + 1)) 24 (0)) 25 (-1 + 1)) 25 (0)) 26 (-1 + 1)) (.bin .lss (.sint .i64 12) (.sint .i64 11) (.bool true) :: []) = true := by kernel_rfl
theorem rck1LL : Go.Ev.chkX (rclf rcc1) rct1LL (Go.Ev.ivHi rciv1 6 (16)) (.bin .lss (.sint .i64 3) (.sint .i64 2) (.bool true) :: []) = true := by kernel_rfl
theorem cbk0RRRL : Go.Ev.chkX (cblf cbc0) cbt0RRRL (Go.Ev.ivHi (Go.Ev.ivLo (Go.Ev.ivLo (Go.Ev.ivLo cbiv0 1 (0 + 1)) 1 (1 + 1)) 1 (2 + 1)) 1 (3)) [] = true := by kernel_rfl
theorem wck3LLLRRLRR : Go.Ev.chkX (wclf wcc3) wct3LLLRRLRR (Go.Ev.ivLo (Go.Ev.ivLo (Go.Ev.ivHi (Go.Ev.ivLo (Go.Ev.ivLo (Go.Ev.ivHi (Go.Ev.ivHi wciv3 21 (0)) 22 (0)) 14 (0 + 1)) 14 (1 + 1)) 29 (0)) 24 (-1 + 1)) 24 (0 + 1)) (.bin .lss (.sint .i64 12) (.sint .i64 11) (.bool true) :: []) = true := by kernel_rfl
theorem vdk1LLLRLRRRR : Go.Ev.chkX (vdlf vdc1) vdt1LLLRLRRRR (Go.Ev.ivLo (Go.Ev.ivLo (Go.Ev.ivLo (Go.Ev.ivLo (Go.Ev.ivHi (Go.Ev.ivLo (Go.Ev.ivHi (Go.Ev.ivHi vdiv1 21 (0)) 22 (0)) 14 (0 + 1)) 14 (5)) 14 (1 + 1)) 14 (2 + 1)) 14 (3 + 1)) 14 (4 + 1)) (.bin .lss (.sint .i64 12) (.sint .i64 11) (.bool true) :: []) = true := by kernel_rfl
theorem wck3LLLRRLRLL : Go.Ev.chkX (wclf wcc3) wct3LLLRRLRLL (Go.Ev.ivHi (Go.Ev.ivHi (Go.Ev.ivLo (Go.Ev.ivHi (Go.Ev.ivLo (Go.Ev.ivLo (Go.Ev.ivHi (Go.Ev.ivHi wciv3 21 (0)) 22 (0)) 14 (0 + 1)) 14 (1 + 1)) 29 (0)) 24 (-1 + 1)) 24 (0)) 25 (-1)) (.bin .lss (.sint .i64 12) (.sint .i64 11) (.bool true) :: []) = true := by kernel_rfl
theorem wck3LLLRRRRLRLL : Go.Ev.chkX (wclf wcc3) wct3LLLRRRRLRLL (Go.Ev.ivHi (Go.Ev.ivHi (Go.Ev.ivLo (Go.Ev.ivHi (Go.Ev.ivLo (Go.Ev.ivLo (Go.Ev.ivLo (Go.Ev.ivLo (Go.Ev.ivHi (Go.Ev.ivHi wciv3 21 (0)) 22 (0)) 14 (0 + 1)) 14 (1 + 1)) 29 (0 + 1)) 24 (-1 + 1)) 24 (0)) 25 (-1 + 1)) 25 (0)) 26 (-1)) (.bin .lss (.sint .i64 12) (.sint .i64 11) (.bool true) :: []) = true := by kernel_rfl
theorem wck3LRLRRLRLRLL : Go.Ev.chkX (wclf wcc3) wct3LRLRRLRLRLL (Go.Ev.ivHi (Go.Ev.ivHi (Go.Ev.ivLo (Go.Ev.ivHi (Go.Ev.ivLo (Go.Ev.ivHi (Go.Ev.ivLo (Go.Ev.ivLo (Go.Ev.ivHi (Go.Ev.ivLo wciv3 21 (0 + 1)) 22 (0)) 14 (0 + 1)) 14 (1 + 1)) 29 (0)) 24 (-1 + 1)) 24 (0)) 25 (-1 + 1)) 25 (0)) 26 (-1)) (.bin .lss (.sint .i64 12) (.sint .i64 11) (.bool true) :: []) = true := by kernel_rfl
theorem wck3LRLRRLL : Go.Ev.chkX (wclf wcc3) wct3LRLRRLL (Go.Ev.ivHi (Go.Ev.ivHi (Go.Ev.ivLo (Go.Ev.ivLo (Go.Ev.ivHi (Go.Ev.ivLo wciv3 21 (0 + 1)) 22 (0)) 14 (0 + 1)) 14 (1 + 1)) 29 (0)) 24 (-1)) (.bin .lss (.sint .i64 12) (.sint .i64 11) (.bool true) :: []) = true := by kernel_rfl
theorem wck3LRLRRRRR : Go.Ev.chkX (wclf wcc3) wct3LRLRRRRR (Go.Ev.ivLo (Go.Ev.ivLo (Go.Ev.ivLo (Go.Ev.ivLo (Go.Ev.ivLo (Go.Ev.ivHi (Go.Ev.ivLo wciv3 21 (0 + 1)) 22 (0)) 14 (0 + 1)) 14 (1 + 1)) 29 (0 + 1)) 24 (-1 + 1)) 24 (0 + 1)) (.bin .lss (.sint .i64 12) (.sint .i64 11) (.bool true) :: []) = true := by kernel_rfl
theorem wck3LLLL : Go.Ev.chkX (wclf wcc3) wct3LLLL (Go.Ev.ivHi (Go.Ev.ivHi (Go.Ev.ivHi wciv3 21 (0)) 22 (0)) 14 (0)) (.bin .lss (.sint .i64 12) (.sint .i64 11) (.bool true) :: []) = true := by kernel_rfl
theorem cck1LRLRRRRRRL : Go.Ev.chkX (cclf ccc1) cct1LRLRRRRRRL (Go.Ev.ivHi (Go.Ev.ivLo (Go.Ev.ivLo (Go.Ev.ivLo (Go.Ev.ivLo (Go.Ev.ivLo (Go.Ev.ivLo (Go.Ev.ivHi (Go.Ev.ivLo cciv1 6 (0 + 1)) 6 (24)) 6 (1 + 1)) 6 (2 + 1)) 6 (3 + 1)) 6 (4 + 1)) 6 (5 + 1)) 6 (6 + 1)) 6 (7)) (.bin .lss (.sint .i64 3) (.sint .i64 2) (.bool true) :: []) = true := by kernel_rfl
theorem cck1LRLRRRRRRRL : Go.Ev.chkX (cclf ccc1) cct1LRLRRRRRRRL (Go.Ev.ivHi (Go.Ev.ivLo (Go.Ev.ivLo (Go.Ev.ivLo (Go.Ev.ivLo (Go.Ev.ivLo (Go.Ev.ivLo (Go.Ev.ivLo (Go.Ev.ivHi (Go.Ev.ivLo cciv1 6 (0 + 1)) 6 (24)) 6 (1 + 1)) 6 (2 + 1)) 6 (3 + 1)) 6 (4 + 1)) 6 (5 + 1)) 6 (6 + 1)) 6 (7 + 1)) 6 (8)) (.bin .lss (.sint .i64 3) (.sint .i64 2) (.bool true) :: []) = true := by kernel_rfl
theorem vck0 : Go.Ev.chkX (vclf vcc0) vct0 vciv0 [] = true := by kernel_rfl
theorem cck1LRLRRL : Go.Ev.chkX (cclf ccc1) cct1LRLRRL (Go.Ev.ivHi (Go.Ev.ivLo (Go.Ev.ivLo (Go.Ev.ivHi (Go.Ev.ivLo cciv1 6 (0 + 1)) 6 (24)) 6 (1 + 1)) 6 (2 + 1)) 6 (3)) (.bin .lss (.sint .i64 3) (.sint .i64 2) (.bool true) :: []) = true := by kernel_rfl
theorem wak0R : Go.Ev.chkX (walf wac0) wat0R (Go.Ev.ivLo waiv0 0 (-1 + 1)) [] = true := by kernel_rfl
theorem wbk1L : Go.Ev.chkX (wblf wbc1) wbt1L wbiv1 (.bin .lss (.sint .i64 12) (.sint .i64 11) (.bool true) :: []) = true := by kernel_rfl
theorem wak4L : Go.Ev.chkX (walf wac4) wat4L waiv4 (.bin .lss (.sint .i64 12) (.sint .i64 11) (.bool true) :: []) = true := by kernel_rfl
theorem wck4L : Go.Ev.chkX (wclf wcc4) wct4L wciv4 (.bin .lss (.sint .i64 12) (.sint .i64 11) (.bool true) :: []) = true := by kernel_rfl
theorem clk1L : Go.Ev.chkX (cllf clc1) clt1L cliv1 (.bin .lss (.sint .i64 12) (.sint .i64 11) (.bool true) :: []) = true := by kernel_rfl
theorem wck3LLLRL : Go.Ev.chkX (wclf wcc3) wct3LLLRL (Go.Ev.ivHi (Go.Ev.ivLo (Go.Ev.ivHi (Go.Ev.ivHi wciv3 21 (0)) 22 (0)) 14 (0 + 1)) 14 (1)) (.bin .lss (.sint .i64 12) (.sint .i64 11) (.bool true) :: []) = true := by kernel_rfl
theorem vdk1LLLL : Go.Ev.chkX (vdlf vdc1) vdt1LLLL (Go.Ev.ivHi (Go.Ev.ivHi (Go.Ev.ivHi vdiv1 21 (0)) 22 (0)) 14 (0)) (.bin .lss (.sint .i64 12) (.sint .i64 11) (.bool true) :: []) = true := by kernel_rfl
theorem wbk0L : Go.Ev.chkX (wblf wbc0) wbt0L (Go.Ev.ivHi wbiv0 0 (-1)) [] = true := by kernel_rfl
theorem wak3R : Go.Ev.chkX (walf wac3) wat3R waiv3 (.bin .lss (.sint .i64 12) (.sint .i64 11) (.bool false) :: []) = true := by kernel_rfl
theorem wbk3R : Go.Ev.chkX (wblf wbc3) wbt3R wbiv3 (.bin .lss (.sint .i64 12) (.sint .i64 11) (.bool false) :: []) = true := by kernel_rfl
theorem wck5R : Go.Ev.chkX (wclf wcc5) wct5R wciv5 (.bin .lss (.sint .i64 12) (.sint .i64 11) (.bool false) :: []) = true := by kernel_rfl
theorem clk0 : Go.Ev.chkX (cllf clc0) clt0 cliv0 [] = true := by kernel_rfl
theorem vdk1R : Go.Ev.chkX (vdlf vdc1) vdt1R vdiv1 (.bin .lss (.sint .i64 12) (.sint .i64 11) (.bool false) :: []) = true := by kernel_rfl
end
end Go.Proofs.Ytgbpkilegbechaa.cards
