/-
  Certificates: what the kernel runs.
-/
import Derived.Test.YtgbpkilegbechaaCdE
namespace Go.Proofs.Ytgbpkilegbechaa.cards
open Go.Ev Go.RowKit
set_option linter.unusedVariables false
noncomputable section
theorem wck3LLRR : Go.Ev.chkX (wclf wcc3) wct3LLRR (Go.Ev.ivLo (Go.Ev.ivLo (Go.Ev.ivHi wciv3 21 (0)) 22 (0 + 1)) 22 (1 + 1)) (.bin .lss (.sint .i64 12) (.sint .i64 11) (.bool true) :: []) = true := by kernel_rfl
theorem wck3LRLRRRRLR : Go.Ev.chkX (wclf wcc3) wct3LRLRRRRLR (Go.Ev.ivLo (Go.Ev.ivHi (Go.Ev.ivLo (Go.Ev.ivLo (Go.Ev.ivLo (Go.Ev.ivLo (Go.Ev.ivHi (Go.Ev.ivLo wciv3 21 (0 + 1)) 22 (0)) 14 (0 + 1)) 14 (1 + 1)) 29 (0 + 1)) 24 (-1 + 1)) 24 (0)) 25 (-1 + 1)) (.bin .lss (.sint .i64 12) (.sint .i64 11) (.bool true) :: []) = true := by kernel_rfl
theorem wck3LLLRRLRLRLRL : Go.Ev.chkX (wclf wcc3) wct3LLLRRLRLRLRL (Go.Ev.ivHi (Go.Ev.ivLo (Go.Ev.ivHi (Go.Ev.ivLo (Go.Ev.ivHi (Go.Ev.ivLo (Go.Ev.ivHi (Go.Ev.ivLo (Go.Ev.ivLo (Go.Ev.ivHi (Go.Ev.ivHi wciv3 21 (0)) 22 (0)) 14 (0 + 1)) 14 (1 + 1)) 29 (0)) 24 (-1 + 1)) 24 (0)) 25 (-1 + 1)) 25 (0)) 26 (-1 + 1)) 26 (0)) (.bin .lss (.sint .i64 12) (.sint .i64 11) (.bool true) :: []) = true := by kernel_rfl
theorem vdk1LLRR : Go.Ev.chkX (vdlf vdc1) vdt1LLRR (Go.Ev.ivLo (Go.Ev.ivLo (Go.Ev.ivHi vdiv1 21 (0)) 22 (0 + 1)) 22 (1 + 1)) (.bin .lss (.sint .i64 12) (.sint .i64 11) (.bool true) :: []) = true := by kernel_rfl
theorem rck1LR : Go.Ev.chkX (rclf rcc1) rct1LR (Go.Ev.ivLo rciv1 6 (16 + 1)) (.bin .lss (.sint .i64 3) (.sint .i64 2) (.bool true) :: []) = true := by kernel_rfl
theorem wck3LLLRRRRR : Go.Ev.chkX (wclf wcc3) wct3LLLRRRRR (Go.Ev.ivLo (Go.Ev.ivLo (Go.Ev.ivLo (Go.Ev.ivLo (Go.Ev.ivLo (Go.Ev.ivHi (Go.Ev.ivHi wciv3 21 (0)) 22 (0)) 14 (0 + 1)) 14 (1 + 1)) 29 (0 + 1)) 24 (-1 + 1)) 24 (0 + 1)) (.bin .lss (.sint .i64 12) (.sint .i64 11) (.bool true) :: []) = true := by kernel_rfl
theorem wck3LLLRRLRLRR : Go.Ev.chkX (wclf wcc3) wct3LLLRRLRLRR (Go.Ev.ivLo (Go.Ev.ivLo (Go.Ev.ivHi (Go.Ev.ivLo (Go.Ev.ivHi (Go.Ev.ivLo (Go.Ev.ivLo (Go.Ev.ivHi (Go.Ev.ivHi wciv3 21 (0)) 22 (0)) 14 (0 + 1)) 14 (1 + 1)) 29 (0)) 24 (-1 + 1)) 24 (0)) 25 (-1 + 1)) 25 (0 + 1)) (.bin .lss (.sint .i64 12) (.sint .i64 11) (.bool true) :: []) = true := by kernel_rfl
theorem wck3LLLRRRRLL : Go.Ev.chkX (wclf wcc3) wct3LLLRRRRLL (Go.Ev.ivHi (Go.Ev.ivHi (Go.Ev.ivLo (Go.Ev.ivLo (Go.Ev.ivLo (Go.Ev.ivLo (Go.Ev.ivHi (Go.Ev.ivHi wciv3 21 (0)) 22 (0)) 14 (0 + 1)) 14 (1 + 1)) 29 (0 + 1)) 24 (-1 + 1)) 24 (0)) 25 (-1)) (.bin .lss (.sint .i64 12) (.sint .i64 11) (.bool true) :: []) = true := by kernel_rfl
theorem wck3LLLRRLRLRLRR : Go.Ev.chkX (wclf wcc3) wct3LLLRRLRLRLRR (Go.Ev.ivLo (Go.Ev.ivLo (Go.Ev.ivHi (Go.Ev.ivLo (Go.Ev.ivHi (Go.Ev.ivLo (Go.Ev.ivHi (Go.Ev.ivLo (Go.Ev.ivLo (Go.Ev.ivHi (Go.Ev.ivHi wciv3 21 (0)) 22 (0)) 14 (0 + 1)) 14 (1 + 1)) 29 (0)) 24 (-1 + 1)) 24 (0)) 25 (-1 + 1)) 25 (0)) 26 (-1 + 1)) 26 (0 + 1)) (.bin .lss (.sint .i64 12) (.sint .i64 11) (.bool true) :: []) = true := by kernel_rfl
theorem vdk1LLLRLRRL : Go.Ev.chkX (vdlf vdc1) vdt1LLLRLRRL (Go.Ev.ivHi (Go.Ev.ivLo (Go.Ev.ivLo (Go.Ev.ivHi (Go.Ev.ivLo (Go.Ev.ivHi (Go.Ev.ivHi vdiv1 21 (0)) 22 (0)) 14 (0 + 1)) 14 (5)) 14 (1 + 1)) 14 (2 + 1)) 14 (3)) (.bin .lss (.sint .i64 12) (.sint .i64 11) (.bool true) :: []) = true := by kernel_rfl
theorem wck3LRLRRRRLL : Go.Ev.chkX (wclf wcc3) wct3LRLRRRRLL (Go.Ev.ivHi (Go.Ev.ivHi (Go.Ev.ivLo (Go.Ev.ivLo (Go.Ev.ivLo (Go.Ev.ivLo (Go.Ev.ivHi (Go.Ev.ivLo wciv3 21 (0 + 1)) 22 (0)) 14 (0 + 1)) 14 (1 + 1)) 29 (0 + 1)) 24 (-1 + 1)) 24 (0)) 25 (-1)) (.bin .lss (.sint .i64 12) (.sint .i64 11) (.bool true) :: []) = true := by kernel_rfl
theorem cck1LRLRRRRRRRRRRRRL : Go.Ev.chkX (cclf ccc1) cct1LRLRRRRRRRRRRRRL (Go.Ev.ivHi (Go.Ev.ivLo (Go.Ev.ivLo (Go.Ev.ivLo (Go.Ev.ivLo (Go.Ev.ivLo (Go.Ev.ivLo (Go.Ev.ivLo (Go.Ev.ivLo (Go.Ev.ivLo (Go.Ev.ivLo (Go.Ev.ivLo (Go.Ev.ivLo (Go.Ev.ivHi (Go.Ev.ivLo cciv1 6 (0 + 1)) 6 (24)) 6 (1 + 1)) 6 (2 + 1)) 6 (3 + 1)) 6 (4 + 1)) 6 (5 + 1)) 6 (6 + 1)) 6 (7 + 1)) 6 (8 + 1)) 6 (9 + 1)) 6 (10 + 1)) 6 (11 + 1)) 6 (12 + 1)) 6 (13)) (.bin .lss (.sint .i64 3) (.sint .i64 2) (.bool true) :: []) = true := by kernel_rfl
theorem cck1LRLRRRRRRRRRRRRRL : Go.Ev.chkX (cclf ccc1) cct1LRLRRRRRRRRRRRRRL (Go.Ev.ivHi (Go.Ev.ivLo (Go.Ev.ivLo (Go.Ev.ivLo (Go.Ev.ivLo (Go.Ev.ivLo (Go.Ev.ivLo (Go.Ev.ivLo (Go.Ev.ivLo (Go.Ev.ivLo (Go.Ev.ivLo (Go.Ev.ivLo (Go.Ev.ivLo (Go.Ev.ivLo (Go.Ev.ivHi (Go.Ev.ivLo cciv1 6 (0 + 1)) 6 (24)) 6 (1 + 1)) 6 (2 + 1)) 6 (3 + 1)) 6 (4 + 1)) 6 (5 + 1)) 6 (6 + 1)) 6 (7 + 1)) 6 (8 + 1)) 6 (9 + 1)) 6 (10 + 1)) 6 (11 + 1)) 6 (12 + 1)) 6 (13 + 1)) 6 (14)) (.bin .lss (.sint .i64 3) (.sint .i64 2) (.bool true) :: []) = true := by kernel_rfl
theorem wck3LRLL : Go.Ev.chkX (wclf wcc3) wct3LRLL (Go.Ev.ivHi (Go.Ev.ivHi (Go.Ev.ivLo wciv3 21 (0 + 1)) 22 (0)) 14 (0)) (.bin .lss (.sint .i64 12) (.sint .i64 11) (.bool true) :: []) = true := by kernel_rfl
theorem cck1LRLRRRRRL : Go.Ev.chkX (cclf ccc1) cct1LRLRRRRRL (Go.Ev.ivHi (Go.Ev.ivLo (Go.Ev.ivLo (Go.Ev.ivLo (Go.Ev.ivLo (Go.Ev.ivLo (Go.Ev.ivHi (Go.Ev.ivLo cciv1 6 (0 + 1)) 6 (24)) 6 (1 + 1)) 6 (2 + 1)) 6 (3 + 1)) 6 (4 + 1)) 6 (5 + 1)) 6 (6)) (.bin .lss (.sint .i64 3) (.sint .i64 2) (.bool true) :: []) = true := by kernel_rfl
theorem wck1R : Go.Ev.chkX (wclf wcc1) wct1R wciv1 (.bin .lss (.sint .i64 12) (.sint .i64 11) (.bool false) :: []) = true := by kernel_rfl
theorem cck1LRLRL : Go.Ev.chkX (cclf ccc1) cct1LRLRL (Go.Ev.ivHi (Go.Ev.ivLo (Go.Ev.ivHi (Go.Ev.ivLo cciv1 6 (0 + 1)) 6 (24)) 6 (1 + 1)) 6 (2)) (.bin .lss (.sint .i64 3) (.sint .i64 2) (.bool true) :: []) = true := by kernel_rfl
theorem vak0 : Go.Ev.chkX (valf vac0) vat0 vaiv0 [] = true := by kernel_rfl
theorem wak1L : Go.Ev.chkX (walf wac1) wat1L waiv1 (.bin .lss (.sint .i64 12) (.sint .i64 11) (.bool true) :: []) = true := by kernel_rfl
theorem rck0R : Go.Ev.chkX (rclf rcc0) rct0R (Go.Ev.ivLo rciv0 0 (-1 + 1)) [] = true := by kernel_rfl
theorem wck6L : Go.Ev.chkX (wclf wcc6) wct6L wciv6 (.bin .lss (.sint .i64 12) (.sint .i64 11) (.bool true) :: []) = true := by kernel_rfl
theorem clk1R : Go.Ev.chkX (cllf clc1) clt1R cliv1 (.bin .lss (.sint .i64 12) (.sint .i64 11) (.bool false) :: []) = true := by kernel_rfl
theorem vdk1LLLRR : Go.Ev.chkX (vdlf vdc1) vdt1LLLRR (Go.Ev.ivLo (Go.Ev.ivLo (Go.Ev.ivHi (Go.Ev.ivHi vdiv1 21 (0)) 22 (0)) 14 (0 + 1)) 14 (5 + 1)) (.bin .lss (.sint .i64 12) (.sint .i64 11) (.bool true) :: []) = true := by kernel_rfl
theorem vdk0L : Go.Ev.chkX (vdlf vdc0) vdt0L (Go.Ev.ivHi vdiv0 0 (-1)) [] = true := by kernel_rfl
theorem wbk2L : Go.Ev.chkX (wblf wbc2) wbt2L wbiv2 (.bin .lss (.sint .i64 12) (.sint .i64 11) (.bool true) :: []) = true := by kernel_rfl
theorem wck0L : Go.Ev.chkX (wclf wcc0) wct0L (Go.Ev.ivHi wciv0 0 (-1)) [] = true := by kernel_rfl
theorem wck3R : Go.Ev.chkX (wclf wcc3) wct3R wciv3 (.bin .lss (.sint .i64 12) (.sint .i64 11) (.bool false) :: []) = true := by kernel_rfl
theorem wak2R : Go.Ev.chkX (walf wac2) wat2R waiv2 (.bin .lss (.sint .i64 12) (.sint .i64 11) (.bool false) :: []) = true := by kernel_rfl
theorem wck2R : Go.Ev.chkX (wclf wcc2) wct2R wciv2 (.bin .lss (.sint .i64 12) (.sint .i64 11) (.bool false) :: []) = true := by kernel_rfl
theorem cck1R : Go.Ev.chkX (cclf ccc1) cct1R cciv1 (.bin .lss (.sint .i64 3) (.sint .i64 2) (.bool false) :: []) = true := by kernel_rfl
end
end Go.Proofs.Ytgbpkilegbechaa.cards
