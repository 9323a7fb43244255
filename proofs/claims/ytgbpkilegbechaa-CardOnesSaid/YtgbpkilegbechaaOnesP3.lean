/-
  'CardOnes': cases that the kernel runs.
-/
import Derived.Test.YtgbpkilegbechaaOnes
namespace Go.Proofs.Ytgbpkilegbechaa.ones
open Go.RowKit
set_option linter.unusedVariables false
theorem c_3_8_1 : Go.Ev.chkT (lc 3 8) (.cut 2 (1) .leaf (.cut 2 (2) .leaf (.cut 2 (3) .leaf (.cut 2 (4) .leaf .leaf)))) (Go.Ev.ivLo iv0 2 (0 + 1)) [] = true := by kernel_rfl
theorem c_1_8_2 : Go.Ev.chkT (lc 1 8) (.cut 2 (2) .leaf (.cut 2 (3) .leaf (.cut 2 (4) .leaf .leaf))) (Go.Ev.ivLo (Go.Ev.ivLo iv0 2 (0 + 1)) 2 (1 + 1)) [] = true := by kernel_rfl
theorem c_0_7_1 : Go.Ev.chkT (lc 0 7) (.cut 2 (5) (.cut 2 (1) .leaf (.cut 2 (2) .leaf (.cut 2 (3) .leaf (.cut 2 (4) .leaf .leaf)))) .leaf) (Go.Ev.ivLo iv0 2 (0 + 1)) [] = true := by kernel_rfl
theorem c_3_6_0 : Go.Ev.chkT (lc 3 6) (.cut 2 (-1) .leaf (.cut 2 (64) (.cut 2 (0) .leaf (.cut 2 (63) .leaf .leaf)) .leaf)) iv0 [] = true := by kernel_rfl
theorem c_1_13_0 : Go.Ev.chkT (lc 1 13) (.cut 2 (-1) .leaf (.cut 2 (0) .leaf .leaf)) iv0 [] = true := by kernel_rfl
theorem c_1_10_0 : Go.Ev.chkT (lc 1 10) (.cut 2 (-1) .leaf (.cut 2 (0) .leaf .leaf)) iv0 [] = true := by kernel_rfl
theorem c_3_17_14 : Go.Ev.chkT (lc 3 17) (.cut 2 (18) .leaf (.cut 2 (19) .leaf .leaf)) (Go.Ev.ivHi (Go.Ev.ivLo (Go.Ev.ivLo iv0 2 (16 + 1)) 2 (17 + 1)) 2 (20)) [] = true := by kernel_rfl
theorem c_3_11_0 : Go.Ev.chkT (lc 3 11) (.cut 2 (-1) .leaf (.cut 2 (0) .leaf .leaf)) iv0 [] = true := by kernel_rfl
theorem c_3_4_0 : Go.Ev.chkT (lc 3 4) (.cut 2 (-1) .leaf (.cut 2 (0) .leaf (.cut 2 (15) .leaf .leaf))) iv0 [] = true := by kernel_rfl
theorem c_3_3_0 : Go.Ev.chkT (lc 3 3) (.cut 2 (-1) .leaf (.cut 2 (0) .leaf (.cut 2 (3) .leaf .leaf))) iv0 [] = true := by kernel_rfl
theorem c_1_6_0 : Go.Ev.chkT (lc 1 6) (.cut 2 (-1) .leaf (.cut 2 (127) .leaf .leaf)) iv0 [] = true := by kernel_rfl
theorem c_2_15_0 : Go.Ev.chkT (lc 2 15) (.cut 2 (0) .leaf (.cut 2 (6) .leaf .leaf)) iv0 [] = true := by kernel_rfl
theorem c_0_13_0 : Go.Ev.chkT (lc 0 13) (.cut 2 (-1) .leaf (.cut 2 (0) .leaf .leaf)) iv0 [] = true := by kernel_rfl
theorem c_0_11_0 : Go.Ev.chkT (lc 0 11) (.cut 2 (-1) .leaf (.cut 2 (0) .leaf .leaf)) iv0 [] = true := by kernel_rfl
theorem c_2_10_0 : Go.Ev.chkT (lc 2 10) (.cut 2 (-1) .leaf (.cut 2 (0) .leaf .leaf)) iv0 [] = true := by kernel_rfl
theorem c_2_11_0 : Go.Ev.chkT (lc 2 11) (.cut 2 (-1) .leaf (.cut 2 (0) .leaf .leaf)) iv0 [] = true := by kernel_rfl
theorem c_1_20_0 : Go.Ev.chkT (lc 1 20) .leaf iv0 [] = true := by kernel_rfl
theorem c_1_16_0 : Go.Ev.chkT (lc 1 16) .leaf iv0 [] = true := by kernel_rfl
theorem c_1_17_11 : Go.Ev.chkT (lc 1 17) .leaf (Go.Ev.ivHi (Go.Ev.ivLo (Go.Ev.ivLo (Go.Ev.ivLo (Go.Ev.ivLo (Go.Ev.ivLo (Go.Ev.ivLo (Go.Ev.ivLo (Go.Ev.ivLo (Go.Ev.ivLo (Go.Ev.ivLo (Go.Ev.ivLo (Go.Ev.ivHi iv0 2 (16)) 2 (0 + 1)) 2 (1 + 1)) 2 (2 + 1)) 2 (3 + 1)) 2 (4 + 1)) 2 (5 + 1)) 2 (6 + 1)) 2 (7 + 1)) 2 (8 + 1)) 2 (9 + 1)) 2 (10 + 1)) 2 (11)) [] = true := by kernel_rfl
theorem c_1_17_9 : Go.Ev.chkT (lc 1 17) .leaf (Go.Ev.ivHi (Go.Ev.ivLo (Go.Ev.ivLo (Go.Ev.ivLo (Go.Ev.ivLo (Go.Ev.ivLo (Go.Ev.ivLo (Go.Ev.ivLo (Go.Ev.ivLo (Go.Ev.ivLo (Go.Ev.ivHi iv0 2 (16)) 2 (0 + 1)) 2 (1 + 1)) 2 (2 + 1)) 2 (3 + 1)) 2 (4 + 1)) 2 (5 + 1)) 2 (6 + 1)) 2 (7 + 1)) 2 (8 + 1)) 2 (9)) [] = true := by kernel_rfl
theorem c_1_17_5 : Go.Ev.chkT (lc 1 17) .leaf (Go.Ev.ivHi (Go.Ev.ivLo (Go.Ev.ivLo (Go.Ev.ivLo (Go.Ev.ivLo (Go.Ev.ivLo (Go.Ev.ivHi iv0 2 (16)) 2 (0 + 1)) 2 (1 + 1)) 2 (2 + 1)) 2 (3 + 1)) 2 (4 + 1)) 2 (5)) [] = true := by kernel_rfl
theorem c_1_17_3 : Go.Ev.chkT (lc 1 17) .leaf (Go.Ev.ivHi (Go.Ev.ivLo (Go.Ev.ivLo (Go.Ev.ivLo (Go.Ev.ivHi iv0 2 (16)) 2 (0 + 1)) 2 (1 + 1)) 2 (2 + 1)) 2 (3)) [] = true := by kernel_rfl
theorem c_1_14_0 : Go.Ev.chkT (lc 1 14) .leaf iv0 [] = true := by kernel_rfl
theorem c_0_17_16 : Go.Ev.chkT (lc 0 17) .leaf (Go.Ev.ivHi (Go.Ev.ivLo (Go.Ev.ivLo (Go.Ev.ivLo (Go.Ev.ivLo (Go.Ev.ivLo (Go.Ev.ivLo (Go.Ev.ivLo (Go.Ev.ivLo (Go.Ev.ivLo (Go.Ev.ivLo (Go.Ev.ivLo (Go.Ev.ivLo (Go.Ev.ivLo (Go.Ev.ivLo (Go.Ev.ivLo (Go.Ev.ivHi (Go.Ev.ivLo iv0 2 (0 + 1)) 2 (24)) 2 (1 + 1)) 2 (2 + 1)) 2 (3 + 1)) 2 (4 + 1)) 2 (5 + 1)) 2 (6 + 1)) 2 (7 + 1)) 2 (8 + 1)) 2 (9 + 1)) 2 (10 + 1)) 2 (11 + 1)) 2 (12 + 1)) 2 (13 + 1)) 2 (14 + 1)) 2 (15 + 1)) 2 (16)) [] = true := by kernel_rfl
theorem c_0_17_13 : Go.Ev.chkT (lc 0 17) .leaf (Go.Ev.ivHi (Go.Ev.ivLo (Go.Ev.ivLo (Go.Ev.ivLo (Go.Ev.ivLo (Go.Ev.ivLo (Go.Ev.ivLo (Go.Ev.ivLo (Go.Ev.ivLo (Go.Ev.ivLo (Go.Ev.ivLo (Go.Ev.ivLo (Go.Ev.ivLo (Go.Ev.ivHi (Go.Ev.ivLo iv0 2 (0 + 1)) 2 (24)) 2 (1 + 1)) 2 (2 + 1)) 2 (3 + 1)) 2 (4 + 1)) 2 (5 + 1)) 2 (6 + 1)) 2 (7 + 1)) 2 (8 + 1)) 2 (9 + 1)) 2 (10 + 1)) 2 (11 + 1)) 2 (12 + 1)) 2 (13)) [] = true := by kernel_rfl
theorem c_0_17_7 : Go.Ev.chkT (lc 0 17) .leaf (Go.Ev.ivHi (Go.Ev.ivLo (Go.Ev.ivLo (Go.Ev.ivLo (Go.Ev.ivLo (Go.Ev.ivLo (Go.Ev.ivLo (Go.Ev.ivHi (Go.Ev.ivLo iv0 2 (0 + 1)) 2 (24)) 2 (1 + 1)) 2 (2 + 1)) 2 (3 + 1)) 2 (4 + 1)) 2 (5 + 1)) 2 (6 + 1)) 2 (7)) [] = true := by kernel_rfl
theorem c_0_17_8 : Go.Ev.chkT (lc 0 17) .leaf (Go.Ev.ivHi (Go.Ev.ivLo (Go.Ev.ivLo (Go.Ev.ivLo (Go.Ev.ivLo (Go.Ev.ivLo (Go.Ev.ivLo (Go.Ev.ivLo (Go.Ev.ivHi (Go.Ev.ivLo iv0 2 (0 + 1)) 2 (24)) 2 (1 + 1)) 2 (2 + 1)) 2 (3 + 1)) 2 (4 + 1)) 2 (5 + 1)) 2 (6 + 1)) 2 (7 + 1)) 2 (8)) [] = true := by kernel_rfl
theorem c_0_17_3 : Go.Ev.chkT (lc 0 17) .leaf (Go.Ev.ivHi (Go.Ev.ivLo (Go.Ev.ivLo (Go.Ev.ivHi (Go.Ev.ivLo iv0 2 (0 + 1)) 2 (24)) 2 (1 + 1)) 2 (2 + 1)) 2 (3)) [] = true := by kernel_rfl
theorem c_1_19_0 : Go.Ev.chkT (lc 1 19) .leaf iv0 [] = true := by kernel_rfl
theorem c_2_17_16 : Go.Ev.chkT (lc 2 17) .leaf (Go.Ev.ivHi (Go.Ev.ivLo (Go.Ev.ivLo (Go.Ev.ivLo (Go.Ev.ivLo (Go.Ev.ivLo (Go.Ev.ivLo (Go.Ev.ivLo (Go.Ev.ivLo (Go.Ev.ivLo (Go.Ev.ivLo (Go.Ev.ivLo (Go.Ev.ivLo (Go.Ev.ivLo (Go.Ev.ivLo (Go.Ev.ivLo (Go.Ev.ivHi (Go.Ev.ivLo iv0 2 (0 + 1)) 2 (24)) 2 (1 + 1)) 2 (2 + 1)) 2 (3 + 1)) 2 (4 + 1)) 2 (5 + 1)) 2 (6 + 1)) 2 (7 + 1)) 2 (8 + 1)) 2 (9 + 1)) 2 (10 + 1)) 2 (11 + 1)) 2 (12 + 1)) 2 (13 + 1)) 2 (14 + 1)) 2 (15 + 1)) 2 (16)) [] = true := by kernel_rfl
theorem c_0_17_0 : Go.Ev.chkT (lc 0 17) .leaf (Go.Ev.ivHi iv0 2 (0)) [] = true := by kernel_rfl
theorem c_0_17_6 : Go.Ev.chkT (lc 0 17) .leaf (Go.Ev.ivHi (Go.Ev.ivLo (Go.Ev.ivLo (Go.Ev.ivLo (Go.Ev.ivLo (Go.Ev.ivLo (Go.Ev.ivHi (Go.Ev.ivLo iv0 2 (0 + 1)) 2 (24)) 2 (1 + 1)) 2 (2 + 1)) 2 (3 + 1)) 2 (4 + 1)) 2 (5 + 1)) 2 (6)) [] = true := by kernel_rfl
theorem c_3_18_0 : Go.Ev.chkT (lc 3 18) .leaf iv0 [] = true := by kernel_rfl
theorem c_2_17_8 : Go.Ev.chkT (lc 2 17) .leaf (Go.Ev.ivHi (Go.Ev.ivLo (Go.Ev.ivLo (Go.Ev.ivLo (Go.Ev.ivLo (Go.Ev.ivLo (Go.Ev.ivLo (Go.Ev.ivLo (Go.Ev.ivHi (Go.Ev.ivLo iv0 2 (0 + 1)) 2 (24)) 2 (1 + 1)) 2 (2 + 1)) 2 (3 + 1)) 2 (4 + 1)) 2 (5 + 1)) 2 (6 + 1)) 2 (7 + 1)) 2 (8)) [] = true := by kernel_rfl
theorem c_2_17_1 : Go.Ev.chkT (lc 2 17) .leaf (Go.Ev.ivHi (Go.Ev.ivHi (Go.Ev.ivLo iv0 2 (0 + 1)) 2 (24)) 2 (1)) [] = true := by kernel_rfl
theorem c_2_17_5 : Go.Ev.chkT (lc 2 17) .leaf (Go.Ev.ivHi (Go.Ev.ivLo (Go.Ev.ivLo (Go.Ev.ivLo (Go.Ev.ivLo (Go.Ev.ivHi (Go.Ev.ivLo iv0 2 (0 + 1)) 2 (24)) 2 (1 + 1)) 2 (2 + 1)) 2 (3 + 1)) 2 (4 + 1)) 2 (5)) [] = true := by kernel_rfl
theorem c_3_17_5 : Go.Ev.chkT (lc 3 17) .leaf (Go.Ev.ivHi (Go.Ev.ivLo (Go.Ev.ivLo (Go.Ev.ivLo (Go.Ev.ivLo (Go.Ev.ivLo (Go.Ev.ivHi iv0 2 (16)) 2 (0 + 1)) 2 (1 + 1)) 2 (2 + 1)) 2 (3 + 1)) 2 (4 + 1)) 2 (5)) [] = true := by kernel_rfl
theorem c_3_17_3 : Go.Ev.chkT (lc 3 17) .leaf (Go.Ev.ivHi (Go.Ev.ivLo (Go.Ev.ivLo (Go.Ev.ivLo (Go.Ev.ivHi iv0 2 (16)) 2 (0 + 1)) 2 (1 + 1)) 2 (2 + 1)) 2 (3)) [] = true := by kernel_rfl
theorem c_2_17_0 : Go.Ev.chkT (lc 2 17) .leaf (Go.Ev.ivHi iv0 2 (0)) [] = true := by kernel_rfl
theorem c_3_14_0 : Go.Ev.chkT (lc 3 14) .leaf iv0 [] = true := by kernel_rfl
theorem c_3_7_0 : Go.Ev.chkT (lc 3 7) .leaf (Go.Ev.ivHi iv0 2 (0)) [] = true := by kernel_rfl
theorem c_1_23_0 : Go.Ev.chkT (lc 1 23) .leaf iv0 [] = true := by kernel_rfl
theorem c_0_19_0 : Go.Ev.chkT (lc 0 19) .leaf iv0 [] = true := by kernel_rfl
theorem c_1_22_0 : Go.Ev.chkT (lc 1 22) .leaf iv0 [] = true := by kernel_rfl
theorem c_0_22_0 : Go.Ev.chkT (lc 0 22) .leaf iv0 [] = true := by kernel_rfl
end Go.Proofs.Ytgbpkilegbechaa.ones
