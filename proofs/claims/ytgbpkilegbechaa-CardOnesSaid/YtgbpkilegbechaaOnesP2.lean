/-
  'CardOnes': cases that the kernel runs.
-/
import Derived.Test.YtgbpkilegbechaaOnes
namespace Go.Proofs.Ytgbpkilegbechaa.ones
open Go.RowKit
set_option linter.unusedVariables false
theorem c_3_17_12 : Go.Ev.chkT (lc 3 17) (.cut 2 (12) .leaf (.cut 2 (13) .leaf (.cut 2 (14) .leaf (.cut 2 (15) .leaf .leaf)))) (Go.Ev.ivLo (Go.Ev.ivLo (Go.Ev.ivLo (Go.Ev.ivLo (Go.Ev.ivLo (Go.Ev.ivLo (Go.Ev.ivLo (Go.Ev.ivLo (Go.Ev.ivLo (Go.Ev.ivLo (Go.Ev.ivLo (Go.Ev.ivLo (Go.Ev.ivHi iv0 2 (16)) 2 (0 + 1)) 2 (1 + 1)) 2 (2 + 1)) 2 (3 + 1)) 2 (4 + 1)) 2 (5 + 1)) 2 (6 + 1)) 2 (7 + 1)) 2 (8 + 1)) 2 (9 + 1)) 2 (10 + 1)) 2 (11 + 1)) [] = true := by kernel_rfl
theorem c_1_17_17 : Go.Ev.chkT (lc 1 17) (.cut 2 (23) (.cut 2 (22) .leaf .leaf) (.cut 2 (24) .leaf .leaf)) (Go.Ev.ivLo (Go.Ev.ivLo (Go.Ev.ivLo (Go.Ev.ivLo iv0 2 (16 + 1)) 2 (17 + 1)) 2 (20 + 1)) 2 (21 + 1)) [] = true := by kernel_rfl
theorem c_3_7_1 : Go.Ev.chkT (lc 3 7) (.cut 2 (1) .leaf (.cut 2 (2) .leaf (.cut 2 (3) .leaf (.cut 2 (4) .leaf .leaf)))) (Go.Ev.ivHi (Go.Ev.ivLo iv0 2 (0 + 1)) 2 (5)) [] = true := by kernel_rfl
theorem c_1_17_15 : Go.Ev.chkT (lc 1 17) (.cut 2 (18) .leaf (.cut 2 (19) .leaf .leaf)) (Go.Ev.ivHi (Go.Ev.ivLo (Go.Ev.ivLo iv0 2 (16 + 1)) 2 (17 + 1)) 2 (20)) [] = true := by kernel_rfl
theorem c_1_9_0 : Go.Ev.chkT (lc 1 9) (.cut 2 (-1) .leaf (.cut 2 (1) .leaf .leaf)) iv0 [] = true := by kernel_rfl
theorem c_1_11_0 : Go.Ev.chkT (lc 1 11) (.cut 2 (-1) .leaf (.cut 2 (0) .leaf .leaf)) iv0 [] = true := by kernel_rfl
theorem c_1_3_0 : Go.Ev.chkT (lc 1 3) (.cut 2 (-1) .leaf (.cut 2 (0) .leaf (.cut 2 (3) .leaf .leaf))) iv0 [] = true := by kernel_rfl
theorem c_3_13_0 : Go.Ev.chkT (lc 3 13) (.cut 2 (-1) .leaf (.cut 2 (0) .leaf .leaf)) iv0 [] = true := by kernel_rfl
theorem c_3_10_0 : Go.Ev.chkT (lc 3 10) (.cut 2 (-1) .leaf (.cut 2 (0) .leaf .leaf)) iv0 [] = true := by kernel_rfl
theorem c_2_1_0 : Go.Ev.chkT (lc 2 1) (.cut 2 (-1) .leaf (.cut 2 (20) (.cut 2 (0) .leaf .leaf) .leaf)) iv0 [] = true := by kernel_rfl
theorem c_0_10_0 : Go.Ev.chkT (lc 0 10) (.cut 2 (-1) .leaf (.cut 2 (20) .leaf .leaf)) iv0 [] = true := by kernel_rfl
theorem c_0_9_0 : Go.Ev.chkT (lc 0 9) (.cut 2 (-1) .leaf (.cut 2 (0) .leaf .leaf)) iv0 [] = true := by kernel_rfl
theorem c_1_4_0 : Go.Ev.chkT (lc 1 4) (.cut 2 (-1) .leaf (.cut 2 (15) .leaf .leaf)) iv0 [] = true := by kernel_rfl
theorem c_2_3_0 : Go.Ev.chkT (lc 2 3) (.cut 2 (-1) .leaf (.cut 2 (0) .leaf (.cut 2 (3) .leaf .leaf))) iv0 [] = true := by kernel_rfl
theorem c_2_8_0 : Go.Ev.chkT (lc 2 8) (.cut 2 (-1) .leaf (.cut 2 (0) .leaf .leaf)) iv0 [] = true := by kernel_rfl
theorem c_2_12_0 : Go.Ev.chkT (lc 2 12) (.cut 2 (-1) .leaf (.cut 2 (0) .leaf .leaf)) iv0 [] = true := by kernel_rfl
theorem c_0_20_0 : Go.Ev.chkT (lc 0 20) .leaf iv0 [] = true := by kernel_rfl
theorem c_1_18_0 : Go.Ev.chkT (lc 1 18) .leaf iv0 [] = true := by kernel_rfl
theorem c_1_17_12 : Go.Ev.chkT (lc 1 17) .leaf (Go.Ev.ivHi (Go.Ev.ivLo (Go.Ev.ivLo (Go.Ev.ivLo (Go.Ev.ivLo (Go.Ev.ivLo (Go.Ev.ivLo (Go.Ev.ivLo (Go.Ev.ivLo (Go.Ev.ivLo (Go.Ev.ivLo (Go.Ev.ivLo (Go.Ev.ivLo (Go.Ev.ivHi iv0 2 (16)) 2 (0 + 1)) 2 (1 + 1)) 2 (2 + 1)) 2 (3 + 1)) 2 (4 + 1)) 2 (5 + 1)) 2 (6 + 1)) 2 (7 + 1)) 2 (8 + 1)) 2 (9 + 1)) 2 (10 + 1)) 2 (11 + 1)) 2 (12)) [] = true := by kernel_rfl
theorem c_1_17_10 : Go.Ev.chkT (lc 1 17) .leaf (Go.Ev.ivHi (Go.Ev.ivLo (Go.Ev.ivLo (Go.Ev.ivLo (Go.Ev.ivLo (Go.Ev.ivLo (Go.Ev.ivLo (Go.Ev.ivLo (Go.Ev.ivLo (Go.Ev.ivLo (Go.Ev.ivLo (Go.Ev.ivHi iv0 2 (16)) 2 (0 + 1)) 2 (1 + 1)) 2 (2 + 1)) 2 (3 + 1)) 2 (4 + 1)) 2 (5 + 1)) 2 (6 + 1)) 2 (7 + 1)) 2 (8 + 1)) 2 (9 + 1)) 2 (10)) [] = true := by kernel_rfl
theorem c_1_17_8 : Go.Ev.chkT (lc 1 17) .leaf (Go.Ev.ivHi (Go.Ev.ivLo (Go.Ev.ivLo (Go.Ev.ivLo (Go.Ev.ivLo (Go.Ev.ivLo (Go.Ev.ivLo (Go.Ev.ivLo (Go.Ev.ivLo (Go.Ev.ivHi iv0 2 (16)) 2 (0 + 1)) 2 (1 + 1)) 2 (2 + 1)) 2 (3 + 1)) 2 (4 + 1)) 2 (5 + 1)) 2 (6 + 1)) 2 (7 + 1)) 2 (8)) [] = true := by kernel_rfl
theorem c_1_17_1 : Go.Ev.chkT (lc 1 17) .leaf (Go.Ev.ivHi (Go.Ev.ivLo (Go.Ev.ivHi iv0 2 (16)) 2 (0 + 1)) 2 (1)) [] = true := by kernel_rfl
theorem c_1_15_0 : Go.Ev.chkT (lc 1 15) .leaf iv0 [] = true := by kernel_rfl
theorem c_0_17_18 : Go.Ev.chkT (lc 0 17) .leaf (Go.Ev.ivHi (Go.Ev.ivLo (Go.Ev.ivLo (Go.Ev.ivLo (Go.Ev.ivLo (Go.Ev.ivLo (Go.Ev.ivLo (Go.Ev.ivLo (Go.Ev.ivLo (Go.Ev.ivLo (Go.Ev.ivLo (Go.Ev.ivLo (Go.Ev.ivLo (Go.Ev.ivLo (Go.Ev.ivLo (Go.Ev.ivLo (Go.Ev.ivLo (Go.Ev.ivLo (Go.Ev.ivHi (Go.Ev.ivLo iv0 2 (0 + 1)) 2 (24)) 2 (1 + 1)) 2 (2 + 1)) 2 (3 + 1)) 2 (4 + 1)) 2 (5 + 1)) 2 (6 + 1)) 2 (7 + 1)) 2 (8 + 1)) 2 (9 + 1)) 2 (10 + 1)) 2 (11 + 1)) 2 (12 + 1)) 2 (13 + 1)) 2 (14 + 1)) 2 (15 + 1)) 2 (16 + 1)) 2 (17 + 1)) 2 (18)) [] = true := by kernel_rfl
theorem c_0_17_14 : Go.Ev.chkT (lc 0 17) .leaf (Go.Ev.ivHi (Go.Ev.ivLo (Go.Ev.ivLo (Go.Ev.ivLo (Go.Ev.ivLo (Go.Ev.ivLo (Go.Ev.ivLo (Go.Ev.ivLo (Go.Ev.ivLo (Go.Ev.ivLo (Go.Ev.ivLo (Go.Ev.ivLo (Go.Ev.ivLo (Go.Ev.ivLo (Go.Ev.ivHi (Go.Ev.ivLo iv0 2 (0 + 1)) 2 (24)) 2 (1 + 1)) 2 (2 + 1)) 2 (3 + 1)) 2 (4 + 1)) 2 (5 + 1)) 2 (6 + 1)) 2 (7 + 1)) 2 (8 + 1)) 2 (9 + 1)) 2 (10 + 1)) 2 (11 + 1)) 2 (12 + 1)) 2 (13 + 1)) 2 (14)) [] = true := by kernel_rfl
theorem c_0_17_10 : Go.Ev.chkT (lc 0 17) .leaf (Go.Ev.ivHi (Go.Ev.ivLo (Go.Ev.ivLo (Go.Ev.ivLo (Go.Ev.ivLo (Go.Ev.ivLo (Go.Ev.ivLo (Go.Ev.ivLo (Go.Ev.ivLo (Go.Ev.ivLo (Go.Ev.ivHi (Go.Ev.ivLo iv0 2 (0 + 1)) 2 (24)) 2 (1 + 1)) 2 (2 + 1)) 2 (3 + 1)) 2 (4 + 1)) 2 (5 + 1)) 2 (6 + 1)) 2 (7 + 1)) 2 (8 + 1)) 2 (9 + 1)) 2 (10)) [] = true := by kernel_rfl
theorem c_0_17_9 : Go.Ev.chkT (lc 0 17) .leaf (Go.Ev.ivHi (Go.Ev.ivLo (Go.Ev.ivLo (Go.Ev.ivLo (Go.Ev.ivLo (Go.Ev.ivLo (Go.Ev.ivLo (Go.Ev.ivLo (Go.Ev.ivLo (Go.Ev.ivHi (Go.Ev.ivLo iv0 2 (0 + 1)) 2 (24)) 2 (1 + 1)) 2 (2 + 1)) 2 (3 + 1)) 2 (4 + 1)) 2 (5 + 1)) 2 (6 + 1)) 2 (7 + 1)) 2 (8 + 1)) 2 (9)) [] = true := by kernel_rfl
theorem c_0_17_4 : Go.Ev.chkT (lc 0 17) .leaf (Go.Ev.ivHi (Go.Ev.ivLo (Go.Ev.ivLo (Go.Ev.ivLo (Go.Ev.ivHi (Go.Ev.ivLo iv0 2 (0 + 1)) 2 (24)) 2 (1 + 1)) 2 (2 + 1)) 2 (3 + 1)) 2 (4)) [] = true := by kernel_rfl
theorem c_2_20_0 : Go.Ev.chkT (lc 2 20) .leaf iv0 [] = true := by kernel_rfl
theorem c_2_17_18 : Go.Ev.chkT (lc 2 17) .leaf (Go.Ev.ivHi (Go.Ev.ivLo (Go.Ev.ivLo (Go.Ev.ivLo (Go.Ev.ivLo (Go.Ev.ivLo (Go.Ev.ivLo (Go.Ev.ivLo (Go.Ev.ivLo (Go.Ev.ivLo (Go.Ev.ivLo (Go.Ev.ivLo (Go.Ev.ivLo (Go.Ev.ivLo (Go.Ev.ivLo (Go.Ev.ivLo (Go.Ev.ivLo (Go.Ev.ivLo (Go.Ev.ivHi (Go.Ev.ivLo iv0 2 (0 + 1)) 2 (24)) 2 (1 + 1)) 2 (2 + 1)) 2 (3 + 1)) 2 (4 + 1)) 2 (5 + 1)) 2 (6 + 1)) 2 (7 + 1)) 2 (8 + 1)) 2 (9 + 1)) 2 (10 + 1)) 2 (11 + 1)) 2 (12 + 1)) 2 (13 + 1)) 2 (14 + 1)) 2 (15 + 1)) 2 (16 + 1)) 2 (17 + 1)) 2 (18)) [] = true := by kernel_rfl
theorem c_2_17_13 : Go.Ev.chkT (lc 2 17) .leaf (Go.Ev.ivHi (Go.Ev.ivLo (Go.Ev.ivLo (Go.Ev.ivLo (Go.Ev.ivLo (Go.Ev.ivLo (Go.Ev.ivLo (Go.Ev.ivLo (Go.Ev.ivLo (Go.Ev.ivLo (Go.Ev.ivLo (Go.Ev.ivLo (Go.Ev.ivLo (Go.Ev.ivHi (Go.Ev.ivLo iv0 2 (0 + 1)) 2 (24)) 2 (1 + 1)) 2 (2 + 1)) 2 (3 + 1)) 2 (4 + 1)) 2 (5 + 1)) 2 (6 + 1)) 2 (7 + 1)) 2 (8 + 1)) 2 (9 + 1)) 2 (10 + 1)) 2 (11 + 1)) 2 (12 + 1)) 2 (13)) [] = true := by kernel_rfl
theorem c_2_17_11 : Go.Ev.chkT (lc 2 17) .leaf (Go.Ev.ivHi (Go.Ev.ivLo (Go.Ev.ivLo (Go.Ev.ivLo (Go.Ev.ivLo (Go.Ev.ivLo (Go.Ev.ivLo (Go.Ev.ivLo (Go.Ev.ivLo (Go.Ev.ivLo (Go.Ev.ivLo (Go.Ev.ivHi (Go.Ev.ivLo iv0 2 (0 + 1)) 2 (24)) 2 (1 + 1)) 2 (2 + 1)) 2 (3 + 1)) 2 (4 + 1)) 2 (5 + 1)) 2 (6 + 1)) 2 (7 + 1)) 2 (8 + 1)) 2 (9 + 1)) 2 (10 + 1)) 2 (11)) [] = true := by kernel_rfl
theorem c_3_17_13 : Go.Ev.chkT (lc 3 17) .leaf (Go.Ev.ivHi (Go.Ev.ivLo iv0 2 (16 + 1)) 2 (17)) [] = true := by kernel_rfl
theorem c_2_17_9 : Go.Ev.chkT (lc 2 17) .leaf (Go.Ev.ivHi (Go.Ev.ivLo (Go.Ev.ivLo (Go.Ev.ivLo (Go.Ev.ivLo (Go.Ev.ivLo (Go.Ev.ivLo (Go.Ev.ivLo (Go.Ev.ivLo (Go.Ev.ivHi (Go.Ev.ivLo iv0 2 (0 + 1)) 2 (24)) 2 (1 + 1)) 2 (2 + 1)) 2 (3 + 1)) 2 (4 + 1)) 2 (5 + 1)) 2 (6 + 1)) 2 (7 + 1)) 2 (8 + 1)) 2 (9)) [] = true := by kernel_rfl
theorem c_3_17_10 : Go.Ev.chkT (lc 3 17) .leaf (Go.Ev.ivHi (Go.Ev.ivLo (Go.Ev.ivLo (Go.Ev.ivLo (Go.Ev.ivLo (Go.Ev.ivLo (Go.Ev.ivLo (Go.Ev.ivLo (Go.Ev.ivLo (Go.Ev.ivLo (Go.Ev.ivLo (Go.Ev.ivHi iv0 2 (16)) 2 (0 + 1)) 2 (1 + 1)) 2 (2 + 1)) 2 (3 + 1)) 2 (4 + 1)) 2 (5 + 1)) 2 (6 + 1)) 2 (7 + 1)) 2 (8 + 1)) 2 (9 + 1)) 2 (10)) [] = true := by kernel_rfl
theorem c_3_17_8 : Go.Ev.chkT (lc 3 17) .leaf (Go.Ev.ivHi (Go.Ev.ivLo (Go.Ev.ivLo (Go.Ev.ivLo (Go.Ev.ivLo (Go.Ev.ivLo (Go.Ev.ivLo (Go.Ev.ivLo (Go.Ev.ivLo (Go.Ev.ivHi iv0 2 (16)) 2 (0 + 1)) 2 (1 + 1)) 2 (2 + 1)) 2 (3 + 1)) 2 (4 + 1)) 2 (5 + 1)) 2 (6 + 1)) 2 (7 + 1)) 2 (8)) [] = true := by kernel_rfl
theorem c_2_17_2 : Go.Ev.chkT (lc 2 17) .leaf (Go.Ev.ivHi (Go.Ev.ivLo (Go.Ev.ivHi (Go.Ev.ivLo iv0 2 (0 + 1)) 2 (24)) 2 (1 + 1)) 2 (2)) [] = true := by kernel_rfl
theorem c_3_17_1 : Go.Ev.chkT (lc 3 17) .leaf (Go.Ev.ivHi (Go.Ev.ivLo (Go.Ev.ivHi iv0 2 (16)) 2 (0 + 1)) 2 (1)) [] = true := by kernel_rfl
theorem c_3_8_0 : Go.Ev.chkT (lc 3 8) .leaf (Go.Ev.ivHi iv0 2 (0)) [] = true := by kernel_rfl
theorem c_3_15_0 : Go.Ev.chkT (lc 3 15) .leaf iv0 [] = true := by kernel_rfl
theorem c_3_7_2 : Go.Ev.chkT (lc 3 7) .leaf (Go.Ev.ivLo (Go.Ev.ivLo iv0 2 (0 + 1)) 2 (5 + 1)) [] = true := by kernel_rfl
theorem c_2_14_0 : Go.Ev.chkT (lc 2 14) .leaf iv0 [] = true := by kernel_rfl
theorem c_2_23_0 : Go.Ev.chkT (lc 2 23) .leaf iv0 [] = true := by kernel_rfl
theorem c_3_22_0 : Go.Ev.chkT (lc 3 22) .leaf iv0 [] = true := by kernel_rfl
theorem c_0_21_0 : Go.Ev.chkT (lc 0 21) .leaf iv0 [] = true := by kernel_rfl
end Go.Proofs.Ytgbpkilegbechaa.ones
