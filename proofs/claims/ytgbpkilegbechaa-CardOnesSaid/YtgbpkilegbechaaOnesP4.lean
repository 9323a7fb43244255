/-
  'CardOnes': cases that the kernel runs.
-/
import Derived.Test.YtgbpkilegbechaaOnes
namespace Go.Proofs.Ytgbpkilegbechaa.ones
open Go.RowKit
set_option linter.unusedVariables false
theorem c_3_17_15 : Go.Ev.chkT (lc 3 17) (.cut 2 (21) .leaf (.cut 2 (23) (.cut 2 (22) .leaf .leaf) (.cut 2 (24) .leaf .leaf))) (Go.Ev.ivLo (Go.Ev.ivLo (Go.Ev.ivLo iv0 2 (16 + 1)) 2 (17 + 1)) 2 (20 + 1)) [] = true := by kernel_rfl
theorem c_1_17_13 : Go.Ev.chkT (lc 1 17) (.cut 2 (13) .leaf (.cut 2 (14) .leaf (.cut 2 (15) .leaf .leaf))) (Go.Ev.ivLo (Go.Ev.ivLo (Go.Ev.ivLo (Go.Ev.ivLo (Go.Ev.ivLo (Go.Ev.ivLo (Go.Ev.ivLo (Go.Ev.ivLo (Go.Ev.ivLo (Go.Ev.ivLo (Go.Ev.ivLo (Go.Ev.ivLo (Go.Ev.ivLo (Go.Ev.ivHi iv0 2 (16)) 2 (0 + 1)) 2 (1 + 1)) 2 (2 + 1)) 2 (3 + 1)) 2 (4 + 1)) 2 (5 + 1)) 2 (6 + 1)) 2 (7 + 1)) 2 (8 + 1)) 2 (9 + 1)) 2 (10 + 1)) 2 (11 + 1)) 2 (12 + 1)) [] = true := by kernel_rfl
theorem c_0_17_21 : Go.Ev.chkT (lc 0 17) (.cut 2 (21) .leaf (.cut 2 (22) .leaf (.cut 2 (23) .leaf .leaf))) (Go.Ev.ivLo (Go.Ev.ivLo (Go.Ev.ivLo (Go.Ev.ivLo (Go.Ev.ivLo (Go.Ev.ivLo (Go.Ev.ivLo (Go.Ev.ivLo (Go.Ev.ivLo (Go.Ev.ivLo (Go.Ev.ivLo (Go.Ev.ivLo (Go.Ev.ivLo (Go.Ev.ivLo (Go.Ev.ivLo (Go.Ev.ivLo (Go.Ev.ivLo (Go.Ev.ivLo (Go.Ev.ivLo (Go.Ev.ivLo (Go.Ev.ivHi (Go.Ev.ivLo iv0 2 (0 + 1)) 2 (24)) 2 (1 + 1)) 2 (2 + 1)) 2 (3 + 1)) 2 (4 + 1)) 2 (5 + 1)) 2 (6 + 1)) 2 (7 + 1)) 2 (8 + 1)) 2 (9 + 1)) 2 (10 + 1)) 2 (11 + 1)) 2 (12 + 1)) 2 (13 + 1)) 2 (14 + 1)) 2 (15 + 1)) 2 (16 + 1)) 2 (17 + 1)) 2 (18 + 1)) 2 (19 + 1)) 2 (20 + 1)) [] = true := by kernel_rfl
theorem c_3_12_0 : Go.Ev.chkT (lc 3 12) (.cut 2 (0) (.cut 2 (-1) .leaf .leaf) (.cut 2 (999) .leaf .leaf)) iv0 [] = true := by kernel_rfl
theorem c_1_12_0 : Go.Ev.chkT (lc 1 12) (.cut 2 (-1) .leaf (.cut 2 (0) .leaf .leaf)) iv0 [] = true := by kernel_rfl
theorem c_1_1_0 : Go.Ev.chkT (lc 1 1) (.cut 2 (-1) .leaf (.cut 2 (20) (.cut 2 (0) .leaf .leaf) .leaf)) iv0 [] = true := by kernel_rfl
theorem c_2_0_0 : Go.Ev.chkT (lc 2 0) (.cut 2 (0) .leaf (.cut 2 (1) .leaf (.cut 2 (2) .leaf (.cut 2 (3) .leaf (.cut 2 (4) .leaf .leaf))))) iv0 [] = true := by kernel_rfl
theorem c_3_5_0 : Go.Ev.chkT (lc 3 5) (.cut 2 (-1) .leaf (.cut 2 (0) .leaf (.cut 2 (15) .leaf .leaf))) iv0 [] = true := by kernel_rfl
theorem c_2_7_0 : Go.Ev.chkT (lc 2 7) (.cut 2 (0) .leaf (.cut 2 (5) (.cut 2 (1) .leaf .leaf) .leaf)) iv0 [] = true := by kernel_rfl
theorem c_0_4_0 : Go.Ev.chkT (lc 0 4) (.cut 2 (-1) .leaf (.cut 2 (0) .leaf (.cut 2 (15) .leaf .leaf))) iv0 [] = true := by kernel_rfl
theorem c_2_5_0 : Go.Ev.chkT (lc 2 5) (.cut 2 (-1) .leaf (.cut 2 (0) .leaf (.cut 2 (15) .leaf .leaf))) iv0 [] = true := by kernel_rfl
theorem c_0_8_0 : Go.Ev.chkT (lc 0 8) (.cut 2 (-1) .leaf (.cut 2 (0) .leaf .leaf)) iv0 [] = true := by kernel_rfl
theorem c_0_12_0 : Go.Ev.chkT (lc 0 12) (.cut 2 (-1) .leaf (.cut 2 (0) .leaf .leaf)) iv0 [] = true := by kernel_rfl
theorem c_2_9_0 : Go.Ev.chkT (lc 2 9) (.cut 2 (-1) .leaf (.cut 2 (0) .leaf .leaf)) iv0 [] = true := by kernel_rfl
theorem c_2_13_0 : Go.Ev.chkT (lc 2 13) (.cut 2 (-1) .leaf (.cut 2 (0) .leaf .leaf)) iv0 [] = true := by kernel_rfl
theorem c_0_3_0 : Go.Ev.chkT (lc 0 3) (.cut 2 (-1) .leaf (.cut 2 (3) .leaf .leaf)) iv0 [] = true := by kernel_rfl
theorem c_2_2_0 : Go.Ev.chkT (lc 2 2) (.cut 2 (-1) .leaf (.cut 2 (20) .leaf .leaf)) iv0 [] = true := by kernel_rfl
theorem c_1_17_14 : Go.Ev.chkT (lc 1 17) .leaf (Go.Ev.ivHi (Go.Ev.ivLo iv0 2 (16 + 1)) 2 (17)) [] = true := by kernel_rfl
theorem c_1_17_0 : Go.Ev.chkT (lc 1 17) .leaf (Go.Ev.ivHi (Go.Ev.ivHi iv0 2 (16)) 2 (0)) [] = true := by kernel_rfl
theorem c_3_20_0 : Go.Ev.chkT (lc 3 20) .leaf iv0 [] = true := by kernel_rfl
theorem c_1_17_6 : Go.Ev.chkT (lc 1 17) .leaf (Go.Ev.ivHi (Go.Ev.ivLo (Go.Ev.ivLo (Go.Ev.ivLo (Go.Ev.ivLo (Go.Ev.ivLo (Go.Ev.ivLo (Go.Ev.ivHi iv0 2 (16)) 2 (0 + 1)) 2 (1 + 1)) 2 (2 + 1)) 2 (3 + 1)) 2 (4 + 1)) 2 (5 + 1)) 2 (6)) [] = true := by kernel_rfl
theorem c_1_17_2 : Go.Ev.chkT (lc 1 17) .leaf (Go.Ev.ivHi (Go.Ev.ivLo (Go.Ev.ivLo (Go.Ev.ivHi iv0 2 (16)) 2 (0 + 1)) 2 (1 + 1)) 2 (2)) [] = true := by kernel_rfl
theorem c_0_17_19 : Go.Ev.chkT (lc 0 17) .leaf (Go.Ev.ivHi (Go.Ev.ivLo (Go.Ev.ivLo (Go.Ev.ivLo (Go.Ev.ivLo (Go.Ev.ivLo (Go.Ev.ivLo (Go.Ev.ivLo (Go.Ev.ivLo (Go.Ev.ivLo (Go.Ev.ivLo (Go.Ev.ivLo (Go.Ev.ivLo (Go.Ev.ivLo (Go.Ev.ivLo (Go.Ev.ivLo (Go.Ev.ivLo (Go.Ev.ivLo (Go.Ev.ivLo (Go.Ev.ivHi (Go.Ev.ivLo iv0 2 (0 + 1)) 2 (24)) 2 (1 + 1)) 2 (2 + 1)) 2 (3 + 1)) 2 (4 + 1)) 2 (5 + 1)) 2 (6 + 1)) 2 (7 + 1)) 2 (8 + 1)) 2 (9 + 1)) 2 (10 + 1)) 2 (11 + 1)) 2 (12 + 1)) 2 (13 + 1)) 2 (14 + 1)) 2 (15 + 1)) 2 (16 + 1)) 2 (17 + 1)) 2 (18 + 1)) 2 (19)) [] = true := by kernel_rfl
theorem c_0_17_15 : Go.Ev.chkT (lc 0 17) .leaf (Go.Ev.ivHi (Go.Ev.ivLo (Go.Ev.ivLo (Go.Ev.ivLo (Go.Ev.ivLo (Go.Ev.ivLo (Go.Ev.ivLo (Go.Ev.ivLo (Go.Ev.ivLo (Go.Ev.ivLo (Go.Ev.ivLo (Go.Ev.ivLo (Go.Ev.ivLo (Go.Ev.ivLo (Go.Ev.ivLo (Go.Ev.ivHi (Go.Ev.ivLo iv0 2 (0 + 1)) 2 (24)) 2 (1 + 1)) 2 (2 + 1)) 2 (3 + 1)) 2 (4 + 1)) 2 (5 + 1)) 2 (6 + 1)) 2 (7 + 1)) 2 (8 + 1)) 2 (9 + 1)) 2 (10 + 1)) 2 (11 + 1)) 2 (12 + 1)) 2 (13 + 1)) 2 (14 + 1)) 2 (15)) [] = true := by kernel_rfl
theorem c_0_17_12 : Go.Ev.chkT (lc 0 17) .leaf (Go.Ev.ivHi (Go.Ev.ivLo (Go.Ev.ivLo (Go.Ev.ivLo (Go.Ev.ivLo (Go.Ev.ivLo (Go.Ev.ivLo (Go.Ev.ivLo (Go.Ev.ivLo (Go.Ev.ivLo (Go.Ev.ivLo (Go.Ev.ivLo (Go.Ev.ivHi (Go.Ev.ivLo iv0 2 (0 + 1)) 2 (24)) 2 (1 + 1)) 2 (2 + 1)) 2 (3 + 1)) 2 (4 + 1)) 2 (5 + 1)) 2 (6 + 1)) 2 (7 + 1)) 2 (8 + 1)) 2 (9 + 1)) 2 (10 + 1)) 2 (11 + 1)) 2 (12)) [] = true := by kernel_rfl
theorem c_0_17_20 : Go.Ev.chkT (lc 0 17) .leaf (Go.Ev.ivHi (Go.Ev.ivLo (Go.Ev.ivLo (Go.Ev.ivLo (Go.Ev.ivLo (Go.Ev.ivLo (Go.Ev.ivLo (Go.Ev.ivLo (Go.Ev.ivLo (Go.Ev.ivLo (Go.Ev.ivLo (Go.Ev.ivLo (Go.Ev.ivLo (Go.Ev.ivLo (Go.Ev.ivLo (Go.Ev.ivLo (Go.Ev.ivLo (Go.Ev.ivLo (Go.Ev.ivLo (Go.Ev.ivLo (Go.Ev.ivHi (Go.Ev.ivLo iv0 2 (0 + 1)) 2 (24)) 2 (1 + 1)) 2 (2 + 1)) 2 (3 + 1)) 2 (4 + 1)) 2 (5 + 1)) 2 (6 + 1)) 2 (7 + 1)) 2 (8 + 1)) 2 (9 + 1)) 2 (10 + 1)) 2 (11 + 1)) 2 (12 + 1)) 2 (13 + 1)) 2 (14 + 1)) 2 (15 + 1)) 2 (16 + 1)) 2 (17 + 1)) 2 (18 + 1)) 2 (19 + 1)) 2 (20)) [] = true := by kernel_rfl
theorem c_0_17_1 : Go.Ev.chkT (lc 0 17) .leaf (Go.Ev.ivHi (Go.Ev.ivHi (Go.Ev.ivLo iv0 2 (0 + 1)) 2 (24)) 2 (1)) [] = true := by kernel_rfl
theorem c_0_17_2 : Go.Ev.chkT (lc 0 17) .leaf (Go.Ev.ivHi (Go.Ev.ivLo (Go.Ev.ivHi (Go.Ev.ivLo iv0 2 (0 + 1)) 2 (24)) 2 (1 + 1)) 2 (2)) [] = true := by kernel_rfl
theorem c_0_14_0 : Go.Ev.chkT (lc 0 14) .leaf iv0 [] = true := by kernel_rfl
theorem c_2_17_15 : Go.Ev.chkT (lc 2 17) .leaf (Go.Ev.ivHi (Go.Ev.ivLo (Go.Ev.ivLo (Go.Ev.ivLo (Go.Ev.ivLo (Go.Ev.ivLo (Go.Ev.ivLo (Go.Ev.ivLo (Go.Ev.ivLo (Go.Ev.ivLo (Go.Ev.ivLo (Go.Ev.ivLo (Go.Ev.ivLo (Go.Ev.ivLo (Go.Ev.ivLo (Go.Ev.ivHi (Go.Ev.ivLo iv0 2 (0 + 1)) 2 (24)) 2 (1 + 1)) 2 (2 + 1)) 2 (3 + 1)) 2 (4 + 1)) 2 (5 + 1)) 2 (6 + 1)) 2 (7 + 1)) 2 (8 + 1)) 2 (9 + 1)) 2 (10 + 1)) 2 (11 + 1)) 2 (12 + 1)) 2 (13 + 1)) 2 (14 + 1)) 2 (15)) [] = true := by kernel_rfl
theorem c_0_17_22 : Go.Ev.chkT (lc 0 17) .leaf (Go.Ev.ivLo (Go.Ev.ivLo iv0 2 (0 + 1)) 2 (24 + 1)) [] = true := by kernel_rfl
theorem c_2_17_10 : Go.Ev.chkT (lc 2 17) .leaf (Go.Ev.ivHi (Go.Ev.ivLo (Go.Ev.ivLo (Go.Ev.ivLo (Go.Ev.ivLo (Go.Ev.ivLo (Go.Ev.ivLo (Go.Ev.ivLo (Go.Ev.ivLo (Go.Ev.ivLo (Go.Ev.ivHi (Go.Ev.ivLo iv0 2 (0 + 1)) 2 (24)) 2 (1 + 1)) 2 (2 + 1)) 2 (3 + 1)) 2 (4 + 1)) 2 (5 + 1)) 2 (6 + 1)) 2 (7 + 1)) 2 (8 + 1)) 2 (9 + 1)) 2 (10)) [] = true := by kernel_rfl
theorem c_2_17_17 : Go.Ev.chkT (lc 2 17) .leaf (Go.Ev.ivHi (Go.Ev.ivLo (Go.Ev.ivLo (Go.Ev.ivLo (Go.Ev.ivLo (Go.Ev.ivLo (Go.Ev.ivLo (Go.Ev.ivLo (Go.Ev.ivLo (Go.Ev.ivLo (Go.Ev.ivLo (Go.Ev.ivLo (Go.Ev.ivLo (Go.Ev.ivLo (Go.Ev.ivLo (Go.Ev.ivLo (Go.Ev.ivLo (Go.Ev.ivHi (Go.Ev.ivLo iv0 2 (0 + 1)) 2 (24)) 2 (1 + 1)) 2 (2 + 1)) 2 (3 + 1)) 2 (4 + 1)) 2 (5 + 1)) 2 (6 + 1)) 2 (7 + 1)) 2 (8 + 1)) 2 (9 + 1)) 2 (10 + 1)) 2 (11 + 1)) 2 (12 + 1)) 2 (13 + 1)) 2 (14 + 1)) 2 (15 + 1)) 2 (16 + 1)) 2 (17)) [] = true := by kernel_rfl
theorem c_3_17_11 : Go.Ev.chkT (lc 3 17) .leaf (Go.Ev.ivHi (Go.Ev.ivLo (Go.Ev.ivLo (Go.Ev.ivLo (Go.Ev.ivLo (Go.Ev.ivLo (Go.Ev.ivLo (Go.Ev.ivLo (Go.Ev.ivLo (Go.Ev.ivLo (Go.Ev.ivLo (Go.Ev.ivLo (Go.Ev.ivHi iv0 2 (16)) 2 (0 + 1)) 2 (1 + 1)) 2 (2 + 1)) 2 (3 + 1)) 2 (4 + 1)) 2 (5 + 1)) 2 (6 + 1)) 2 (7 + 1)) 2 (8 + 1)) 2 (9 + 1)) 2 (10 + 1)) 2 (11)) [] = true := by kernel_rfl
theorem c_3_17_9 : Go.Ev.chkT (lc 3 17) .leaf (Go.Ev.ivHi (Go.Ev.ivLo (Go.Ev.ivLo (Go.Ev.ivLo (Go.Ev.ivLo (Go.Ev.ivLo (Go.Ev.ivLo (Go.Ev.ivLo (Go.Ev.ivLo (Go.Ev.ivLo (Go.Ev.ivHi iv0 2 (16)) 2 (0 + 1)) 2 (1 + 1)) 2 (2 + 1)) 2 (3 + 1)) 2 (4 + 1)) 2 (5 + 1)) 2 (6 + 1)) 2 (7 + 1)) 2 (8 + 1)) 2 (9)) [] = true := by kernel_rfl
theorem c_2_17_4 : Go.Ev.chkT (lc 2 17) .leaf (Go.Ev.ivHi (Go.Ev.ivLo (Go.Ev.ivLo (Go.Ev.ivLo (Go.Ev.ivHi (Go.Ev.ivLo iv0 2 (0 + 1)) 2 (24)) 2 (1 + 1)) 2 (2 + 1)) 2 (3 + 1)) 2 (4)) [] = true := by kernel_rfl
theorem c_3_17_6 : Go.Ev.chkT (lc 3 17) .leaf (Go.Ev.ivHi (Go.Ev.ivLo (Go.Ev.ivLo (Go.Ev.ivLo (Go.Ev.ivLo (Go.Ev.ivLo (Go.Ev.ivLo (Go.Ev.ivHi iv0 2 (16)) 2 (0 + 1)) 2 (1 + 1)) 2 (2 + 1)) 2 (3 + 1)) 2 (4 + 1)) 2 (5 + 1)) 2 (6)) [] = true := by kernel_rfl
theorem c_3_17_2 : Go.Ev.chkT (lc 3 17) .leaf (Go.Ev.ivHi (Go.Ev.ivLo (Go.Ev.ivLo (Go.Ev.ivHi iv0 2 (16)) 2 (0 + 1)) 2 (1 + 1)) 2 (2)) [] = true := by kernel_rfl
theorem c_2_17_21 : Go.Ev.chkT (lc 2 17) .leaf (Go.Ev.ivLo (Go.Ev.ivLo iv0 2 (0 + 1)) 2 (24 + 1)) [] = true := by kernel_rfl
theorem c_0_18_0 : Go.Ev.chkT (lc 0 18) .leaf iv0 [] = true := by kernel_rfl
theorem c_2_18_0 : Go.Ev.chkT (lc 2 18) .leaf iv0 [] = true := by kernel_rfl
theorem c_0_7_0 : Go.Ev.chkT (lc 0 7) .leaf (Go.Ev.ivHi iv0 2 (0)) [] = true := by kernel_rfl
theorem c_0_23_0 : Go.Ev.chkT (lc 0 23) .leaf iv0 [] = true := by kernel_rfl
theorem c_3_21_0 : Go.Ev.chkT (lc 3 21) .leaf iv0 [] = true := by kernel_rfl
theorem c_2_21_0 : Go.Ev.chkT (lc 2 21) .leaf iv0 [] = true := by kernel_rfl
end Go.Proofs.Ytgbpkilegbechaa.ones
