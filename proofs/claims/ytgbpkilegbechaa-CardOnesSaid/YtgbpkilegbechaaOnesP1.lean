/-
  'CardOnes': cases that the kernel runs.
-/
import Derived.Test.YtgbpkilegbechaaOnes
namespace Go.Proofs.Ytgbpkilegbechaa.ones
open Go.RowKit
set_option linter.unusedVariables false
theorem c_2_17_20 : Go.Ev.chkT (lc 2 17) (.cut 2 (20) .leaf (.cut 2 (21) .leaf (.cut 2 (22) .leaf (.cut 2 (23) .leaf .leaf)))) (Go.Ev.ivLo (Go.Ev.ivLo (Go.Ev.ivLo (Go.Ev.ivLo (Go.Ev.ivLo (Go.Ev.ivLo (Go.Ev.ivLo (Go.Ev.ivLo (Go.Ev.ivLo (Go.Ev.ivLo (Go.Ev.ivLo (Go.Ev.ivLo (Go.Ev.ivLo (Go.Ev.ivLo (Go.Ev.ivLo (Go.Ev.ivLo (Go.Ev.ivLo (Go.Ev.ivLo (Go.Ev.ivLo (Go.Ev.ivHi (Go.Ev.ivLo iv0 2 (0 + 1)) 2 (24)) 2 (1 + 1)) 2 (2 + 1)) 2 (3 + 1)) 2 (4 + 1)) 2 (5 + 1)) 2 (6 + 1)) 2 (7 + 1)) 2 (8 + 1)) 2 (9 + 1)) 2 (10 + 1)) 2 (11 + 1)) 2 (12 + 1)) 2 (13 + 1)) 2 (14 + 1)) 2 (15 + 1)) 2 (16 + 1)) 2 (17 + 1)) 2 (18 + 1)) 2 (19 + 1)) [] = true := by kernel_rfl
theorem c_1_7_2 : Go.Ev.chkT (lc 1 7) (.cut 2 (2) .leaf (.cut 2 (3) .leaf (.cut 2 (4) .leaf .leaf))) (Go.Ev.ivLo (Go.Ev.ivHi (Go.Ev.ivLo iv0 2 (0 + 1)) 2 (5)) 2 (1 + 1)) [] = true := by kernel_rfl
theorem c_1_0_0 : Go.Ev.chkT (lc 1 0) (.cut 2 (0) .leaf (.cut 2 (1) .leaf (.cut 2 (2) .leaf (.cut 2 (3) .leaf (.cut 2 (4) .leaf .leaf))))) iv0 [] = true := by kernel_rfl
theorem c_3_0_0 : Go.Ev.chkT (lc 3 0) (.cut 2 (0) .leaf (.cut 2 (1) .leaf (.cut 2 (2) .leaf (.cut 2 (3) .leaf (.cut 2 (4) .leaf .leaf))))) iv0 [] = true := by kernel_rfl
theorem c_2_6_0 : Go.Ev.chkT (lc 2 6) (.cut 2 (-1) .leaf (.cut 2 (64) (.cut 2 (0) .leaf (.cut 2 (63) .leaf .leaf)) .leaf)) iv0 [] = true := by kernel_rfl
theorem c_0_0_0 : Go.Ev.chkT (lc 0 0) (.cut 2 (0) .leaf (.cut 2 (1) .leaf (.cut 2 (2) .leaf (.cut 2 (3) .leaf (.cut 2 (4) .leaf .leaf))))) iv0 [] = true := by kernel_rfl
theorem c_3_1_0 : Go.Ev.chkT (lc 3 1) (.cut 2 (-1) .leaf (.cut 2 (20) (.cut 2 (0) .leaf .leaf) .leaf)) iv0 [] = true := by kernel_rfl
theorem c_3_9_0 : Go.Ev.chkT (lc 3 9) (.cut 2 (-1) .leaf (.cut 2 (0) .leaf .leaf)) iv0 [] = true := by kernel_rfl
theorem c_0_15_0 : Go.Ev.chkT (lc 0 15) (.cut 2 (0) .leaf (.cut 2 (6) .leaf .leaf)) iv0 [] = true := by kernel_rfl
theorem c_0_5_0 : Go.Ev.chkT (lc 0 5) (.cut 2 (-1) .leaf (.cut 2 (0) .leaf (.cut 2 (15) .leaf .leaf))) iv0 [] = true := by kernel_rfl
theorem c_0_2_0 : Go.Ev.chkT (lc 0 2) (.cut 2 (-1) .leaf (.cut 2 (20) (.cut 2 (0) .leaf .leaf) .leaf)) iv0 [] = true := by kernel_rfl
theorem c_1_5_0 : Go.Ev.chkT (lc 1 5) (.cut 2 (-1) .leaf (.cut 2 (15) .leaf .leaf)) iv0 [] = true := by kernel_rfl
theorem c_2_4_0 : Go.Ev.chkT (lc 2 4) (.cut 2 (-1) .leaf (.cut 2 (0) .leaf (.cut 2 (15) .leaf .leaf))) iv0 [] = true := by kernel_rfl
theorem c_0_1_0 : Go.Ev.chkT (lc 0 1) (.cut 2 (-1) .leaf (.cut 2 (20) (.cut 2 (0) .leaf .leaf) .leaf)) iv0 [] = true := by kernel_rfl
theorem c_1_2_0 : Go.Ev.chkT (lc 1 2) (.cut 2 (-1) .leaf (.cut 2 (20) .leaf .leaf)) iv0 [] = true := by kernel_rfl
theorem c_0_6_0 : Go.Ev.chkT (lc 0 6) (.cut 2 (-1) .leaf (.cut 2 (0) .leaf .leaf)) iv0 [] = true := by kernel_rfl
theorem c_3_2_0 : Go.Ev.chkT (lc 3 2) (.cut 2 (-1) .leaf (.cut 2 (20) .leaf .leaf)) iv0 [] = true := by kernel_rfl
theorem c_1_17_16 : Go.Ev.chkT (lc 1 17) .leaf (Go.Ev.ivHi (Go.Ev.ivLo (Go.Ev.ivLo (Go.Ev.ivLo iv0 2 (16 + 1)) 2 (17 + 1)) 2 (20 + 1)) 2 (21)) [] = true := by kernel_rfl
theorem c_1_8_1 : Go.Ev.chkT (lc 1 8) .leaf (Go.Ev.ivHi (Go.Ev.ivLo iv0 2 (0 + 1)) 2 (1)) [] = true := by kernel_rfl
theorem c_1_17_7 : Go.Ev.chkT (lc 1 17) .leaf (Go.Ev.ivHi (Go.Ev.ivLo (Go.Ev.ivLo (Go.Ev.ivLo (Go.Ev.ivLo (Go.Ev.ivLo (Go.Ev.ivLo (Go.Ev.ivLo (Go.Ev.ivHi iv0 2 (16)) 2 (0 + 1)) 2 (1 + 1)) 2 (2 + 1)) 2 (3 + 1)) 2 (4 + 1)) 2 (5 + 1)) 2 (6 + 1)) 2 (7)) [] = true := by kernel_rfl
theorem c_1_17_4 : Go.Ev.chkT (lc 1 17) .leaf (Go.Ev.ivHi (Go.Ev.ivLo (Go.Ev.ivLo (Go.Ev.ivLo (Go.Ev.ivLo (Go.Ev.ivHi iv0 2 (16)) 2 (0 + 1)) 2 (1 + 1)) 2 (2 + 1)) 2 (3 + 1)) 2 (4)) [] = true := by kernel_rfl
theorem c_1_8_0 : Go.Ev.chkT (lc 1 8) .leaf (Go.Ev.ivHi iv0 2 (0)) [] = true := by kernel_rfl
theorem c_1_7_3 : Go.Ev.chkT (lc 1 7) .leaf (Go.Ev.ivLo (Go.Ev.ivLo iv0 2 (0 + 1)) 2 (5 + 1)) [] = true := by kernel_rfl
theorem c_1_7_0 : Go.Ev.chkT (lc 1 7) .leaf (Go.Ev.ivHi iv0 2 (0)) [] = true := by kernel_rfl
theorem c_0_17_11 : Go.Ev.chkT (lc 0 17) .leaf (Go.Ev.ivHi (Go.Ev.ivLo (Go.Ev.ivLo (Go.Ev.ivLo (Go.Ev.ivLo (Go.Ev.ivLo (Go.Ev.ivLo (Go.Ev.ivLo (Go.Ev.ivLo (Go.Ev.ivLo (Go.Ev.ivLo (Go.Ev.ivHi (Go.Ev.ivLo iv0 2 (0 + 1)) 2 (24)) 2 (1 + 1)) 2 (2 + 1)) 2 (3 + 1)) 2 (4 + 1)) 2 (5 + 1)) 2 (6 + 1)) 2 (7 + 1)) 2 (8 + 1)) 2 (9 + 1)) 2 (10 + 1)) 2 (11)) [] = true := by kernel_rfl
theorem c_1_7_1 : Go.Ev.chkT (lc 1 7) .leaf (Go.Ev.ivHi (Go.Ev.ivHi (Go.Ev.ivLo iv0 2 (0 + 1)) 2 (5)) 2 (1)) [] = true := by kernel_rfl
theorem c_0_17_5 : Go.Ev.chkT (lc 0 17) .leaf (Go.Ev.ivHi (Go.Ev.ivLo (Go.Ev.ivLo (Go.Ev.ivLo (Go.Ev.ivLo (Go.Ev.ivHi (Go.Ev.ivLo iv0 2 (0 + 1)) 2 (24)) 2 (1 + 1)) 2 (2 + 1)) 2 (3 + 1)) 2 (4 + 1)) 2 (5)) [] = true := by kernel_rfl
theorem c_0_17_17 : Go.Ev.chkT (lc 0 17) .leaf (Go.Ev.ivHi (Go.Ev.ivLo (Go.Ev.ivLo (Go.Ev.ivLo (Go.Ev.ivLo (Go.Ev.ivLo (Go.Ev.ivLo (Go.Ev.ivLo (Go.Ev.ivLo (Go.Ev.ivLo (Go.Ev.ivLo (Go.Ev.ivLo (Go.Ev.ivLo (Go.Ev.ivLo (Go.Ev.ivLo (Go.Ev.ivLo (Go.Ev.ivLo (Go.Ev.ivHi (Go.Ev.ivLo iv0 2 (0 + 1)) 2 (24)) 2 (1 + 1)) 2 (2 + 1)) 2 (3 + 1)) 2 (4 + 1)) 2 (5 + 1)) 2 (6 + 1)) 2 (7 + 1)) 2 (8 + 1)) 2 (9 + 1)) 2 (10 + 1)) 2 (11 + 1)) 2 (12 + 1)) 2 (13 + 1)) 2 (14 + 1)) 2 (15 + 1)) 2 (16 + 1)) 2 (17)) [] = true := by kernel_rfl
theorem c_2_17_19 : Go.Ev.chkT (lc 2 17) .leaf (Go.Ev.ivHi (Go.Ev.ivLo (Go.Ev.ivLo (Go.Ev.ivLo (Go.Ev.ivLo (Go.Ev.ivLo (Go.Ev.ivLo (Go.Ev.ivLo (Go.Ev.ivLo (Go.Ev.ivLo (Go.Ev.ivLo (Go.Ev.ivLo (Go.Ev.ivLo (Go.Ev.ivLo (Go.Ev.ivLo (Go.Ev.ivLo (Go.Ev.ivLo (Go.Ev.ivLo (Go.Ev.ivLo (Go.Ev.ivHi (Go.Ev.ivLo iv0 2 (0 + 1)) 2 (24)) 2 (1 + 1)) 2 (2 + 1)) 2 (3 + 1)) 2 (4 + 1)) 2 (5 + 1)) 2 (6 + 1)) 2 (7 + 1)) 2 (8 + 1)) 2 (9 + 1)) 2 (10 + 1)) 2 (11 + 1)) 2 (12 + 1)) 2 (13 + 1)) 2 (14 + 1)) 2 (15 + 1)) 2 (16 + 1)) 2 (17 + 1)) 2 (18 + 1)) 2 (19)) [] = true := by kernel_rfl
theorem c_2_17_14 : Go.Ev.chkT (lc 2 17) .leaf (Go.Ev.ivHi (Go.Ev.ivLo (Go.Ev.ivLo (Go.Ev.ivLo (Go.Ev.ivLo (Go.Ev.ivLo (Go.Ev.ivLo (Go.Ev.ivLo (Go.Ev.ivLo (Go.Ev.ivLo (Go.Ev.ivLo (Go.Ev.ivLo (Go.Ev.ivLo (Go.Ev.ivLo (Go.Ev.ivHi (Go.Ev.ivLo iv0 2 (0 + 1)) 2 (24)) 2 (1 + 1)) 2 (2 + 1)) 2 (3 + 1)) 2 (4 + 1)) 2 (5 + 1)) 2 (6 + 1)) 2 (7 + 1)) 2 (8 + 1)) 2 (9 + 1)) 2 (10 + 1)) 2 (11 + 1)) 2 (12 + 1)) 2 (13 + 1)) 2 (14)) [] = true := by kernel_rfl
theorem c_2_17_12 : Go.Ev.chkT (lc 2 17) .leaf (Go.Ev.ivHi (Go.Ev.ivLo (Go.Ev.ivLo (Go.Ev.ivLo (Go.Ev.ivLo (Go.Ev.ivLo (Go.Ev.ivLo (Go.Ev.ivLo (Go.Ev.ivLo (Go.Ev.ivLo (Go.Ev.ivLo (Go.Ev.ivLo (Go.Ev.ivHi (Go.Ev.ivLo iv0 2 (0 + 1)) 2 (24)) 2 (1 + 1)) 2 (2 + 1)) 2 (3 + 1)) 2 (4 + 1)) 2 (5 + 1)) 2 (6 + 1)) 2 (7 + 1)) 2 (8 + 1)) 2 (9 + 1)) 2 (10 + 1)) 2 (11 + 1)) 2 (12)) [] = true := by kernel_rfl
theorem c_2_17_7 : Go.Ev.chkT (lc 2 17) .leaf (Go.Ev.ivHi (Go.Ev.ivLo (Go.Ev.ivLo (Go.Ev.ivLo (Go.Ev.ivLo (Go.Ev.ivLo (Go.Ev.ivLo (Go.Ev.ivHi (Go.Ev.ivLo iv0 2 (0 + 1)) 2 (24)) 2 (1 + 1)) 2 (2 + 1)) 2 (3 + 1)) 2 (4 + 1)) 2 (5 + 1)) 2 (6 + 1)) 2 (7)) [] = true := by kernel_rfl
theorem c_3_16_0 : Go.Ev.chkT (lc 3 16) .leaf iv0 [] = true := by kernel_rfl
theorem c_3_17_0 : Go.Ev.chkT (lc 3 17) .leaf (Go.Ev.ivHi (Go.Ev.ivHi iv0 2 (16)) 2 (0)) [] = true := by kernel_rfl
theorem c_3_17_7 : Go.Ev.chkT (lc 3 17) .leaf (Go.Ev.ivHi (Go.Ev.ivLo (Go.Ev.ivLo (Go.Ev.ivLo (Go.Ev.ivLo (Go.Ev.ivLo (Go.Ev.ivLo (Go.Ev.ivLo (Go.Ev.ivHi iv0 2 (16)) 2 (0 + 1)) 2 (1 + 1)) 2 (2 + 1)) 2 (3 + 1)) 2 (4 + 1)) 2 (5 + 1)) 2 (6 + 1)) 2 (7)) [] = true := by kernel_rfl
theorem c_2_17_3 : Go.Ev.chkT (lc 2 17) .leaf (Go.Ev.ivHi (Go.Ev.ivLo (Go.Ev.ivLo (Go.Ev.ivHi (Go.Ev.ivLo iv0 2 (0 + 1)) 2 (24)) 2 (1 + 1)) 2 (2 + 1)) 2 (3)) [] = true := by kernel_rfl
theorem c_3_17_4 : Go.Ev.chkT (lc 3 17) .leaf (Go.Ev.ivHi (Go.Ev.ivLo (Go.Ev.ivLo (Go.Ev.ivLo (Go.Ev.ivLo (Go.Ev.ivHi iv0 2 (16)) 2 (0 + 1)) 2 (1 + 1)) 2 (2 + 1)) 2 (3 + 1)) 2 (4)) [] = true := by kernel_rfl
theorem c_0_16_0 : Go.Ev.chkT (lc 0 16) .leaf iv0 [] = true := by kernel_rfl
theorem c_2_17_6 : Go.Ev.chkT (lc 2 17) .leaf (Go.Ev.ivHi (Go.Ev.ivLo (Go.Ev.ivLo (Go.Ev.ivLo (Go.Ev.ivLo (Go.Ev.ivLo (Go.Ev.ivHi (Go.Ev.ivLo iv0 2 (0 + 1)) 2 (24)) 2 (1 + 1)) 2 (2 + 1)) 2 (3 + 1)) 2 (4 + 1)) 2 (5 + 1)) 2 (6)) [] = true := by kernel_rfl
theorem c_2_16_0 : Go.Ev.chkT (lc 2 16) .leaf iv0 [] = true := by kernel_rfl
theorem c_3_19_0 : Go.Ev.chkT (lc 3 19) .leaf iv0 [] = true := by kernel_rfl
theorem c_3_23_0 : Go.Ev.chkT (lc 3 23) .leaf iv0 [] = true := by kernel_rfl
theorem c_2_19_0 : Go.Ev.chkT (lc 2 19) .leaf iv0 [] = true := by kernel_rfl
theorem c_1_21_0 : Go.Ev.chkT (lc 1 21) .leaf iv0 [] = true := by kernel_rfl
theorem c_2_22_0 : Go.Ev.chkT (lc 2 22) .leaf iv0 [] = true := by kernel_rfl
end Go.Proofs.Ytgbpkilegbechaa.ones
