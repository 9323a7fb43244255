/-
  'CardOnes': all cases.
-/
import Derived.Test.YtgbpkilegbechaaOnesP1
import Derived.Test.YtgbpkilegbechaaOnesP2
import Derived.Test.YtgbpkilegbechaaOnesP3
import Derived.Test.YtgbpkilegbechaaOnesP4
namespace Go.Proofs.Ytgbpkilegbechaa.ones
open Go.RowKit
set_option linter.unusedVariables false
theorem t_0_0 : ∃ t, Go.Ev.chkT (lc 0 0) t iv0 [] = true := ⟨(.cut 2 (0) .leaf (.cut 2 (1) .leaf (.cut 2 (2) .leaf (.cut 2 (3) .leaf (.cut 2 (4) .leaf .leaf))))), c_0_0_0⟩
theorem t_0_1 : ∃ t, Go.Ev.chkT (lc 0 1) t iv0 [] = true := ⟨(.cut 2 (-1) .leaf (.cut 2 (20) (.cut 2 (0) .leaf .leaf) .leaf)), c_0_1_0⟩
theorem t_0_2 : ∃ t, Go.Ev.chkT (lc 0 2) t iv0 [] = true := ⟨(.cut 2 (-1) .leaf (.cut 2 (20) (.cut 2 (0) .leaf .leaf) .leaf)), c_0_2_0⟩
theorem t_0_3 : ∃ t, Go.Ev.chkT (lc 0 3) t iv0 [] = true := ⟨(.cut 2 (-1) .leaf (.cut 2 (3) .leaf .leaf)), c_0_3_0⟩
theorem t_0_4 : ∃ t, Go.Ev.chkT (lc 0 4) t iv0 [] = true := ⟨(.cut 2 (-1) .leaf (.cut 2 (0) .leaf (.cut 2 (15) .leaf .leaf))), c_0_4_0⟩
theorem t_0_5 : ∃ t, Go.Ev.chkT (lc 0 5) t iv0 [] = true := ⟨(.cut 2 (-1) .leaf (.cut 2 (0) .leaf (.cut 2 (15) .leaf .leaf))), c_0_5_0⟩
theorem t_0_6 : ∃ t, Go.Ev.chkT (lc 0 6) t iv0 [] = true := ⟨(.cut 2 (-1) .leaf (.cut 2 (0) .leaf .leaf)), c_0_6_0⟩
theorem t_0_7 : ∃ t, Go.Ev.chkT (lc 0 7) t iv0 [] = true := ⟨(.cut 2 (0) .leaf (.cut 2 (5) (.cut 2 (1) .leaf (.cut 2 (2) .leaf (.cut 2 (3) .leaf (.cut 2 (4) .leaf .leaf)))) .leaf)), (Go.Ev.chkT_cut c_0_7_0 c_0_7_1)⟩
theorem t_0_8 : ∃ t, Go.Ev.chkT (lc 0 8) t iv0 [] = true := ⟨(.cut 2 (-1) .leaf (.cut 2 (0) .leaf .leaf)), c_0_8_0⟩
theorem t_0_9 : ∃ t, Go.Ev.chkT (lc 0 9) t iv0 [] = true := ⟨(.cut 2 (-1) .leaf (.cut 2 (0) .leaf .leaf)), c_0_9_0⟩
theorem t_0_10 : ∃ t, Go.Ev.chkT (lc 0 10) t iv0 [] = true := ⟨(.cut 2 (-1) .leaf (.cut 2 (20) .leaf .leaf)), c_0_10_0⟩
theorem t_0_11 : ∃ t, Go.Ev.chkT (lc 0 11) t iv0 [] = true := ⟨(.cut 2 (-1) .leaf (.cut 2 (0) .leaf .leaf)), c_0_11_0⟩
theorem t_0_12 : ∃ t, Go.Ev.chkT (lc 0 12) t iv0 [] = true := ⟨(.cut 2 (-1) .leaf (.cut 2 (0) .leaf .leaf)), c_0_12_0⟩
theorem t_0_13 : ∃ t, Go.Ev.chkT (lc 0 13) t iv0 [] = true := ⟨(.cut 2 (-1) .leaf (.cut 2 (0) .leaf .leaf)), c_0_13_0⟩
theorem t_0_14 : ∃ t, Go.Ev.chkT (lc 0 14) t iv0 [] = true := ⟨.leaf, c_0_14_0⟩
theorem t_0_15 : ∃ t, Go.Ev.chkT (lc 0 15) t iv0 [] = true := ⟨(.cut 2 (0) .leaf (.cut 2 (6) .leaf .leaf)), c_0_15_0⟩
theorem t_0_16 : ∃ t, Go.Ev.chkT (lc 0 16) t iv0 [] = true := ⟨.leaf, c_0_16_0⟩
theorem t_0_17 : ∃ t, Go.Ev.chkT (lc 0 17) t iv0 [] = true := ⟨(.cut 2 (0) .leaf (.cut 2 (24) (.cut 2 (1) .leaf (.cut 2 (2) .leaf (.cut 2 (3) .leaf (.cut 2 (4) .leaf (.cut 2 (5) .leaf (.cut 2 (6) .leaf (.cut 2 (7) .leaf (.cut 2 (8) .leaf (.cut 2 (9) .leaf (.cut 2 (10) .leaf (.cut 2 (11) .leaf (.cut 2 (12) .leaf (.cut 2 (13) .leaf (.cut 2 (14) .leaf (.cut 2 (15) .leaf (.cut 2 (16) .leaf (.cut 2 (17) .leaf (.cut 2 (18) .leaf (.cut 2 (19) .leaf (.cut 2 (20) .leaf (.cut 2 (21) .leaf (.cut 2 (22) .leaf (.cut 2 (23) .leaf .leaf))))))))))))))))))))))) .leaf)), (Go.Ev.chkT_cut c_0_17_0 (Go.Ev.chkT_cut (Go.Ev.chkT_cut c_0_17_1 (Go.Ev.chkT_cut c_0_17_2 (Go.Ev.chkT_cut c_0_17_3 (Go.Ev.chkT_cut c_0_17_4 (Go.Ev.chkT_cut c_0_17_5 (Go.Ev.chkT_cut c_0_17_6 (Go.Ev.chkT_cut c_0_17_7 (Go.Ev.chkT_cut c_0_17_8 (Go.Ev.chkT_cut c_0_17_9 (Go.Ev.chkT_cut c_0_17_10 (Go.Ev.chkT_cut c_0_17_11 (Go.Ev.chkT_cut c_0_17_12 (Go.Ev.chkT_cut c_0_17_13 (Go.Ev.chkT_cut c_0_17_14 (Go.Ev.chkT_cut c_0_17_15 (Go.Ev.chkT_cut c_0_17_16 (Go.Ev.chkT_cut c_0_17_17 (Go.Ev.chkT_cut c_0_17_18 (Go.Ev.chkT_cut c_0_17_19 (Go.Ev.chkT_cut c_0_17_20 c_0_17_21)))))))))))))))))))) c_0_17_22))⟩
theorem t_0_18 : ∃ t, Go.Ev.chkT (lc 0 18) t iv0 [] = true := ⟨.leaf, c_0_18_0⟩
theorem t_0_19 : ∃ t, Go.Ev.chkT (lc 0 19) t iv0 [] = true := ⟨.leaf, c_0_19_0⟩
theorem t_0_20 : ∃ t, Go.Ev.chkT (lc 0 20) t iv0 [] = true := ⟨.leaf, c_0_20_0⟩
theorem t_0_21 : ∃ t, Go.Ev.chkT (lc 0 21) t iv0 [] = true := ⟨.leaf, c_0_21_0⟩
theorem t_0_22 : ∃ t, Go.Ev.chkT (lc 0 22) t iv0 [] = true := ⟨.leaf, c_0_22_0⟩
theorem t_0_23 : ∃ t, Go.Ev.chkT (lc 0 23) t iv0 [] = true := ⟨.leaf, c_0_23_0⟩
theorem t_1_0 : ∃ t, Go.Ev.chkT (lc 1 0) t iv0 [] = true := ⟨(.cut 2 (0) .leaf (.cut 2 (1) .leaf (.cut 2 (2) .leaf (.cut 2 (3) .leaf (.cut 2 (4) .leaf .leaf))))), c_1_0_0⟩
theorem t_1_1 : ∃ t, Go.Ev.chkT (lc 1 1) t iv0 [] = true := ⟨(.cut 2 (-1) .leaf (.cut 2 (20) (.cut 2 (0) .leaf .leaf) .leaf)), c_1_1_0⟩
theorem t_1_2 : ∃ t, Go.Ev.chkT (lc 1 2) t iv0 [] = true := ⟨(.cut 2 (-1) .leaf (.cut 2 (20) .leaf .leaf)), c_1_2_0⟩
theorem t_1_3 : ∃ t, Go.Ev.chkT (lc 1 3) t iv0 [] = true := ⟨(.cut 2 (-1) .leaf (.cut 2 (0) .leaf (.cut 2 (3) .leaf .leaf))), c_1_3_0⟩
theorem t_1_4 : ∃ t, Go.Ev.chkT (lc 1 4) t iv0 [] = true := ⟨(.cut 2 (-1) .leaf (.cut 2 (15) .leaf .leaf)), c_1_4_0⟩
theorem t_1_5 : ∃ t, Go.Ev.chkT (lc 1 5) t iv0 [] = true := ⟨(.cut 2 (-1) .leaf (.cut 2 (15) .leaf .leaf)), c_1_5_0⟩
theorem t_1_6 : ∃ t, Go.Ev.chkT (lc 1 6) t iv0 [] = true := ⟨(.cut 2 (-1) .leaf (.cut 2 (127) .leaf .leaf)), c_1_6_0⟩
theorem t_1_7 : ∃ t, Go.Ev.chkT (lc 1 7) t iv0 [] = true := ⟨(.cut 2 (0) .leaf (.cut 2 (5) (.cut 2 (1) .leaf (.cut 2 (2) .leaf (.cut 2 (3) .leaf (.cut 2 (4) .leaf .leaf)))) .leaf)), (Go.Ev.chkT_cut c_1_7_0 (Go.Ev.chkT_cut (Go.Ev.chkT_cut c_1_7_1 c_1_7_2) c_1_7_3))⟩
theorem t_1_8 : ∃ t, Go.Ev.chkT (lc 1 8) t iv0 [] = true := ⟨(.cut 2 (0) .leaf (.cut 2 (1) .leaf (.cut 2 (2) .leaf (.cut 2 (3) .leaf (.cut 2 (4) .leaf .leaf))))), (Go.Ev.chkT_cut c_1_8_0 (Go.Ev.chkT_cut c_1_8_1 c_1_8_2))⟩
theorem t_1_9 : ∃ t, Go.Ev.chkT (lc 1 9) t iv0 [] = true := ⟨(.cut 2 (-1) .leaf (.cut 2 (1) .leaf .leaf)), c_1_9_0⟩
theorem t_1_10 : ∃ t, Go.Ev.chkT (lc 1 10) t iv0 [] = true := ⟨(.cut 2 (-1) .leaf (.cut 2 (0) .leaf .leaf)), c_1_10_0⟩
theorem t_1_11 : ∃ t, Go.Ev.chkT (lc 1 11) t iv0 [] = true := ⟨(.cut 2 (-1) .leaf (.cut 2 (0) .leaf .leaf)), c_1_11_0⟩
theorem t_1_12 : ∃ t, Go.Ev.chkT (lc 1 12) t iv0 [] = true := ⟨(.cut 2 (-1) .leaf (.cut 2 (0) .leaf .leaf)), c_1_12_0⟩
theorem t_1_13 : ∃ t, Go.Ev.chkT (lc 1 13) t iv0 [] = true := ⟨(.cut 2 (-1) .leaf (.cut 2 (0) .leaf .leaf)), c_1_13_0⟩
theorem t_1_14 : ∃ t, Go.Ev.chkT (lc 1 14) t iv0 [] = true := ⟨.leaf, c_1_14_0⟩
theorem t_1_15 : ∃ t, Go.Ev.chkT (lc 1 15) t iv0 [] = true := ⟨.leaf, c_1_15_0⟩
theorem t_1_16 : ∃ t, Go.Ev.chkT (lc 1 16) t iv0 [] = true := ⟨.leaf, c_1_16_0⟩
theorem t_1_17 : ∃ t, Go.Ev.chkT (lc 1 17) t iv0 [] = true := ⟨(.cut 2 (16) (.cut 2 (0) .leaf (.cut 2 (1) .leaf (.cut 2 (2) .leaf (.cut 2 (3) .leaf (.cut 2 (4) .leaf (.cut 2 (5) .leaf (.cut 2 (6) .leaf (.cut 2 (7) .leaf (.cut 2 (8) .leaf (.cut 2 (9) .leaf (.cut 2 (10) .leaf (.cut 2 (11) .leaf (.cut 2 (12) .leaf (.cut 2 (13) .leaf (.cut 2 (14) .leaf (.cut 2 (15) .leaf .leaf)))))))))))))))) (.cut 2 (17) .leaf (.cut 2 (20) (.cut 2 (18) .leaf (.cut 2 (19) .leaf .leaf)) (.cut 2 (21) .leaf (.cut 2 (23) (.cut 2 (22) .leaf .leaf) (.cut 2 (24) .leaf .leaf)))))), (Go.Ev.chkT_cut (Go.Ev.chkT_cut c_1_17_0 (Go.Ev.chkT_cut c_1_17_1 (Go.Ev.chkT_cut c_1_17_2 (Go.Ev.chkT_cut c_1_17_3 (Go.Ev.chkT_cut c_1_17_4 (Go.Ev.chkT_cut c_1_17_5 (Go.Ev.chkT_cut c_1_17_6 (Go.Ev.chkT_cut c_1_17_7 (Go.Ev.chkT_cut c_1_17_8 (Go.Ev.chkT_cut c_1_17_9 (Go.Ev.chkT_cut c_1_17_10 (Go.Ev.chkT_cut c_1_17_11 (Go.Ev.chkT_cut c_1_17_12 c_1_17_13))))))))))))) (Go.Ev.chkT_cut c_1_17_14 (Go.Ev.chkT_cut c_1_17_15 (Go.Ev.chkT_cut c_1_17_16 c_1_17_17))))⟩
theorem t_1_18 : ∃ t, Go.Ev.chkT (lc 1 18) t iv0 [] = true := ⟨.leaf, c_1_18_0⟩
theorem t_1_19 : ∃ t, Go.Ev.chkT (lc 1 19) t iv0 [] = true := ⟨.leaf, c_1_19_0⟩
theorem t_1_20 : ∃ t, Go.Ev.chkT (lc 1 20) t iv0 [] = true := ⟨.leaf, c_1_20_0⟩
theorem t_1_21 : ∃ t, Go.Ev.chkT (lc 1 21) t iv0 [] = true := ⟨.leaf, c_1_21_0⟩
theorem t_1_22 : ∃ t, Go.Ev.chkT (lc 1 22) t iv0 [] = true := ⟨.leaf, c_1_22_0⟩
theorem t_1_23 : ∃ t, Go.Ev.chkT (lc 1 23) t iv0 [] = true := ⟨.leaf, c_1_23_0⟩
theorem t_2_0 : ∃ t, Go.Ev.chkT (lc 2 0) t iv0 [] = true := ⟨(.cut 2 (0) .leaf (.cut 2 (1) .leaf (.cut 2 (2) .leaf (.cut 2 (3) .leaf (.cut 2 (4) .leaf .leaf))))), c_2_0_0⟩
theorem t_2_1 : ∃ t, Go.Ev.chkT (lc 2 1) t iv0 [] = true := ⟨(.cut 2 (-1) .leaf (.cut 2 (20) (.cut 2 (0) .leaf .leaf) .leaf)), c_2_1_0⟩
theorem t_2_2 : ∃ t, Go.Ev.chkT (lc 2 2) t iv0 [] = true := ⟨(.cut 2 (-1) .leaf (.cut 2 (20) .leaf .leaf)), c_2_2_0⟩
theorem t_2_3 : ∃ t, Go.Ev.chkT (lc 2 3) t iv0 [] = true := ⟨(.cut 2 (-1) .leaf (.cut 2 (0) .leaf (.cut 2 (3) .leaf .leaf))), c_2_3_0⟩
theorem t_2_4 : ∃ t, Go.Ev.chkT (lc 2 4) t iv0 [] = true := ⟨(.cut 2 (-1) .leaf (.cut 2 (0) .leaf (.cut 2 (15) .leaf .leaf))), c_2_4_0⟩
theorem t_2_5 : ∃ t, Go.Ev.chkT (lc 2 5) t iv0 [] = true := ⟨(.cut 2 (-1) .leaf (.cut 2 (0) .leaf (.cut 2 (15) .leaf .leaf))), c_2_5_0⟩
theorem t_2_6 : ∃ t, Go.Ev.chkT (lc 2 6) t iv0 [] = true := ⟨(.cut 2 (-1) .leaf (.cut 2 (64) (.cut 2 (0) .leaf (.cut 2 (63) .leaf .leaf)) .leaf)), c_2_6_0⟩
theorem t_2_7 : ∃ t, Go.Ev.chkT (lc 2 7) t iv0 [] = true := ⟨(.cut 2 (0) .leaf (.cut 2 (5) (.cut 2 (1) .leaf .leaf) .leaf)), c_2_7_0⟩
theorem t_2_8 : ∃ t, Go.Ev.chkT (lc 2 8) t iv0 [] = true := ⟨(.cut 2 (-1) .leaf (.cut 2 (0) .leaf .leaf)), c_2_8_0⟩
theorem t_2_9 : ∃ t, Go.Ev.chkT (lc 2 9) t iv0 [] = true := ⟨(.cut 2 (-1) .leaf (.cut 2 (0) .leaf .leaf)), c_2_9_0⟩
theorem t_2_10 : ∃ t, Go.Ev.chkT (lc 2 10) t iv0 [] = true := ⟨(.cut 2 (-1) .leaf (.cut 2 (0) .leaf .leaf)), c_2_10_0⟩
theorem t_2_11 : ∃ t, Go.Ev.chkT (lc 2 11) t iv0 [] = true := ⟨(.cut 2 (-1) .leaf (.cut 2 (0) .leaf .leaf)), c_2_11_0⟩
theorem t_2_12 : ∃ t, Go.Ev.chkT (lc 2 12) t iv0 [] = true := ⟨(.cut 2 (-1) .leaf (.cut 2 (0) .leaf .leaf)), c_2_12_0⟩
theorem t_2_13 : ∃ t, Go.Ev.chkT (lc 2 13) t iv0 [] = true := ⟨(.cut 2 (-1) .leaf (.cut 2 (0) .leaf .leaf)), c_2_13_0⟩
theorem t_2_14 : ∃ t, Go.Ev.chkT (lc 2 14) t iv0 [] = true := ⟨.leaf, c_2_14_0⟩
theorem t_2_15 : ∃ t, Go.Ev.chkT (lc 2 15) t iv0 [] = true := ⟨(.cut 2 (0) .leaf (.cut 2 (6) .leaf .leaf)), c_2_15_0⟩
theorem t_2_16 : ∃ t, Go.Ev.chkT (lc 2 16) t iv0 [] = true := ⟨.leaf, c_2_16_0⟩
theorem t_2_17 : ∃ t, Go.Ev.chkT (lc 2 17) t iv0 [] = true := ⟨(.cut 2 (0) .leaf (.cut 2 (24) (.cut 2 (1) .leaf (.cut 2 (2) .leaf (.cut 2 (3) .leaf (.cut 2 (4) .leaf (.cut 2 (5) .leaf (.cut 2 (6) .leaf (.cut 2 (7) .leaf (.cut 2 (8) .leaf (.cut 2 (9) .leaf (.cut 2 (10) .leaf (.cut 2 (11) .leaf (.cut 2 (12) .leaf (.cut 2 (13) .leaf (.cut 2 (14) .leaf (.cut 2 (15) .leaf (.cut 2 (16) .leaf (.cut 2 (17) .leaf (.cut 2 (18) .leaf (.cut 2 (19) .leaf (.cut 2 (20) .leaf (.cut 2 (21) .leaf (.cut 2 (22) .leaf (.cut 2 (23) .leaf .leaf))))))))))))))))))))))) .leaf)), (Go.Ev.chkT_cut c_2_17_0 (Go.Ev.chkT_cut (Go.Ev.chkT_cut c_2_17_1 (Go.Ev.chkT_cut c_2_17_2 (Go.Ev.chkT_cut c_2_17_3 (Go.Ev.chkT_cut c_2_17_4 (Go.Ev.chkT_cut c_2_17_5 (Go.Ev.chkT_cut c_2_17_6 (Go.Ev.chkT_cut c_2_17_7 (Go.Ev.chkT_cut c_2_17_8 (Go.Ev.chkT_cut c_2_17_9 (Go.Ev.chkT_cut c_2_17_10 (Go.Ev.chkT_cut c_2_17_11 (Go.Ev.chkT_cut c_2_17_12 (Go.Ev.chkT_cut c_2_17_13 (Go.Ev.chkT_cut c_2_17_14 (Go.Ev.chkT_cut c_2_17_15 (Go.Ev.chkT_cut c_2_17_16 (Go.Ev.chkT_cut c_2_17_17 (Go.Ev.chkT_cut c_2_17_18 (Go.Ev.chkT_cut c_2_17_19 c_2_17_20))))))))))))))))))) c_2_17_21))⟩
theorem t_2_18 : ∃ t, Go.Ev.chkT (lc 2 18) t iv0 [] = true := ⟨.leaf, c_2_18_0⟩
theorem t_2_19 : ∃ t, Go.Ev.chkT (lc 2 19) t iv0 [] = true := ⟨.leaf, c_2_19_0⟩
theorem t_2_20 : ∃ t, Go.Ev.chkT (lc 2 20) t iv0 [] = true := ⟨.leaf, c_2_20_0⟩
theorem t_2_21 : ∃ t, Go.Ev.chkT (lc 2 21) t iv0 [] = true := ⟨.leaf, c_2_21_0⟩
theorem t_2_22 : ∃ t, Go.Ev.chkT (lc 2 22) t iv0 [] = true := ⟨.leaf, c_2_22_0⟩
theorem t_2_23 : ∃ t, Go.Ev.chkT (lc 2 23) t iv0 [] = true := ⟨.leaf, c_2_23_0⟩
theorem t_3_0 : ∃ t, Go.Ev.chkT (lc 3 0) t iv0 [] = true := ⟨(.cut 2 (0) .leaf (.cut 2 (1) .leaf (.cut 2 (2) .leaf (.cut 2 (3) .leaf (.cut 2 (4) .leaf .leaf))))), c_3_0_0⟩
theorem t_3_1 : ∃ t, Go.Ev.chkT (lc 3 1) t iv0 [] = true := ⟨(.cut 2 (-1) .leaf (.cut 2 (20) (.cut 2 (0) .leaf .leaf) .leaf)), c_3_1_0⟩
theorem t_3_2 : ∃ t, Go.Ev.chkT (lc 3 2) t iv0 [] = true := ⟨(.cut 2 (-1) .leaf (.cut 2 (20) .leaf .leaf)), c_3_2_0⟩
theorem t_3_3 : ∃ t, Go.Ev.chkT (lc 3 3) t iv0 [] = true := ⟨(.cut 2 (-1) .leaf (.cut 2 (0) .leaf (.cut 2 (3) .leaf .leaf))), c_3_3_0⟩
theorem t_3_4 : ∃ t, Go.Ev.chkT (lc 3 4) t iv0 [] = true := ⟨(.cut 2 (-1) .leaf (.cut 2 (0) .leaf (.cut 2 (15) .leaf .leaf))), c_3_4_0⟩
theorem t_3_5 : ∃ t, Go.Ev.chkT (lc 3 5) t iv0 [] = true := ⟨(.cut 2 (-1) .leaf (.cut 2 (0) .leaf (.cut 2 (15) .leaf .leaf))), c_3_5_0⟩
theorem t_3_6 : ∃ t, Go.Ev.chkT (lc 3 6) t iv0 [] = true := ⟨(.cut 2 (-1) .leaf (.cut 2 (64) (.cut 2 (0) .leaf (.cut 2 (63) .leaf .leaf)) .leaf)), c_3_6_0⟩
theorem t_3_7 : ∃ t, Go.Ev.chkT (lc 3 7) t iv0 [] = true := ⟨(.cut 2 (0) .leaf (.cut 2 (5) (.cut 2 (1) .leaf (.cut 2 (2) .leaf (.cut 2 (3) .leaf (.cut 2 (4) .leaf .leaf)))) .leaf)), (Go.Ev.chkT_cut c_3_7_0 (Go.Ev.chkT_cut c_3_7_1 c_3_7_2))⟩
theorem t_3_8 : ∃ t, Go.Ev.chkT (lc 3 8) t iv0 [] = true := ⟨(.cut 2 (0) .leaf (.cut 2 (1) .leaf (.cut 2 (2) .leaf (.cut 2 (3) .leaf (.cut 2 (4) .leaf .leaf))))), (Go.Ev.chkT_cut c_3_8_0 c_3_8_1)⟩
theorem t_3_9 : ∃ t, Go.Ev.chkT (lc 3 9) t iv0 [] = true := ⟨(.cut 2 (-1) .leaf (.cut 2 (0) .leaf .leaf)), c_3_9_0⟩
theorem t_3_10 : ∃ t, Go.Ev.chkT (lc 3 10) t iv0 [] = true := ⟨(.cut 2 (-1) .leaf (.cut 2 (0) .leaf .leaf)), c_3_10_0⟩
theorem t_3_11 : ∃ t, Go.Ev.chkT (lc 3 11) t iv0 [] = true := ⟨(.cut 2 (-1) .leaf (.cut 2 (0) .leaf .leaf)), c_3_11_0⟩
theorem t_3_12 : ∃ t, Go.Ev.chkT (lc 3 12) t iv0 [] = true := ⟨(.cut 2 (0) (.cut 2 (-1) .leaf .leaf) (.cut 2 (999) .leaf .leaf)), c_3_12_0⟩
theorem t_3_13 : ∃ t, Go.Ev.chkT (lc 3 13) t iv0 [] = true := ⟨(.cut 2 (-1) .leaf (.cut 2 (0) .leaf .leaf)), c_3_13_0⟩
theorem t_3_14 : ∃ t, Go.Ev.chkT (lc 3 14) t iv0 [] = true := ⟨.leaf, c_3_14_0⟩
theorem t_3_15 : ∃ t, Go.Ev.chkT (lc 3 15) t iv0 [] = true := ⟨.leaf, c_3_15_0⟩
theorem t_3_16 : ∃ t, Go.Ev.chkT (lc 3 16) t iv0 [] = true := ⟨.leaf, c_3_16_0⟩
theorem t_3_17 : ∃ t, Go.Ev.chkT (lc 3 17) t iv0 [] = true := ⟨(.cut 2 (16) (.cut 2 (0) .leaf (.cut 2 (1) .leaf (.cut 2 (2) .leaf (.cut 2 (3) .leaf (.cut 2 (4) .leaf (.cut 2 (5) .leaf (.cut 2 (6) .leaf (.cut 2 (7) .leaf (.cut 2 (8) .leaf (.cut 2 (9) .leaf (.cut 2 (10) .leaf (.cut 2 (11) .leaf (.cut 2 (12) .leaf (.cut 2 (13) .leaf (.cut 2 (14) .leaf (.cut 2 (15) .leaf .leaf)))))))))))))))) (.cut 2 (17) .leaf (.cut 2 (20) (.cut 2 (18) .leaf (.cut 2 (19) .leaf .leaf)) (.cut 2 (21) .leaf (.cut 2 (23) (.cut 2 (22) .leaf .leaf) (.cut 2 (24) .leaf .leaf)))))), (Go.Ev.chkT_cut (Go.Ev.chkT_cut c_3_17_0 (Go.Ev.chkT_cut c_3_17_1 (Go.Ev.chkT_cut c_3_17_2 (Go.Ev.chkT_cut c_3_17_3 (Go.Ev.chkT_cut c_3_17_4 (Go.Ev.chkT_cut c_3_17_5 (Go.Ev.chkT_cut c_3_17_6 (Go.Ev.chkT_cut c_3_17_7 (Go.Ev.chkT_cut c_3_17_8 (Go.Ev.chkT_cut c_3_17_9 (Go.Ev.chkT_cut c_3_17_10 (Go.Ev.chkT_cut c_3_17_11 c_3_17_12)))))))))))) (Go.Ev.chkT_cut c_3_17_13 (Go.Ev.chkT_cut c_3_17_14 c_3_17_15)))⟩
theorem t_3_18 : ∃ t, Go.Ev.chkT (lc 3 18) t iv0 [] = true := ⟨.leaf, c_3_18_0⟩
theorem t_3_19 : ∃ t, Go.Ev.chkT (lc 3 19) t iv0 [] = true := ⟨.leaf, c_3_19_0⟩
theorem t_3_20 : ∃ t, Go.Ev.chkT (lc 3 20) t iv0 [] = true := ⟨.leaf, c_3_20_0⟩
theorem t_3_21 : ∃ t, Go.Ev.chkT (lc 3 21) t iv0 [] = true := ⟨.leaf, c_3_21_0⟩
theorem t_3_22 : ∃ t, Go.Ev.chkT (lc 3 22) t iv0 [] = true := ⟨.leaf, c_3_22_0⟩
theorem t_3_23 : ∃ t, Go.Ev.chkT (lc 3 23) t iv0 [] = true := ⟨.leaf, c_3_23_0⟩
end Go.Proofs.Ytgbpkilegbechaa.ones
