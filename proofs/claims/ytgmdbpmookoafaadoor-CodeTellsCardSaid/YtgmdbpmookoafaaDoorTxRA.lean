/-
  The document's text of a code, put together.
-/
import Derived.Test.YtgmdbpmookoafaaDoorTxRK1
namespace Go.Proofs.YtgmdbpmookoafaaDoor.text
open Go.Ev Go.RowKit
set_option linter.unusedVariables false
noncomputable section
theorem crk1LRLRRRRRRRRR : Go.Ev.chkX (crlf crc1) crt1LRLRRRRRRRRR (Go.Ev.ivLo (Go.Ev.ivLo (Go.Ev.ivLo (Go.Ev.ivLo (Go.Ev.ivLo (Go.Ev.ivLo (Go.Ev.ivLo (Go.Ev.ivLo (Go.Ev.ivLo (Go.Ev.ivHi (Go.Ev.ivLo criv1 6 (0 + 1)) 6 (24)) 6 (1 + 1)) 6 (2 + 1)) 6 (3 + 1)) 6 (4 + 1)) 6 (5 + 1)) 6 (6 + 1)) 6 (7 + 1)) 6 (8 + 1)) 6 (9 + 1)) (.bin .lss (.sint .i64 3) (.sint .i64 2) (.bool true) :: []) = true := Go.Ev.chkX_cut crk1LRLRRRRRRRRRL crk1LRLRRRRRRRRRR
theorem crk1LRLRRRRRRRR : Go.Ev.chkX (crlf crc1) crt1LRLRRRRRRRR (Go.Ev.ivLo (Go.Ev.ivLo (Go.Ev.ivLo (Go.Ev.ivLo (Go.Ev.ivLo (Go.Ev.ivLo (Go.Ev.ivLo (Go.Ev.ivLo (Go.Ev.ivHi (Go.Ev.ivLo criv1 6 (0 + 1)) 6 (24)) 6 (1 + 1)) 6 (2 + 1)) 6 (3 + 1)) 6 (4 + 1)) 6 (5 + 1)) 6 (6 + 1)) 6 (7 + 1)) 6 (8 + 1)) (.bin .lss (.sint .i64 3) (.sint .i64 2) (.bool true) :: []) = true := Go.Ev.chkX_cut crk1LRLRRRRRRRRL crk1LRLRRRRRRRRR
theorem crk1LRLRRRRRRR : Go.Ev.chkX (crlf crc1) crt1LRLRRRRRRR (Go.Ev.ivLo (Go.Ev.ivLo (Go.Ev.ivLo (Go.Ev.ivLo (Go.Ev.ivLo (Go.Ev.ivLo (Go.Ev.ivLo (Go.Ev.ivHi (Go.Ev.ivLo criv1 6 (0 + 1)) 6 (24)) 6 (1 + 1)) 6 (2 + 1)) 6 (3 + 1)) 6 (4 + 1)) 6 (5 + 1)) 6 (6 + 1)) 6 (7 + 1)) (.bin .lss (.sint .i64 3) (.sint .i64 2) (.bool true) :: []) = true := Go.Ev.chkX_cut crk1LRLRRRRRRRL crk1LRLRRRRRRRR
theorem crk1LRLRRRRRR : Go.Ev.chkX (crlf crc1) crt1LRLRRRRRR (Go.Ev.ivLo (Go.Ev.ivLo (Go.Ev.ivLo (Go.Ev.ivLo (Go.Ev.ivLo (Go.Ev.ivLo (Go.Ev.ivHi (Go.Ev.ivLo criv1 6 (0 + 1)) 6 (24)) 6 (1 + 1)) 6 (2 + 1)) 6 (3 + 1)) 6 (4 + 1)) 6 (5 + 1)) 6 (6 + 1)) (.bin .lss (.sint .i64 3) (.sint .i64 2) (.bool true) :: []) = true := Go.Ev.chkX_cut crk1LRLRRRRRRL crk1LRLRRRRRRR
theorem crk1LRLRRRRR : Go.Ev.chkX (crlf crc1) crt1LRLRRRRR (Go.Ev.ivLo (Go.Ev.ivLo (Go.Ev.ivLo (Go.Ev.ivLo (Go.Ev.ivLo (Go.Ev.ivHi (Go.Ev.ivLo criv1 6 (0 + 1)) 6 (24)) 6 (1 + 1)) 6 (2 + 1)) 6 (3 + 1)) 6 (4 + 1)) 6 (5 + 1)) (.bin .lss (.sint .i64 3) (.sint .i64 2) (.bool true) :: []) = true := Go.Ev.chkX_cut crk1LRLRRRRRL crk1LRLRRRRRR
theorem crk1LRLRRRR : Go.Ev.chkX (crlf crc1) crt1LRLRRRR (Go.Ev.ivLo (Go.Ev.ivLo (Go.Ev.ivLo (Go.Ev.ivLo (Go.Ev.ivHi (Go.Ev.ivLo criv1 6 (0 + 1)) 6 (24)) 6 (1 + 1)) 6 (2 + 1)) 6 (3 + 1)) 6 (4 + 1)) (.bin .lss (.sint .i64 3) (.sint .i64 2) (.bool true) :: []) = true := Go.Ev.chkX_cut crk1LRLRRRRL crk1LRLRRRRR
theorem crk1LRLRRR : Go.Ev.chkX (crlf crc1) crt1LRLRRR (Go.Ev.ivLo (Go.Ev.ivLo (Go.Ev.ivLo (Go.Ev.ivHi (Go.Ev.ivLo criv1 6 (0 + 1)) 6 (24)) 6 (1 + 1)) 6 (2 + 1)) 6 (3 + 1)) (.bin .lss (.sint .i64 3) (.sint .i64 2) (.bool true) :: []) = true := Go.Ev.chkX_cut crk1LRLRRRL crk1LRLRRRR
theorem crk1LRLRR : Go.Ev.chkX (crlf crc1) crt1LRLRR (Go.Ev.ivLo (Go.Ev.ivLo (Go.Ev.ivHi (Go.Ev.ivLo criv1 6 (0 + 1)) 6 (24)) 6 (1 + 1)) 6 (2 + 1)) (.bin .lss (.sint .i64 3) (.sint .i64 2) (.bool true) :: []) = true := Go.Ev.chkX_cut crk1LRLRRL crk1LRLRRR
theorem crk1LRLR : Go.Ev.chkX (crlf crc1) crt1LRLR (Go.Ev.ivLo (Go.Ev.ivHi (Go.Ev.ivLo criv1 6 (0 + 1)) 6 (24)) 6 (1 + 1)) (.bin .lss (.sint .i64 3) (.sint .i64 2) (.bool true) :: []) = true := Go.Ev.chkX_cut crk1LRLRL crk1LRLRR
theorem crk1LRL : Go.Ev.chkX (crlf crc1) crt1LRL (Go.Ev.ivHi (Go.Ev.ivLo criv1 6 (0 + 1)) 6 (24)) (.bin .lss (.sint .i64 3) (.sint .i64 2) (.bool true) :: []) = true := Go.Ev.chkX_cut crk1LRLL crk1LRLR
theorem crk1LR : Go.Ev.chkX (crlf crc1) crt1LR (Go.Ev.ivLo criv1 6 (0 + 1)) (.bin .lss (.sint .i64 3) (.sint .i64 2) (.bool true) :: []) = true := Go.Ev.chkX_cut crk1LRL crk1LRR
theorem crk1L : Go.Ev.chkX (crlf crc1) crt1L criv1 (.bin .lss (.sint .i64 3) (.sint .i64 2) (.bool true) :: []) = true := Go.Ev.chkX_cut crk1LL crk1LR
theorem crk1 : Go.Ev.chkX (crlf crc1) crt1 criv1 [] = true := Go.Ev.chkX_rel crk1L crk1R
theorem crauto : @Go.Ev.Auto (Go.Ev.extKT Tryd.prog crKT) Tryd.prog (Go.Ev.rcKT Tryd.prog crKT 20000) Tryd.f16 crbody [0] 1000 crC (fun _ => none) := Go.Ev.auto_of noNG mixed (by kernel_rfl) ⟨crk0, crk1, trivial⟩ ⟨(fun _ _ => rfl), Tloop_blk, trivial⟩
end
end Go.Proofs.YtgmdbpmookoafaaDoor.text
