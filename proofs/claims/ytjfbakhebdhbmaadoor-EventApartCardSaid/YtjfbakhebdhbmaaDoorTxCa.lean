/-
  Events: automata, put together.
-/
import Derived.Test.YtjfbakhebdhbmaaDoorTxCk1
import Derived.Test.YtjfbakhebdhbmaaDoorTxCk2
import Derived.Test.YtjfbakhebdhbmaaDoorTxCk3
import Derived.Test.YtjfbakhebdhbmaaDoorTxCk4
import Derived.Test.YtjfbakhebdhbmaaDoorTxCk5
import Derived.Test.YtjfbakhebdhbmaaDoorTxCk6
namespace Go.Proofs.YtjfbakhebdhbmaaDoor.event
open Go.Ev Go.RowKit
set_option linter.unusedVariables false
noncomputable section
theorem ecauto : @Auto (extKA Tryd.prog ecKT ecK2) Tryd.prog (rcKA Tryd.prog ecKT ecK2 20000) Tryd.f9 ecbody [1] 1000 ecC (fun _ => none) := auto_ofA noNG mixed (by kernel_rfl) ⟨eck0, eck1, eck2, eck3, eck4, eck5, eck6, eck7, eck8, eck9, eck10, eck11, eck12, eck13, eck14, eck15, eck16, eck17, eck18, eck19, eck20, eck21, eck22, eck23, eck24, eck25, eck26, eck27, eck28, eck29, eck30, eck31, eck32, eck33, eck34, eck35, eck36, eck37, eck38, eck39, eck40, eck41, eck42, eck43, eck44, eck45, eck46, eck47, eck48, eck49, eck50, eck51, eck52, eck53, trivial⟩ ⟨Cent_blk, Cent_blk, Cent_blk, Cent_blk, Cent_blk, Cent_blk, Cent_blk, Cent_blk, Cent_blk, Cent_blk, Cent_blk, Cent_blk, Cent_blk, Cent_blk, Cent_blk, Cent_blk, Cent_blk, Cent_blk, Cent_blk, Cent_blk, Cent_blk, Cent_blk, Cent_blk, Cent_blk, Cent_blk, Cent_blk, Cent_blk, Cent_blk, Cent_blk, Cent_blk, Cent_blk, Cent_blk, Cent_blk, Cent_blk, Cent_blk, Cent_blk, Cent_blk, Cent_blk, Cent_blk, Cent_blk, Cent_blk, Cent_blk, Cent_blk, Cent_blk, Cent_blk, Cent_blk, Cent_blk, Cent_blk, Cent_blk, Cent_blk, Cent_blk, Cent_blk, Cent_blk, Cent_blk, trivial⟩
theorem etk2LLLRLRLRL : chkX (etlf etc2) ett2LLLRLRLRL (ivHi (ivLo (ivHi (ivLo (ivHi (ivLo (ivHi (ivHi (ivHi eciv0 12 (250)) 13 (2)) 12 (0)) 5 (-1 + 1)) 5 (0)) 6 (-1 + 1)) 6 (0)) 7 (-1 + 1)) 7 (0)) [] = true := chkX_cut etk2LLLRLRLRLL etk2LLLRLRLRLR
theorem etk2LLLRLRLR : chkX (etlf etc2) ett2LLLRLRLR (ivLo (ivHi (ivLo (ivHi (ivLo (ivHi (ivHi (ivHi eciv0 12 (250)) 13 (2)) 12 (0)) 5 (-1 + 1)) 5 (0)) 6 (-1 + 1)) 6 (0)) 7 (-1 + 1)) [] = true := chkX_cut etk2LLLRLRLRL etk2LLLRLRLRR
theorem etk2LLLRLRL : chkX (etlf etc2) ett2LLLRLRL (ivHi (ivLo (ivHi (ivLo (ivHi (ivHi (ivHi eciv0 12 (250)) 13 (2)) 12 (0)) 5 (-1 + 1)) 5 (0)) 6 (-1 + 1)) 6 (0)) [] = true := chkX_cut etk2LLLRLRLL etk2LLLRLRLR
theorem etk2LLLRLR : chkX (etlf etc2) ett2LLLRLR (ivLo (ivHi (ivLo (ivHi (ivHi (ivHi eciv0 12 (250)) 13 (2)) 12 (0)) 5 (-1 + 1)) 5 (0)) 6 (-1 + 1)) [] = true := chkX_cut etk2LLLRLRL etk2LLLRLRR
theorem etk2LLLRL : chkX (etlf etc2) ett2LLLRL (ivHi (ivLo (ivHi (ivHi (ivHi eciv0 12 (250)) 13 (2)) 12 (0)) 5 (-1 + 1)) 5 (0)) [] = true := chkX_cut etk2LLLRLL etk2LLLRLR
theorem etk2LLLR : chkX (etlf etc2) ett2LLLR (ivLo (ivHi (ivHi (ivHi eciv0 12 (250)) 13 (2)) 12 (0)) 5 (-1 + 1)) [] = true := chkX_cut etk2LLLRL etk2LLLRR
theorem etk2LLL : chkX (etlf etc2) ett2LLL (ivHi (ivHi (ivHi eciv0 12 (250)) 13 (2)) 12 (0)) [] = true := chkX_cut etk2LLLL etk2LLLR
theorem etk2LL : chkX (etlf etc2) ett2LL (ivHi (ivHi eciv0 12 (250)) 13 (2)) [] = true := chkX_cut etk2LLL etk2LLR
theorem etk2L : chkX (etlf etc2) ett2L (ivHi eciv0 12 (250)) [] = true := chkX_cut etk2LL etk2LR
theorem etk2 : chkX (etlf etc2) ett2 eciv0 [] = true := chkX_cut etk2L etk2R
theorem etauto : @Auto (extKA Tryd.prog etKT etK2) Tryd.prog (rcKA Tryd.prog etKT etK2 20000) Tryd.f9 etbody [1] 1000 etC (fun _ => none) := auto_ofA noNG mixed (by kernel_rfl) ⟨etk0, etk1, etk2, etk3, etk4, etk5, trivial⟩ ⟨Cent_blk, Cent_blk, Cent_blk, Cent_blk, Cent_blk, Cent_blk, trivial⟩
theorem efauto : @Auto (extKA Tryd.prog efKT efK2) Tryd.prog (rcKA Tryd.prog efKT efK2 20000) Tryd.f9 efbody [1] 1000 efC (fun _ => none) := auto_ofA noNG mixed (by kernel_rfl) ⟨efk0, efk1, efk2, efk3, trivial⟩ ⟨Cent_blk, Cent_blk, Cent_blk, Cent_blk, trivial⟩
theorem emk0RRR : chkX (emlf emc0) emt0RRR (ivLo (ivLo (ivLo emiv0 13 (0 + 1)) 13 (1 + 1)) 21 (-1 + 1)) [] = true := chkX_cut emk0RRRL emk0RRRR
theorem emk0RR : chkX (emlf emc0) emt0RR (ivLo (ivLo emiv0 13 (0 + 1)) 13 (1 + 1)) [] = true := chkX_cut emk0RRL emk0RRR
theorem emk0R : chkX (emlf emc0) emt0R (ivLo emiv0 13 (0 + 1)) [] = true := chkX_cut emk0RL emk0RR
theorem emk0 : chkX (emlf emc0) emt0 emiv0 [] = true := chkX_cut emk0L emk0R
theorem emauto : @Auto (extKA Tryd.prog emKT emK2) Tryd.prog (rcKA Tryd.prog emKT emK2 20000) Tryd.f31 embody [] 1000 emC (fun _ => none) := auto_ofA noNG mixed (by kernel_rfl) ⟨emk0, trivial⟩ ⟨Cent_blk, trivial⟩
end
end Go.Proofs.YtjfbakhebdhbmaaDoor.event
