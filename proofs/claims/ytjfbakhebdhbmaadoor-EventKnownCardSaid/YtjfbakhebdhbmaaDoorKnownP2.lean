/-
  'EventKnown' answers true. It takes no argument. The kernel runs the evaluator of the texts before (Go.Ev), which is proved sound for the model. The condition: the listed tables hold what the row lists; the card ties that to the program's text.
-/
import Derived.Test.YtjfbakhebdhbmaaDoorKnownS
namespace Go.Proofs.YtjfbakhebdhbmaaDoor.eventKnown
open Go.ChangeShapes Go.WideShapes Go.ChangeAt Go.RowKit
set_option linter.unusedVariables false
theorem part4 : Go.Ev.chkR Tryd.prog kn 20000 Tryd.f7.ntmps 4 (Go.Ev.loopC (Go.Ev.blockC (Go.Ev.dropSeq 1 (Go.Ev.seqL (Go.Ev.dropSeq 3 body))))) a3 H3 a4 H4 = true := by kernel_rfl   -- 6750 operations
end Go.Proofs.YtjfbakhebdhbmaaDoor.eventKnown
