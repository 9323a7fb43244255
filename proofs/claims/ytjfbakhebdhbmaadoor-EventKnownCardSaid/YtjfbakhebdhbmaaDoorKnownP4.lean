/-
  'EventKnown' answers true. It takes no argument. The kernel runs the evaluator of the texts before (Go.Ev), which is proved sound for the model. The condition: the listed tables hold what the row lists; the card ties that to the program's text.
-/
import Derived.Test.YtjfbakhebdhbmaaDoorKnownS
namespace Go.Proofs.YtjfbakhebdhbmaaDoor.eventKnown
open Go.ChangeShapes Go.WideShapes Go.ChangeAt Go.RowKit
set_option linter.unusedVariables false
theorem part5 : Go.Ev.chkC Tryd.prog kn 20000 Tryd.f7.ntmps (.loop (Go.Ev.loopC (Go.Ev.blockC (Go.Ev.dropSeq 1 (Go.Ev.seqL (Go.Ev.dropSeq 3 body)))))) a4 H4 (.exit 0) a5 H5 = true := by kernel_rfl   -- 5715 operations
theorem part2 : Go.Ev.chkS Tryd.prog kn 20000 Tryd.f7.ntmps 1 (Go.Ev.seqL (Go.Ev.dropSeq 3 body)) a1 H1 a2 H2 = true := by kernel_rfl   -- 30 operations
theorem part6 : Go.Ev.chkS Tryd.prog kn 20000 Tryd.f7.ntmps 7 (Go.Ev.dropSeq 1 (Go.Ev.dropSeq 3 body)) a5 H5 a6 H6 = true := by kernel_rfl   -- 21 operations
theorem part7 : Go.Ev.chkS Tryd.prog kn 20000 Tryd.f7.ntmps 1 (Go.Ev.seqL (Go.Ev.dropSeq 7 (Go.Ev.dropSeq 1 (Go.Ev.dropSeq 3 body)))) a6 H6 a7 H7 = true := by kernel_rfl   -- 18 operations
theorem part1 : Go.Ev.chkS Tryd.prog kn 20000 Tryd.f7.ntmps 3 body .lf ⟨env, .lf, 0⟩ a1 H1 = true := by kernel_rfl   -- 11 operations
theorem part11 : Go.Ev.chkC Tryd.prog kn 20000 Tryd.f7.ntmps (Go.Ev.dropSeq 1 (Go.Ev.dropSeq 7 (Go.Ev.dropSeq 1 (Go.Ev.dropSeq 3 body)))) a10 H10 .ret a11 H11 = true := by kernel_rfl   -- 2 operations
end Go.Proofs.YtjfbakhebdhbmaaDoor.eventKnown
