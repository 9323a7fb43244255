/- Engine, part 7: known calls that tell new memory, or change blocks. -/
import Derived.Test.YtgbpkilegbechaaEv6
namespace Go.Ev
set_option linter.unusedVariables false
noncomputable section
open Go.RowKit
end
end Go.Ev
