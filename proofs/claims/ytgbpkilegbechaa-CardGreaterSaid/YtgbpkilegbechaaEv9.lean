/- Engine, part 9: automata over both tables of known calls. -/
import Derived.Test.YtgbpkilegbechaaEv8
namespace Go.Ev
set_option linter.unusedVariables false
noncomputable section
open Go.RowKit
section
variable {P : Program}
end
end
end Go.Ev
