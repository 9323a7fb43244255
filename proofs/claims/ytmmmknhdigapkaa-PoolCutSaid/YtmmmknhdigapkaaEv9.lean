/- Engine, part 9: automata over both tables of known calls. -/
import Derived.Test.YtmmmknhdigapkaaEv8
namespace Go.Ev
set_option linter.unusedVariables false
noncomputable section
open Go.RowKit
abbrev a0i(P:Program)(K1:List KE)(K2:List KE2):Ext:=⟨fun ρ w=>(∀e∈K1,c4j P ρ w e)∧ ∀e∈K2,d8j P ρ w e,fun _=>False⟩
theorem c7C{P:Program}{K1:List KE}{K2:List KE2}: @c4o (a0i P K1 K2) P (knA K1 K2):=by
 letI:Ext:=a0i P K1 K2
 exact d7M (c2R fun _ _ h=>h.1) (d3p fun _ _ h=>h.2)
section
variable{P:Program}
end
end
end Go.Ev
