/- Engine, part 9: automata over both tables of known calls. -/
import Derived.Test.YtmmmknhdigapkaaEv8
namespace Go.Ev
set_option linter.unusedVariables false
noncomputable section
open Go.RowKit
abbrev a0j(P:Program)(K1:List KE)(K2:List KE2):Ext:=⟨fun ρ w=>(∀e∈K1,c4o P ρ w e)∧ ∀e∈K2,d8l P ρ w e,fun _=>False⟩
theorem c7F{P:Program}{K1:List KE}{K2:List KE2}: @c4t (a0j P K1 K2) P (knA K1 K2):=by
 letI:Ext:=a0j P K1 K2
 exact d7P (c2U fun _ _ h=>h.1) (d3r fun _ _ h=>h.2)
section
variable{P:Program}
end
end
end Go.Ev
