/- Engine, part 9: automata over both tables of known calls. -/
import Derived.Test.YtmmmknhdigapkaaEv8
namespace Go.Ev
set_option linter.unusedVariables false
noncomputable section
open Go.RowKit
abbrev a0g(P:Program)(K1:List KE)(K2:List KE2):Ext:=⟨fun ρ w=>(∀e∈K1,b7x P ρ w e)∧ ∀e∈K2,d6p P ρ w e,fun _=>False⟩
theorem c5E{P:Program}{K1:List KE}{K2:List KE2}: @b9v (a0g P K1 K2) P (knA K1 K2):=by
 letI:Ext:=a0g P K1 K2
 exact d5p (c0w fun _ _ h=>h.1) (d1x fun _ _ h=>h.2)
section
variable{P:Program}
end
end
end Go.Ev
