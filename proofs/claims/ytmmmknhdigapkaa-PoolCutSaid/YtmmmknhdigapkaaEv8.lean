/- Engine, part 8: a function by its cuts, as a known call. -/
import Derived.Test.YtmmmknhdigapkaaEv7
namespace Go.Ev
set_option linter.unusedVariables false
noncomputable section
open Go.RowKit
theorem Old.swap{X Y:Ext}{w0 w:World}(h: @Old X w0 w)(ho: ∀k, @Ext.own X k↔ @Ext.own Y k): @Old Y w0 w:=
 @Old.mk Y w0 w (@Old.size X w0 w h) (fun k hk hn=> @Old.same X w0 w h k hk fun g=>hn ((ho k).1 g)) (fun a v hv g=> @Old.cell X w0 w h a v hv ((ho _).2 g))
def inK:Nat→List (Nat×VO)→Bool
 |_,[]=>false
 |i,(j,_)::l=>match Nat.beq i j with
  |true=>true|false=>inK i l
def e0a(m:TT Nat)(pre:List (Nat×VO)):Nat→Bool
 |0=>true
 |j+1=>match m.get j with
  |some i=>match inK i pre with
   |true=>e0a m pre j|false=>false
  |none=>false
end
end Go.Ev
