/- Engine, part T: what the evaluator says holds of the program. -/
import Derived.Test.YtcblehiddfnafaaEvS
import Derived.Below
import Derived.ProofKit
import Derived.OpenShut
namespace Go.Ev
open Go.RowKit
noncomputable section
theorem b7U{P:Program}(hng:b0q P)(hm:P.follows .mixedOrders=true)(n:Nat):FEok P (evN P (a6o P) n).2:=
 (b3H hng (fun _ h=>a8X hng hm h) n).2.2
def b8i:Rho:=⟨fun _=>0,fun _=>.nilIface,fun _=>0,fun _=>0,fun _=>rfl,fun _ _ h=>by cases h⟩
def b8M:Phi:=⟨fun _=>none,b8i⟩
theorem HSim.start(w:World):HSim w b8M ⟨Env.none,.lf,0⟩ w:=
 ⟨⟨fun _=>⟨Int.le_refl _,Int.le_refl _⟩,(fun f h=>by cases h),(fun i c h=>by cases h)⟩,(fun r b h=>by cases h),(fun _ _=>rfl),(fun i inf h=>by cases h),Nat.zero_le _,(fun i o h=>by cases h),(fun i j oi oj inf jnf h=>by cases h),(fun _ _=>rfl),(fun i inf h=>by cases h)⟩
theorem b4p{w w':World}{φ φ':Phi}{H:VH}(hs:St φ w φ' w')(h:HSim w φ' H w'):Below w.heap.size w w':=
 ⟨hs.wk.os,hs.wk.tape,hs.wk.output,hs.wk.size,h.old⟩
theorem b1f{P:Program}(hng:b0q P)(hm:P.follows .mixedOrders=true){n:Nat}{f:FuncId}(h:b7n P n f=true)(w:World):
  Calls P f #[] w fun e w'=>e= .returned (.bool true)∧Below w.heap.size w w':=by
 unfold b7n at h
 cases hr:(evN P (a6o P) n).2.call f [] ⟨Env.none,.lf,0⟩with
 |none=>rw[hr]at h;cases h
 |some vh=>
  obtain⟨v,H'⟩:=vh
  rw[hr]at h
  have hc:=(b7U hng hm n).call w f [] ⟨Env.none,.lf,0⟩ v H' hr b8M w [] (by simp[VRs]) (HSim.start w)
  refine hc.mono ?_
  rintro e w' ⟨u,v',φ',H'',rfl,k1,k2,k3,_,rfl,rfl⟩
  cases u with
  |bool b=>
   have hb:b=true:=h
   subst hb
   simp only[VR]at k2
   subst k2
   exact⟨rfl,b4p k1 k3⟩
  |_=>cases h
def b7E(P:Program):Bool:=P.funcs.toList.all fun fn=> !(fn.name== "runtime.NumGoroutine")
theorem b5o{P:Program}(h:b7E P=true):b0q P:=by
 intro g fn hg
 have:=List.all_eq_true.1 h fn (by
  have:=Array.mem_of_getElem? hg
  simpa using this)
 simpa using this
end
end Go.Ev
