/- Engine, part 3: trees held against each other; helps for cuts. -/
import Derived.Test.YtmmmknhdigapkaaEv2
namespace Go.Ev
set_option linter.unusedVariables false
noncomputable section
open Go.RowKit
abbrev c8e:=List (Nat×Nat×Bool)
section
variable{α β:Type}
theorem b6j{iv:Ivs}{rs:c8e}{v:Nat→Int}(hv:VOK iv rs v){i j:Nat}{b:Bool}(h:c8b.relAt rs i j=some b):decide (v i<v j)=b:=hv.2 _ (b6k h)
end
section
variable{β:Type}
end
theorem CutP.ok_of[Ext]{c:CutP}{w0:World}{ρ:Rho}(h:Ext.ok ρ w0)(hiv:IvOK c.iv ρ)(hE: ∀iv fs,IvOK iv ρ→b1H fs ρ→ ∀φ:Phi,φ.ρ=ρ→EnvP (c.E iv fs) φ w0):c.OK w0 ρ:=
 ⟨h,fun φ hφ=>by
  obtain⟨g1,g2⟩:=a8P (t:=c.tr.tr) hiv (fs:=[]) fun f hf=>by cases hf
  exact(hE _ _ g1 g2 φ hφ).toM⟩
theorem fs_app{f1 f2:List Fact}{ρ:Rho}(h1:b1H f1 ρ)(h2:b1H f2 ρ):b1H (f1++f2) ρ:=fun f hf=>by
 rcases List.mem_append.1 hf with h|h
 ·exact h1 f h
 ·exact h2 f h
theorem a1L{ρ:Rho}:b1H [] ρ:=fun f hf=>by cases hf
theorem a0P{f:Fact}{l:List Fact}{ρ:Rho}(h1:FactOK ρ f)(h2:b1H l ρ):b1H (f::l) ρ:=fun g hg=>by
 rcases List.mem_cons.1 hg with rfl|h
 ·exact h1
 ·exact h2 g h
theorem d8h{iv:Ivs}{ρ:Rho}(h:IvOK iv ρ):VOK iv [] ρ.int:=⟨h,fun p hp=>by cases hp⟩
theorem run_ret[Ext]{C:List CutP}{w0:World}{res:Value}{p:Nat}{ρ:Rho}{c:CutP}{r:VV}(h1:a0H C p=some c)(h2:c.OK w0 ρ)(h3:a2V c.tr ρ.int= .ret r)(h4:a0g ρ r=some res): ∃k,Runs C w0 res k p ρ:=⟨0,.ret h1 h2 h3 h4⟩
theorem c1j[Ext]{C:List CutP}{w0:World}{res:Value}{p q:Nat}{ρ ρ':Rho}{c d:CutP}{xs:List VV}(h1:a0H C p=some c)(h2:c.OK w0 ρ)(h3:a2V c.tr ρ.int= .goto q xs)(h4:a0H C q=some d)(h5:agree d.N ρ ρ')(h6:carry ρ ρ' xs d.ys)(h7: ∃k,Runs C w0 res k q ρ'): ∃k,Runs C w0 res k p ρ:=
 let ⟨k,h⟩:=h7
 ⟨k+1,.step h1 h2 h3 h4 h5 h6 h⟩
def AllC(f:CutP→Prop):List CutP→Prop
 | []=>True|c::l=>f c∧AllC f l
theorem AllC.get{f:CutP→Prop}: ∀{C:List CutP} {p:Nat} {c:CutP},AllC f C→a0H C p=some c→f c
 | [],_,_,_,h=>by simp[a0H]at h
 |x::l,0,c,k,h=>by simp only[a0H,Option.some.injEq]at h;exact h▸k.1
 |x::l,p+1,c,k,h=>AllC.get k.2 (by simpa only[a0H]using h)
theorem a7l{P:Program}(hng:c9e P=true)(hm:P.follows .mixedOrders=true){KT:List KE}{n:Nat}{fn:Func}{body:Code}{S:List Nat}{fuel:Nat}{C:List CutP}{B:Nat→Option BO}(hnt:Nat.ble fn.ntmps top=true)
  (h1:AllC (fun c=>e3N P (b6m P KT n) fn.ntmps S fuel fn.results.toList body C c=true) C) (h2:AllC (fun c=> ∀iv fs,(c.E iv fs).blk=B) C): @Auto (b2i P KT) P (b6m P KT n) fn body S fuel C B:=by
 letI:Ext:=b2i P KT
 exact⟨d7Y (b5C hng) hm (c2R (fun _ _ h=>h)) n,fun p c h=>h1.get h,fun p c h=>h2.get h,Nat.le_of_ble_eq_true hnt⟩
end
end Go.Ev
