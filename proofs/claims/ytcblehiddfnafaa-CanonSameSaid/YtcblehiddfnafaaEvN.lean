/- Engine, part K: regions in the order of the text, code, calls: the evaluator and its soundness. -/
import Derived.Test.YtcblehiddfnafaaEvJ
import Derived.LoopNIn
import Derived.OrdersIn
namespace Go.Ev
noncomputable section
def Fr(r:Option Nat):Fence:={fn:=fun _=>True,depth:=none,alive:=false,round:=r}
theorem a5G{r:Option Nat}{n:Nat}{P:Program}{f:FuncId}{args:Array Value}{w:World}{R:Ending→World→Prop}:CallsIn (Fr r) n P f args w R↔Calls P f args w R:=
 callsIn_wide (n:=n)
def RO.get:RO→Option VV
 |.val v=>some v
 |.chk b o=>match b with|true=>o.get|false=>none
 |.ite b x y=>match b with|true=>x.get|false=>y.get
 |.bad=>none
theorem a4P{φ:Phi}{w:World}{r:Result Next}: ∀{o:RO} {v:VV},o.get=some v→RNR φ w r o→ ∃v',r= .ok (.value v') w∧VR φ v v'
 |.val u,v,h,k=>by simp only[RO.get,Option.some.injEq]at h;subst h;exact k
 |.chk b o,v,h,k=>by
  cases b with
  |true=>exact a4P (o:=o) h (k rfl)
  |false=>simp[RO.get]at h
 |.ite b x y,v,h,k=>by
  cases b with
  |true=>exact a4P (by simpa[RO.get]using h) (k.1 rfl)
  |false=>exact a4P (by simpa[RO.get]using h) (k.2 rfl)
 |.bad,v,h,_=>by simp[RO.get]at h
inductive Out1 where
 |val (v:VV) (H:VH)
 |enter (f:FuncId) (args:List VV)
 |round (i:Nat) (args:List VV)
 |bad
def Out.get:Out→Out1
 |.val v H=>.val v H
 |.skip H=>.val a3D H
 |.enter f args=>.enter f args
 |.round i args=>.round i args
 |.chk b o=>match b with|true=>o.get|false=>.bad
 |.ite b x y=>match b with|true=>x.get|false=>y.get
 |.bad=>.bad
def cls(P:Program):Op→Nat
 |.move _|.assign _|.pick .. |.build .. |.nilCheck _|.binOp .. |.unOp .. |.makeInterface .. |.makeFunc .. |.fieldAddr .. |.field .. |.indexAddr .. |.index .. |.extract .. |.typeAssert .. =>0
 |.slice .. |.load .. |.lookup .. =>1
 |.convert _ d _=>match P.underlying d with|some (.slice _)=>3|_=>1
 |.call c=>match c.callee with
  |.builtin b=>match b with
   |.len|.cap=>1
   |.min|.max=>0
   |_=>3
  |_=>3
 |.alloc _|.box .. |.buildSlice .. |.makeMap .. |.makeSlice .. =>2
 |_=>3
def a4o(nt:Nat)(a:VT)(d:Option Nat)(v:VV):Option VT:=match d with
 |some d=>match Nat.blt d nt with
  |true=>some (a.put d v)
  |false=>none
 |none=>some a
def a1T(all:List Oper)(a:VT):Option (Nat×Bool)→Bool
 |none=>true
 |some (j,want)=>match a0k all j with
  |some o=>match o.dst with
   |some d=>match a1d a d with
    |.bool b=>match b with|true=>want|false=> !want
    |_=>false
   |none=>false
  |none=>false
def gV:VV→Bool
 |.any|.one=>false
 |_=>true
def gOk(all:List Oper)(a:VT):Option (Nat×Bool)→Bool
 |none=>true
 |some (j,_)=>match a0k all j with
  |some o=>match o.dst with
   |some d=>gV (a1d a d)
   |none=>true
  |none=>true
inductive VX where
 |normal
 |ret
 |exit (id:Nat)
def VX.real:VX→Exit
 |.normal=>.normal
 |.ret=>.ret
 |.exit id=>.exit id
structure FE where
 call:FuncId→List VV→VH→Option (VV×VH)
 round:Nat→List VV→VH→Option (VV×VH)
abbrev CE:=Nat→Code→VT→VH→Option (VX×VT×VH)
def a2g(P:Program)(fe:FE)(op:Op)(a:VT)(H:VH):Option (VV×VH):=
 match cls P op with
 |0|1=>match(evR P op a H).get with
  |some v=>some (v,H)
  |none=>none
 |_=>match(evE P op a H).get with
  |.val v H₁=>some (v,H₁)
  |.enter f args=>fe.call f args H
  |.round i args=>fe.round i args H
  |.bad=>none
def a6E(P:Program)(fe:FE)(nt:Nat)(all:List Oper):List Oper→VT→VH→Option (VT×VH)
 | [],a,H=>some (a,H)
 |o::l,a,H=>match gOk all a o.guard with
  |false=>none
  |true=>match a1T all a o.guard with
   |true=>match a2g P fe o.op a H with
    |some (v,H₁)=>match a4o nt a o.dst v with
     |some a₁=>a6E P fe nt all l a₁ H₁
     |none=>none
    |none=>none
   |false=>match a4o nt a o.dst a3D with
    |some a₁=>a6E P fe nt all l a₁ H
    |none=>none
def a5J(rc:CE)(nt i:Nat)(a:VT)(H:VH):Option (VX×VT×VH):=match H.locs.get i with
 |some (.loop st pend tm n ps asg bd)=>match st with
  |.busy=>none
  |_=>match pend with
   |none=>some (.normal,a,{H with locs:=H.locs.put i (.loop .exhausted none tm n ps asg bd)})
   |some c=>rc nt c a {H with locs:=H.locs.put i (.loop .exhausted (some c) tm n ps asg bd)}
 |_=>none
def a2Z(top':Bool)(P:Program)(draw:Nat→List Oper→VT→VH→Option (VT×VH))(rc:CE)(fe:FE):CE:=fun nt c a H=>
 match c with
 |.rangeFunc g ⟨ps⟩ asg bd=>match top',a0C a g,Nat.blt H.next top with
  |true,some (.func (.func f) first cap),true=>match a6j P f (first++(.yield H.next::cap))with
   |.enter f args=>match fe.call f args (H.alloc (.loop .ready none a nt ps asg bd))with
    |some (_,H₁)=>a5J rc nt H.next a H₁
    |none=>none
   |_=>none
  |_,_,_=>none
 |.skip=>some (.normal,a,H)
 |.region _ ⟨ops⟩ false=>match a6E P fe nt ops ops a H with
  |some (a,H)=>some (.normal,a,H)
  |none=>none
 |.region _ ⟨ops⟩ true=>match draw nt ops a H with
  |some (a,H)=>some (.normal,a,H)
  |none=>none
 |.seq x y=>match rc nt x a H with
  |some (.normal,a,H)=>rc nt y a H
  |r=>r
 |.cond c x y=>match a0C a c with
  |some (.bool b)=>match b with
   |true=>rc nt x a H
   |false=>rc nt y a H
  |_=>none
 |.block id c=>match rc nt c a H with
  |some (.exit j,a,H)=>match Nat.beq j id with
   |true=>some (.normal,a,H)
   |false=>some (.exit j,a,H)
  |r=>r
 |.loop c=>match rc nt c a H with
  |some (.normal,a,H)=>rc nt (.loop c) a H
  |r=>r
 |.exit id=>some (.exit id,a,H)
 |.ret=>some (.ret,a,H)
 |_=>none
def b1q:List VV→Nat→VT→VT
 | [],_,t=>t
 |x::l,i,t=>b1q l (i+1) (t.put i x)
def b2H(P:Program)(a:VT)(H:VH):List ResultVar→Option (List VV)
 | []=>some []
 |.tmp t::l=>match b2H P a H l with
  |some r=>some (a1d a t::r)
  |none=>none
 |.cell x t::l=>match a1d a x with
  |.ptr (some ad)=>match loadT P H t ad,b2H P a H l with
   |some v,some r=>some (v::r)
   |_,_=>none
  |_=>none
def b7C:List VV→VV
 | [v]=>v
 |l=>.tuple l
def b4E:List Tmp→List VV→VT→VT
 |p::ps,x::xs,a=>b4E ps xs (a.put p x)
 |_,_,a=>a
def b7e(nt:Nat):List Tmp→Bool
 | []=>true
 |p::ps=>match Nat.blt p nt with|true=>b7e nt ps|false=>false
def a7i(i:Nat)(x:VX)(H:VH):Option (VV×VH):=match H.locs.get i with
 |some (.loop _ _ tm n ps asg bd)=>match x with
  |.normal=>some (.bool true,{H with locs:=H.locs.put i (.loop .ready none tm n ps asg bd)})
  |.ret=>some (.bool false,{H with locs:=H.locs.put i (.loop .done (some .ret) tm n ps asg bd)})
  |.exit id=>some (.bool false,{H with locs:=H.locs.put i (.loop .done (some (.exit id)) tm n ps asg bd)})
 |_=>none
def b3u(rc:CE):Nat→List VV→VH→Option (VV×VH):=fun i args H=>
 match H.locs.get i with
 |some (.loop _ _ tm nt ps asg bd)=>match Nat.beq args.length ps.length,b7e nt ps,Nat.ble nt top with
  |true,true,true=>match rc nt asg (b4E ps args tm) H with
   |some (.normal,a₁,H₁)=>match H₁.locs.get i with
    |some (.loop .ready pend tm' n' ps' asg' bd')=>match rc nt bd a₁ {H₁ with locs:=H₁.locs.put i (.loop .busy pend tm' n' ps' asg' bd')}with
     |some (x,_,H₂)=>a7i i x H₂
     |none=>none
    |_=>none
   |_=>none
  |_,_,_=>none
 |_=>none
def b3w(P:Program)(rc:CE):FuncId→List VV→VH→Option (VV×VH):=fun f args H=>
 match P.funcs[f]? with
 |some fn=>match fn.body with
  |some c=>match Nat.ble args.length fn.ntmps,Nat.ble fn.ntmps top with
   |true,true=>match rc fn.ntmps c (b1q args 0 .lf) H with
    |some (.exit _,_,_)=>none
    |some (_,a,H)=>match b2H P a H fn.results.toList with
     |some l=>some (b7C l,H)
     |none=>none
    |none=>none
   |_,_=>none
  |none=>none
 |none=>none
def b5U(P:Program)(w0:World)(f:FuncId)(args:List VV)(H:VH)(Q:VV→VH→Prop):Prop:=
 ∀(φ:Phi) (w:World) (args':List Value),VRs φ args args'→HSim w0 φ H w→
  Calls P f ⟨args'⟩ w fun e w'=> ∃v v' φ' H',e= .returned v'∧St φ w φ' w'∧VR φ' v v'∧HSim w0 φ' H' w'∧H'.base=H.base∧Q v H'
def b3g(P:Program)(w0:World)(i:Nat)(args:List VV)(H:VH)(v:VV)(H':VH):Prop:=
 ∀(φ:Phi) (w:World) (args':List Value) (inf:Inf) (L:Loop) (r:Option Nat),VRs φ args args'→HSim w0 φ H w→φ i=some inf→w.heap[inf.blk]? =some (.loop L)→
  RoundIn (Fr r) 0 P inf.blk L.fn ((L.params.zip ⟨args'⟩).foldl (fun tmps (p:Tmp×Value)=>tmps.setIfInBounds p.1 p.2) L.tmps) L.assign L.body w fun e w'=> ∃v' φ',e= .returned v'∧St φ w φ' w'∧VR φ' v v'∧HSim w0 φ' H' w'∧H'.base=H.base
structure FEok(P:Program)(fe:FE):Prop where
 call: ∀w0 f args H v H',fe.call f args H=some (v,H')→b5U P w0 f args H fun u K=>u=v∧K=H'
 round: ∀w0 i args H v H',fe.round i args H=some (v,H')→b3g P w0 i args H v H'
theorem a2f{φ:Phi}{nt:Nat}{a a₁:VT}{act:Act}(ht:TR φ a act.tmps)(hn:nt≤act.tmps.size)(hb:nt≤top){d:Option Nat}{v:VV}{v':Value}(hv:VR φ v v')(h:a4o nt a d v=some a₁):
  TR φ a₁ (act.put d v').tmps∧(act.put d v').tmps.size=act.tmps.size∧(act.put d v').defers=act.defers:=by
 cases d with
 |none=>simp only[a4o,Option.some.injEq]at h;subst h;exact⟨ht,rfl,rfl⟩
 |some d=>
  simp only[a4o]at h
  cases hd:Nat.blt d nt with
  |false=>rw[hd]at h;cases h
  |true=>
   rw[hd]at h
   simp only[Option.some.injEq]at h
   subst h
   have hlt:=a1B hd
   refine⟨fun t=> ?_,by simp[Act.put],rfl⟩
   by_cases e:t=d
   ·subst e
    have:a1d (a.put t v) t=v:=by simp[a1d,TT.get_put_same a t v (by omega)]
    rw[this]
    have e2:(act.put (some t) v').tmps.getD t undef=v':=by
     simp only[Act.put,Array.getD_eq_getD_getElem?,Array.getElem?_setIfInBounds]
     simp[show t<act.tmps.size by omega]
    rw[e2];exact hv
   ·have:a1d (a.put d v) t=a1d a t:=by simp[a1d,TT.get_put_other a d t v e]
    rw[this]
    have e2:(act.put (some d) v').tmps.getD t undef=act.tmps.getD t undef:=by
     simp only[Act.put,Array.getD_eq_getD_getElem?,Array.getElem?_setIfInBounds]
     rw[if_neg (fun e'=>e e'.symm)]
    rw[e2];exact ht t
theorem a2z(φ:Phi):VR φ a3D undef:=a8h φ
theorem b0p{φ:Phi}{x:VV}{b:Bool}(hg:gV x=true)(h:VR φ x (.bool b)):x= .bool b:=by
 cases x with
 |bool c=>simp only[VR]at h;cases h;rfl
 |any=>simp[gV]at hg
 |one=>simp[gV]at hg
 |sym i=>simp only[VR]at h;exact absurd h.symm (φ.ρ.nb i b)
 |ptr p=>cases p<;>simp[VR]at h
 |slice p l c=>cases p<;>simp[VR]at h
 |map p=>cases p<;>simp[VR]at h
 |_=>simp[VR]at h
theorem a2p{φ:Phi}{ops:List Oper}{a:VT}{act:Act}(ht:TR φ a act.tmps)(o:Oper)(hgo:gOk ops a o.guard=true):Region.wanted o (yielded ⟨ops⟩ act.tmps)=a1T ops a o.guard:=by
 unfold Region.wanted a1T
 unfold gOk at hgo
 cases hg:o.guard with
 |none=>rfl
 |some jw=>
  obtain⟨j,want⟩:=jw
  rw[hg]at hgo
  simp only at hgo
  rw[a1H]at hgo
  simp only[yielded]
  rw[a1H]
  have e0:(⟨ops⟩:Array Oper)[j]? =ops[j]? :=by simp
  rw[e0]
  cases hj:ops[j]? with
  |none=>rfl
  |some oj=>
   rw[hj]at hgo
   simp only at hgo
   simp only[Option.bind_some]
   cases hd:oj.dst with
   |none=>rfl
   |some d=>
    rw[hd]at hgo
    simp only at hgo
    simp only[Option.bind_some]
    have hr:=ht d
    have hget:act.tmps.getD d undef=(act.tmps[d]?).getD undef:=by simp[Array.getD_eq_getD_getElem?]
    rw[hget]at hr
    cases hv:act.tmps[d]? with
    |none=>
     rw[hv]at hr
     simp only[Option.getD_none]at hr
     cases hx:a1d a d with
     |bool b=>rw[hx]at hr;simp[VR,undef]at hr
     |_=>rfl
    |some v=>
     rw[hv]at hr
     simp only[Option.getD_some]at hr
     cases v with
     |bool b=>
      rw[b0p hgo hr]
      cases b<;>cases want<;>rfl
     |_=>
      cases hx:a1d a d with
      |bool b=>rw[hx]at hr;simp[VR]at hr
      |_=>rfl
def a4b(r:Nat):Deferred:={target:=.collected r,args:= #[]}
def MarksOK(b:Nat)(w0:World)(φ:Phi)(H:VH)(w:World)(ds:List Deferred):Prop:=
 ∃rs:List Nat,ds=rs.map a4b∧rs.Nodup∧ ∀r∈rs,b≤r∧w.heap[r]? =some (.deferred (some []))∧(∀i inf,φ i=some inf→inf.blk≠r)∧w0.heap.size≤r∧H.base.blk r=none
theorem MarksOK.nil{b:Nat}{w0:World}{φ:Phi}{H:VH}{w:World}:MarksOK b w0 φ H w []:=⟨[],rfl,List.nodup_nil,fun r h=>by cases h⟩
theorem MarksOK.step{b:Nat}{w0:World}{φ φ':Phi}{H H':VH}{w w':World}{ds:List Deferred}(h:MarksOK b w0 φ H w ds)(hs:St φ w φ' w')(hb:H'.base=H.base):MarksOK b w0 φ' H' w' ds:=by
 obtain⟨rs,h1,h2,h3⟩:=h
 refine⟨rs,h1,h2,fun r hr=> ?_⟩
 obtain⟨k1,k2,k3,k4,k5⟩:=h3 r hr
 have hlt:r<w.heap.size:=(Array.getElem?_eq_some_iff.1 k2).1
 refine⟨k1,by rw[hs.frame r hlt k3];exact k2,fun i inf hi=> ?_,k4,by rw[hb];exact k5⟩
 rcases hs.own i inf hi with⟨j,jnf,h4,h5⟩|h4
 ·rw[←h5];exact k3 j jnf h4
 ·omega
def PostC(b:Nat)(w0:World)(φ:Phi)(w:World)(sz:Nat)(H:VH)(x:VX)(a₁:VT)(H₁:VH)(e:Exit)(act':Act)(w':World):Prop:=
 ∃φ',e=x.real∧St φ w φ' w'∧TR φ' a₁ act'.tmps∧HSim w0 φ' H₁ w'∧H₁.base=H.base∧act'.tmps.size=sz∧MarksOK b w0 φ' H₁ w' act'.defers
theorem PostC.trans{b:Nat}{w0:World}{φ φ':Phi}{w w':World}{sz:Nat}{H H₁ H₂:VH}{x:VX}{a₂:VT}{e:Exit}{act':Act}{w'':World}(hs:St φ w φ' w')(hb:H₁.base=H.base)(h:PostC b w0 φ' w' sz H₁ x a₂ H₂ e act' w''):PostC b w0 φ w sz H x a₂ H₂ e act' w'':=by
 obtain⟨ψ,h1,h2,h3,h4,h5,h6,h7⟩:=h
 exact⟨ψ,h1,hs.trans h2,h3,h4,h5.trans hb,h6,h7⟩
theorem a6r{w0:World}{φ:Phi}{H:VH}{w:World}{r:Result Next}: ∀{o:Out},a8j w0 φ H w r o→match o.get with
  |.val v H₁=>(∃v' w₁ φ₁,r= .ok (.value v') w₁∧St φ w φ₁ w₁∧VR φ₁ v v'∧HSim w0 φ₁ H₁ w₁∧H₁.base=H.base)∨(v=a3D∧ ∃w₁ φ₁,r= .ok .skip w₁∧St φ w φ₁ w₁∧HSim w0 φ₁ H₁ w₁∧H₁.base=H.base)
  |.enter f args=> ∃args',r= .ok (.enter f ⟨args'⟩) w∧VRs φ args args'
  |.round i args=> ∃inf L args',φ i=some inf∧w.heap[inf.blk]? =some (.loop L)∧args'.length=L.params.size∧VRs φ args args'∧r= .ok (.round inf.blk L.fn ((L.params.zip ⟨args'⟩).foldl (fun tmps (p:Tmp×Value)=>tmps.setIfInBounds p.1 p.2) L.tmps) L.assign L.body) w
  |.bad=>True
 |.val v H₁,h=>.inl h
 |.skip H₁,h=>.inr ⟨rfl,h⟩
 |.enter f args,h=>h
 |.round _ _,h=>h
 |.chk b o,h=>by
  cases b with
  |true=>exact a6r (o:=o) (h rfl)
  |false=>exact trivial
 |.ite b x y,h=>by
  cases b with
  |true=>exact a6r (o:=x) (h.1 rfl)
  |false=>exact a6r (o:=y) (h.2 rfl)
 |.bad,_=>trivial
theorem b0J{P:Program}(hng:b0q P){fe:FE}(hfe:FEok P fe){w0:World}{φ:Phi}{w:World}{a:VT}{act:Act}{H:VH}(ht:TR φ a act.tmps)(hs:HSim w0 φ H w){o:Oper}(hd: ∀c,o.op≠ .defer c){v:VV}{H₁:VH}(h:a2g P fe o.op a H=some (v,H₁))
  (r:Option Nat) (K:Act→World→Prop) (Q:Exit→Act→World→Prop)
  (hK: ∀v' w₁ φ₁,St φ w φ₁ w₁→VR φ₁ v v'→HSim w0 φ₁ H₁ w₁→H₁.base=H.base→K (act.put o.dst v') w₁):o.wpIn (Fr r) 0 P act w K Q:=by
 refine⟨fun _ _=>trivial, ?_⟩
 rw[show(Fr r).round=r from rfl,Oper.semAt_eq _ _ _ hd]
 have read: ∀{u:VV},(evR P o.op a H).get=some u→some (u,H)=some (v,H₁)→o.uponIn (Fr r) 0 P act K Q ((execOp act.eval o).run P w):=by
  intro u hu he
  simp only[Option.some.injEq,Prod.mk.injEq]at he
  obtain⟨rfl,rfl⟩:=he
  obtain⟨v',h1,h2⟩:=a4P hu (a4g ht hs o)
  rw[h1]
  exact hK v' w φ (.refl φ w) h2 hs rfl
 have write:(match(evE P o.op a H).get with
   |.val v H₁=>some (v,H₁)
   |.enter f args=>fe.call f args H
   |.round i args=>fe.round i args H
   |.bad=>none)=some (v,H₁)→o.uponIn (Fr r) 0 P act K Q ((execOp act.eval o).run P w):=by
  intro he
  have hg:=a6r (a9X hng ht hs o)
  cases hq:(evE P o.op a H).get with
  |val u K'=>
   rw[hq]at he hg
   simp only[Option.some.injEq,Prod.mk.injEq]at he
   obtain⟨rfl,rfl⟩:=he
   simp only at hg
   rcases hg with⟨v',w₁,φ₁,h1,h2,h3,h4,h5⟩|⟨rfl,w₁,φ₁,h1,h2,h3,h4⟩
   ·rw[h1];exact hK v' w₁ φ₁ h2 h3 h4 h5
   ·rw[h1];exact hK undef w₁ φ₁ h2 (a2z φ₁) h3 h4
  |enter f args=>
   rw[hq]at he hg
   simp only at he hg
   obtain⟨args',h1,h2⟩:=hg
   rw[h1]
   refine⟨(fun hx=>by cases hx), ?_⟩
   refine a5G.2 ((hfe.call w0 f args H v H₁ he φ w args' h2 hs).mono ?_)
   rintro e w' ⟨u,v',φ',H',rfl,k1,k2,k3,k4,rfl,rfl⟩
   exact hK v' w' φ' k1 k2 k3 k4
  |round i args=>
   rw[hq]at he hg
   simp only at he hg
   obtain⟨inf,L,args',h1,h2,h3,h4,h5⟩:=hg
   rw[h5]
   refine⟨(fun hx=>by cases hx), ?_⟩
   refine(hfe.round w0 i args H v H₁ he φ w args' inf L r h4 hs h1 h2).mono ?_
   rintro e w' ⟨v',φ',rfl,k1,k2,k3,k4⟩
   exact hK v' w' φ' k1 k2 k3 k4
  |bad=>rw[hq]at he;cases he
 unfold a2g at h
 split at h
 ·cases hg:(evR P o.op a H).get with
  |none=>rw[hg]at h;cases h
  |some u=>rw[hg]at h;exact read hg h
 ·cases hg:(evR P o.op a H).get with
  |none=>rw[hg]at h;cases h
  |some u=>rw[hg]at h;exact read hg h
 ·exact write h
theorem a4X{P:Program}{fe:FE}{op:Op}{a:VT}{H:VH}{v:VV}{H₁:VH}(h:a2g P fe op a H=some (v,H₁)): ∀c,op≠ .defer c:=by
 rintro c rfl
 simp[a2g,cls,evE,Out.get]at h
theorem a8n{P:Program}(hng:b0q P){fe:FE}(hfe:FEok P fe){w0:World}{nt:Nat}(hb:nt≤top){all:List Oper}(r:Option Nat): ∀(l pre:List Oper) (a:VT) (H:VH) (a₁:VT) (H₁:VH),all=pre++l→a6E P fe nt all l a H=some (a₁,H₁)→
  ∀(φ:Phi) (act:Act) (w:World),TR φ a act.tmps→HSim w0 φ H w→nt≤act.tmps.size→ ∀b',MarksOK b' w0 φ H w act.defers→ ∀(Q:Exit→Act→World→Prop),(∀act' w',PostC b' w0 φ w act.tmps.size H .normal a₁ H₁ .normal act' w'→Q .normal act' w')→
  wpOpsIn (Fr r) 0 P ⟨all⟩ Q (List.range' pre.length l.length) act w:=by
 intro l
 induction l with
 |nil=>
  intro pre a H a₁ H₁ _ h φ act w ht hs hn b' hdf Q hQ
  simp only[a6E,Option.some.injEq,Prod.mk.injEq]at h
  obtain⟨rfl,rfl⟩:=h
  exact hQ act w ⟨φ,rfl,.refl φ w,ht,hs,rfl,rfl,hdf⟩
 |cons o l ih=>
  intro pre a H a₁ H₁ hall h φ act w ht hs hn b' hdf Q hQ
  have hget:(⟨all⟩:Array Oper)[pre.length]? =some o:=by simp[hall]
  simp only[List.length_cons,List.range'_succ,wpOpsIn,hget]
  have hall':all=(pre++ [o])++l:=by simp[hall]
  have hlen:(pre++ [o]).length=pre.length+1:=by simp
  simp only[a6E]at h
  cases hgo:gOk all a o.guard with
  |false=>rw[hgo]at h;cases h
  |true=>
  rw[hgo]at h
  simp only at h
  have hwant:=a2p (ops:=all) ht o hgo
  cases hw:a1T all a o.guard with
  |true=>
   rw[hw]at h hwant
   rw[if_pos hwant]
   simp only at h
   cases hr:a2g P fe o.op a H with
   |none=>rw[hr]at h;cases h
   |some vh=>
    obtain⟨v,H'⟩:=vh
    rw[hr]at h
    simp only at h
    cases hp:a4o nt a o.dst v with
    |none=>rw[hp]at h;cases h
    |some a'=>
     rw[hp]at h
     simp only at h
     refine b0J hng hfe ht hs (a4X hr) hr r _ _ ?_
     intro v' w₁ φ₁ k1 k2 k3 k4
     obtain⟨p1,p2,p3⟩:=a2f (ht.mono k1.le) hn hb k2 hp
     have:=ih (pre++ [o]) a' H' a₁ H₁ hall' h φ₁ (act.put o.dst v') w₁ p1 k3 (by omega) b' (by rw[p3];exact hdf.step k1 k4) Q (fun act' w' hp'=>hQ act' w' (by rw[p2]at hp';exact PostC.trans k1 k4 hp'))
     rwa [hlen]at this
  |false=>
   rw[hw]at h hwant
   rw[if_neg (by simp[hwant])]
   simp only at h
   refine⟨fun _ _=>trivial, ?_⟩
   cases hp:a4o nt a o.dst a3D with
   |none=>rw[hp]at h;cases h
   |some a'=>
    rw[hp]at h
    simp only at h
    obtain⟨p1,p2,p3⟩:=a2f ht hn hb (a2z φ) hp
    have:=ih (pre++ [o]) a' H a₁ H₁ hall' h φ (act.put o.dst undef) w p1 hs (by omega) b' (by rw[p3];exact hdf) Q (fun act' w' hp'=>hQ act' w' (by rw[p2]at hp';exact hp'))
    rwa [hlen]at this
end
end Go.Ev
namespace Go.Ev
noncomputable section
abbrev DE:=Nat→List Oper→VT→VH→Option (VT×VH)
def b4u(P:Program)(R:Option Nat→Prop)(ce:CE):Prop:= ∀w0 nt c a H x a₁ H₁,ce nt c a H=some (x,a₁,H₁)→nt≤top→ ∀(r:Option Nat),R r→ ∀(φ:Phi) (act:Act) (w:World),TR φ a act.tmps→HSim w0 φ H w→nt≤act.tmps.size→ ∀b,b≤w.heap.size→MarksOK b w0 φ H w act.defers→
 c.wpIn (Fr r) 0 P (PostC b w0 φ w act.tmps.size H x a₁ H₁) act w
def b7i(P:Program)(de:DE):Prop:= ∀w0 nt id ops a H a₁ H₁,de nt ops a H=some (a₁,H₁)→nt≤top→ ∀(r:Option Nat) (φ:Phi) (act:Act) (w:World),TR φ a act.tmps→HSim w0 φ H w→nt≤act.tmps.size→ ∀b,MarksOK b w0 φ H w act.defers→
 (Code.region id ⟨ops⟩ true).wpIn (Fr r) 0 P (PostC b w0 φ w act.tmps.size H .normal a₁ H₁) act w
def LoopOK(P:Program)(R:Option Nat→Prop)(w0:World)(nt:Nat)(c:Code)(a:VT)(H:VH)(x:VX)(a₁:VT)(H₁:VH):Prop:=
 ∃m,∀(r:Option Nat),R r→ ∀(φ:Phi) (act:Act) (w:World),TR φ a act.tmps→HSim w0 φ H w→nt≤act.tmps.size→ ∀b,b≤w.heap.size→MarksOK b w0 φ H w act.defers→ ∀Q:Exit→Act→World→Prop,(∀e act' w',PostC b w0 φ w act.tmps.size H x a₁ H₁ e act' w'→Q e act' w')→
  Code.roundsIn (Fr r) 0 P c Q m act w
section
variable{P:Program}{R:Option Nat→Prop}{top':Bool}{rc:CE}{fe:FE}{de:DE}
theorem MarksOK.cons{b:Nat}{w0:World}{φ:Phi}{H:VH}{w:World}{ds:List Deferred}(h:MarksOK b w0 φ H w ds){r:Nat}(hr: ∀r',a4b r'∈ds→r'≠r)(h1:b≤r)(h2:w.heap[r]? =some (.deferred (some [])))(h3: ∀i inf,φ i=some inf→inf.blk≠r)(h4:w0.heap.size≤r)(h5:H.base.blk r=none):MarksOK b w0 φ H w (a4b r::ds):=by
 obtain⟨rs,rfl,k2,k3⟩:=h
 refine⟨r::rs,rfl,List.nodup_cons.2 ⟨fun hm=>hr r (List.mem_map_of_mem hm) rfl,k2⟩,fun x hx=> ?_⟩
 rcases List.mem_cons.1 hx with rfl|hx
 ·exact⟨h1,h2,h3,h4,h5⟩
 ·exact k3 x hx
theorem MarksOK.lt{b:Nat}{w0:World}{φ:Phi}{H:VH}{w:World}{ds:List Deferred}(h:MarksOK b w0 φ H w ds){r:Nat}(hr:a4b r∈ds):r<w.heap.size:=by
 obtain⟨rs,rfl,_,k3⟩:=h
 obtain⟨x,hx,e⟩:=List.mem_map.1 hr
 have:x=r:=by simpa[a4b]using e
 subst this
 exact(Array.getElem?_eq_some_iff.1 (k3 x hx).2.1).1
theorem run_getLoop{P:Program}{w:World}{l:Nat}{L:Loop}(h:w.heap[l]? =some (.loop L)):(Instr.getLoop l).run P w= .ok L w:=by
 simp[Instr.getLoop,getObj,Sem.run_bind,Sem.run,h]
theorem a4E{P:Program}{w:World}{l:Nat}{L:Loop}(h:w.heap[l]? =some (.loop L))(o:Obj): ∃w₁,(setObj l o).run P w= .ok () w₁∧Upd w w₁ l o:=
 let ⟨h1,h2⟩:=a3X (P:=P) (o₁:=o) h (by simp)
 ⟨_,h1,h2⟩
theorem a5d(hrc:b4u P R rc){w0:World}{nt:Nat}{i:Nat}{a:VT}{H H₁:VH}{x:VX}{a₁:VT}(h:a5J rc nt i a H=some (x,a₁,H₁))(hb:nt≤top)(r:Option Nat)(hR:R r)
  {φ:Phi} {inf:Inf} (hφ:φ i=some inf) {act:Act} {w:World} (ht:TR φ a act.tmps) (hs:HSim w0 φ H w) (hn:nt≤act.tmps.size) {b:Nat} (hbs:b≤w.heap.size) (hm:MarksOK b w0 φ H w act.defers) {Q:Exit→Act→World→Prop}
  (hQ: ∀e act' w',PostC b w0 φ w act.tmps.size H x a₁ H₁ e act' w'→Q e act' w'):
  ∃jump w₄,(Instr.endLoop inf.blk).run P w= .ok jump w₄∧(match jump with|none=>Q .normal act w₄|some c=>c.wpIn (Fr r) 0 P Q act w₄):=by
 unfold a5J at h
 cases hg:H.locs.get i with
 |none=>rw[hg]at h;cases h
 |some o=>cases o with
  |loop st pend tm n ps asg bd=>
   rw[hg]at h
   simp only at h
   obtain⟨inf',o',h1,h2,⟨tmps',fn,d,rfl,h3,h4⟩,_⟩:=hs.live i _ hg
   rw[hφ]at h1;cases h1
   have hnb:st≠ .busy:=by intro e;subst e;simp at h
   have hst:(st==LoopState.busy)=false:=by cases st<;>first|rfl|exact absurd rfl hnb
   have h:(match pend with
     |none=>some (VX.normal,a,{H with locs:=H.locs.put i (.loop .exhausted none tm n ps asg bd)})
     |some c=>rc nt c a {H with locs:=H.locs.put i (.loop .exhausted (some c) tm n ps asg bd)})=some (x,a₁,H₁):=by
    cases st with
    |busy=>exact absurd rfl hnb
    |ready=>cases pend<;>exact h
    |done=>cases pend<;>exact h
    |exhausted=>cases pend<;>exact h
   obtain⟨w₁,g1,g2⟩:=a4E (P:=P) h2 (.loop {state:=.exhausted,pending:=pend,fn:=fn,tmps:=tmps',params:=⟨ps⟩,assign:=asg,body:=bd,defers:=d})
   have hend:(Instr.endLoop inf.blk).run P w= .ok pend w₁:=by
    simp only[Instr.endLoop,Sem.run_bind,run_getLoop h2,Result.andThen_ok,hst,Bool.false_eq_true,if_false,Sem.run_pure,g1]
   have hs': ∀q,q=pend→HSim w0 φ {H with locs:=H.locs.put i (.loop .exhausted q tm n ps asg bd)} w₁:=fun q hq=>by subst hq;exact hs.put hg hφ g2 ⟨tmps',fn,d,rfl,h3,h4⟩
   have st':St φ w φ w₁:=St.upd hφ g2
   refine⟨pend,w₁,hend, ?_⟩
   cases pend with
   |none=>
    simp only[Option.some.injEq,Prod.mk.injEq]at h
    obtain⟨rfl,rfl,rfl⟩:=h
    exact hQ _ _ _ ⟨φ,rfl,st',ht,hs' none rfl,rfl,rfl,hm.step st' rfl⟩
   |some c=>
    simp only at h
    refine wpIn_mono (hrc w0 nt c a _ x a₁ H₁ h hb r hR φ act w₁ ht (hs' _ rfl) hn b (by rw[g2.size];exact hbs) (hm.step st' rfl)) ?_
    intro e act' w' hp
    exact hQ e act' w' (PostC.trans st' rfl hp)
  |_=>rw[hg]at h;cases h
theorem a6I(hng:b0q P)(hrc:b4u P R rc)(hfe:FEok P fe){w0:World}{nt:Nat}{g:Operand}{ps:List Tmp}{asg bd:Code}{a:VT}{H:VH}{x:VX}{a₁:VT}{H₁:VH}(h:a2Z true P de rc fe nt (.rangeFunc g ⟨ps⟩ asg bd) a H=some (x,a₁,H₁))(hb:nt≤top)
  (hR:R none) (φ:Phi) (act:Act) (w:World) (ht:TR φ a act.tmps) (hs:HSim w0 φ H w) (hn:nt≤act.tmps.size) (b:Nat) (hbs:b≤w.heap.size) (hm:MarksOK b w0 φ H w act.defers):(Code.rangeFunc g ⟨ps⟩ asg bd).wpIn (Fr none) 0 P (PostC b w0 φ w act.tmps.size H x a₁ H₁) act w:=by
 simp only[a2Z]at h
 split at h
 ·rename_i f first cap _ hg hnx
  have hnx':H.next<top:=a1B hnx
  split at h
  ·rename_i f' args hen
   cases hcl:fe.call f' args (H.alloc (.loop .ready none a nt ps asg bd))with
   |none=>rw[hcl]at h;cases h
   |some vh=>
    obtain⟨v,H2⟩:=vh
    rw[hcl]at h
    simp only at h
    refine wpIn_rangeFunc (F:=Fr none) (n:=0) fun fn _=> ?_
    have hgv:=a0D ht hg
    simp only[VR]at hgv
    obtain⟨first',cap',_,g1,g2,g3⟩:=hgv
    let wd:World:=w.alloc (.deferred (some []))
    let lo:Obj:=.loop {state:=.ready,pending:=none,fn:=fn,tmps:=act.tmps,params:=⟨ps⟩,assign:=asg,body:=bd,defers:=w.heap.size}
    have hwd:wd.heap.size=w.heap.size+1:=by simp[wd,World.size_alloc]
    have hsd:HSim w0 φ H wd:=hs.grow _
    have hfresh:=hs.fresh H.next (Nat.le_refl _)
    have hle:=Phi.le_ext (φ:=φ) ⟨wd.heap.size,0,0⟩ hfresh
    have hs1:HSim w0 (φ.ext H.next ⟨wd.heap.size,0,0⟩) (H.alloc (.loop .ready none a nt ps asg bd)) (wd.alloc lo):=hsd.alloc hnx' 0 _ _ ⟨act.tmps,fn,w.heap.size,rfl,ht.mono hle,hn⟩
    have st1:St φ w (φ.ext H.next ⟨wd.heap.size,0,0⟩) (wd.alloc lo):=(St.grow φ w _).trans (St.alloc hsd lo 0)
    have hargs:f'=f∧args=first++(.yield H.next::cap):=by
     unfold a6j at hen
     split at hen
     ·split at hen
      ·cases hen;exact⟨rfl,rfl⟩
      ·cases hen
     ·cases hen
    obtain⟨rfl,rfl⟩:=hargs
    have hva:VRs (φ.ext H.next ⟨wd.heap.size,0,0⟩) (first++(.yield H.next::cap)) (first'++(.func (.yield wd.heap.size) #[] #[]::cap')):=by
     refine a2n (g1.mono hle) ?_
     simp only[VRs]
     exact⟨_,_,rfl,by simp only[VR];exact⟨_,Phi.ext_self _ _ _,rfl⟩,g2.mono hle⟩
    have hcf:=a4j hng (w0:=w0) (H:=H.alloc (.loop .ready none a nt ps asg bd)) (w:=wd.alloc lo) (g:=f') hva
    rw[hen]at hcf
    obtain⟨args'',hc1,hc2⟩:=hcf
    refine⟨wd.heap.size,[a4b w.heap.size],wd.alloc lo,{target:=.fn (.func f') ⟨cap'⟩,args:=⟨first'⟩++ #[.func (.yield wd.heap.size) #[] #[]]},wd.alloc lo,f',⟨args''⟩,wd.alloc lo, ?_, ?_,fun _ _=>trivial, ?_,(fun hx=>by cases hx), ?_⟩
    ·simp only[Instr.enterLoop,Fr,Sem.run_bind,run_newObj,Result.andThen_ok,Sem.run_pure]
     rfl
    ·simp only[resolve,g3,Deferred.ofValue,Sem.run_pure]
     simp[Act.eval]
    ·simp only[invoke]
     rw[←hc1]
     congr 2
     apply Array.ext'
     simp
    ·refine a5G.2 ((hfe.call w0 f' _ _ v H2 hcl _ _ args'' hc2 hs1).mono ?_)
     rintro e w' ⟨u,v',φ',H',rfl,k1,k2,k3,k4,rfl,rfl⟩
     have hm1:MarksOK b w0 (φ.ext H.next ⟨wd.heap.size,0,0⟩) (H.alloc (.loop .ready none a nt ps asg bd)) (wd.alloc lo) (a4b w.heap.size::act.defers):=by
      refine(hm.step st1 rfl).cons (fun r' hr' e=> ?_) hbs ?_ (fun k inf hk=> ?_) hs.oldSize ?_
      ·have:=hm.lt hr'
       omega
      ·rw[alloc_old (by omega)];exact a4n
      ·simp only[Phi.ext]at hk
       split at hk
       ·cases hk;simp only;omega
       ·have:=hs.bound k inf hk;omega
      ·show H.base.blk w.heap.size=none
       cases hbb:H.base.blk w.heap.size with
       |none=>rfl
       |some y=>obtain⟨ob,hw,_⟩:=hs.base _ y hbb;have:=a6c hw;omega
     have hφ':φ' H.next=some ⟨wd.heap.size,0,0⟩:=k1.le.1 _ _ (Phi.ext_self _ _ _)
     have st2:=st1.trans k1
     refine a5d hrc h hb none hR hφ' (act:={act with defers:=[a4b w.heap.size]++act.defers}) (ht.mono st2.le) k3 hn (by have:=st2.wk.size;omega) (hm1.step k1 k4) ?_
     intro e act' w'' hp
     exact PostC.trans st2 k4 hp
  ·cases h
 ·cases h
theorem a9w(hng:b0q P)(htop:top'=true→ ∀r,R r→r=none)(hrc:b4u P R rc)(hfe:FEok P fe)(hde:b7i P de){w0:World}{nt:Nat}{c:Code}{a:VT}{H:VH}{x:VX}{a₁:VT}{H₁:VH}(h:a2Z top' P de rc fe nt c a H=some (x,a₁,H₁))(hnl: ∀b,c≠ .loop b)(hb:nt≤top)
  (r:Option Nat) (hR:R r) (φ:Phi) (act:Act) (w:World) (ht:TR φ a act.tmps) (hs:HSim w0 φ H w) (hn:nt≤act.tmps.size) (b:Nat) (hbs:b≤w.heap.size) (hd:MarksOK b w0 φ H w act.defers):c.wpIn (Fr r) 0 P (PostC b w0 φ w act.tmps.size H x a₁ H₁) act w:=by
 have self: ∀y,PostC b w0 φ w act.tmps.size H y a H (VX.real y) act w:=fun y=>⟨φ,rfl,.refl φ w,ht,hs,rfl,rfl,hd⟩
 cases c with
 |skip=>
  simp only[a2Z,Option.some.injEq,Prod.mk.injEq]at h
  obtain⟨rfl,rfl,rfl⟩:=h
  exact wpIn_skip (self .normal)
 |region id ops draw=>
  obtain⟨ops⟩:=ops
  cases draw with
  |false=>
   simp only[a2Z]at h
   cases hr:a6E P fe nt ops ops a H with
   |none=>rw[hr]at h;cases h
   |some ah=>
    obtain⟨a',H'⟩:=ah
    rw[hr]at h
    simp only[Option.some.injEq,Prod.mk.injEq]at h
    obtain⟨rfl,rfl,rfl⟩:=h
    have:=a8n hng hfe (w0:=w0) hb r ops [] a H a' H' rfl hr φ act w ht hs hn b hd (PostC b w0 φ w act.tmps.size H .normal a' H') (fun _ _ k=>k)
    refine wpIn_region ?_
    have e:List.range (⟨ops⟩:Array Oper).size=List.range' ([]:List Oper).length ops.length:=by simp[List.range_eq_range']
    rw[e]
    exact this
  |true=>
   simp only[a2Z]at h
   cases hr:de nt ops a H with
   |none=>rw[hr]at h;cases h
   |some ah=>
    obtain⟨a',H'⟩:=ah
    rw[hr]at h
    simp only[Option.some.injEq,Prod.mk.injEq]at h
    obtain⟨rfl,rfl,rfl⟩:=h
    exact hde w0 nt id ops a H a' H' hr hb r φ act w ht hs hn b hd
 |seq y z=>
  simp only[a2Z]at h
  refine wpIn_seq ?_
  cases hy:rc nt y a H with
  |none=>rw[hy]at h;cases h
  |some t=>
   obtain⟨e,a',H'⟩:=t
   rw[hy]at h
   have k:=hrc w0 nt y a H e a' H' hy hb r hR φ act w ht hs hn b hbs hd
   refine wpIn_mono k ?_
   intro e' act' w' hp
   cases e with
   |normal=>
    simp only at h
    obtain⟨φ',rfl,k2,k3,k4,k5,k6,k7⟩:=hp
    have k':=hrc w0 nt z a' H' x a₁ H₁ h hb r hR φ' act' w' k3 k4 (by omega) b (by have:=k2.wk.size;omega) k7
    refine wpIn_mono k' ?_
    intro e'' act'' w'' hp'
    rw[k6]at hp'
    exact PostC.trans k2 k5 hp'
   |ret=>
    simp only[Option.some.injEq,Prod.mk.injEq]at h
    obtain⟨rfl,rfl,rfl⟩:=h
    obtain⟨φ',rfl,k2⟩:=hp
    exact⟨φ',rfl,k2⟩
   |exit id=>
    simp only[Option.some.injEq,Prod.mk.injEq]at h
    obtain⟨rfl,rfl,rfl⟩:=h
    obtain⟨φ',rfl,k2⟩:=hp
    exact⟨φ',rfl,k2⟩
 |cond c y z=>
  simp only[a2Z]at h
  cases hc:a0C a c with
  |none=>rw[hc]at h;cases h
  |some v=>cases v with
   |bool b=>
    rw[hc]at h
    have hv:=a0D ht hc
    simp only[VR]at hv
    refine wpIn_cond hv ?_
    cases b with
    |true=>exact hrc w0 nt y a H x a₁ H₁ h hb r hR φ act w ht hs hn b hbs hd
    |false=>exact hrc w0 nt z a H x a₁ H₁ h hb r hR φ act w ht hs hn b hbs hd
   |_=>rw[hc]at h;cases h
 |block id c=>
  simp only[a2Z]at h
  refine wpIn_block ?_
  cases hy:rc nt c a H with
  |none=>rw[hy]at h;cases h
  |some t=>
   obtain⟨e,a',H'⟩:=t
   rw[hy]at h
   have k:=hrc w0 nt c a H e a' H' hy hb r hR φ act w ht hs hn b hbs hd
   refine wpIn_mono k ?_
   intro e' act' w' hp
   cases e with
   |normal=>
    simp only[Option.some.injEq,Prod.mk.injEq]at h
    obtain⟨rfl,rfl,rfl⟩:=h
    obtain⟨φ',rfl,k2⟩:=hp
    exact⟨φ',rfl,k2⟩
   |ret=>
    simp only[Option.some.injEq,Prod.mk.injEq]at h
    obtain⟨rfl,rfl,rfl⟩:=h
    obtain⟨φ',rfl,k2⟩:=hp
    exact⟨φ',rfl,k2⟩
   |exit j=>
    obtain⟨φ',rfl,k2⟩:=hp
    simp only at h
    simp only[VX.real,Exit.inBlock]
    cases hj:Nat.beq j id with
    |true=>
     rw[hj]at h
     simp only[Option.some.injEq,Prod.mk.injEq]at h
     obtain⟨rfl,rfl,rfl⟩:=h
     rw[if_pos (Nat.eq_of_beq_eq_true hj)]
     exact⟨φ',rfl,k2⟩
    |false=>
     rw[hj]at h
     simp only[Option.some.injEq,Prod.mk.injEq]at h
     obtain⟨rfl,rfl,rfl⟩:=h
     rw[if_neg (by intro e;rw[e]at hj;simp at hj)]
     exact⟨φ',rfl,k2⟩
 |loop c=>exact absurd rfl (hnl c)
 |exit id=>
  simp only[a2Z,Option.some.injEq,Prod.mk.injEq]at h
  obtain⟨rfl,rfl,rfl⟩:=h
  exact wpIn_exit (self (.exit id))
 |ret=>
  simp only[a2Z,Option.some.injEq,Prod.mk.injEq]at h
  obtain⟨rfl,rfl,rfl⟩:=h
  exact wpIn_ret (self .ret)
 |rangeFunc g ps asg bd=>
  obtain⟨ps⟩:=ps
  cases top' with
  |false=>simp[a2Z]at h
  |true=>
   have hr0:=htop rfl r hR
   subst hr0
   exact a6I hng hrc hfe h hb hR φ act w ht hs hn b hbs hd
 |_=>simp[a2Z]at h
end
def b0w(tmps:Array Value):ResultVar→Sem Value
 |.tmp t=>pure (tmps.getD t undef)
 |.cell a t=>do loadVar t (←asAddr (tmps.getD a undef))
theorem b1g(fn:Func)(tmps:Array Value):results fn tmps=(do
  let vs←fn.results.mapM (b0w tmps)
  pure (if h:vs.size=1 then vs[0]else .tuple vs)):=by
 unfold results
 congr 1
theorem a4v{P:Program}{w0:World}{φ:Phi}{H:VH}{w:World}{a:VT}{tmps:Array Value}(ht:TR φ a tmps)(hs:HSim w0 φ H w): ∀(l:List ResultVar) (vs:List VV),b2H P a H l=some vs→
  ∃vs',(l.mapM (b0w tmps)).run P w= .ok vs' w∧VRs φ vs vs'
 | [],vs,h=>by simp only[b2H,Option.some.injEq]at h;subst h;exact⟨[],rfl,by simp[VRs]⟩
 |.tmp t::l,vs,h=>by
  simp only[b2H]at h
  cases hr:b2H P a H l with
  |none=>rw[hr]at h;cases h
  |some us=>
   rw[hr]at h
   simp only[Option.some.injEq]at h
   subst h
   obtain⟨us',h1,h2⟩:=a4v ht hs l us hr
   refine⟨tmps.getD t undef::us', ?_,by simp only[VRs];exact⟨_,_,rfl,ht t,h2⟩⟩
   simp only[List.mapM_cons,Sem.run_bind,b0w,Sem.run_pure,Result.andThen_ok,h1]
 |.cell x t::l,vs,h=>by
  simp only[b2H]at h
  have hx:=ht x
  cases hv:a1d a x with
  |ptr p=>cases p with
   |none=>rw[hv]at h;cases h
   |some ad=>
    rw[hv]at h hx
    simp only at h
    cases hl:loadT P H t ad with
    |none=>rw[hl]at h;cases h
    |some v=>cases hr:b2H P a H l with
     |none=>rw[hl,hr]at h;cases h
     |some us=>
      rw[hl,hr]at h
      simp only[Option.some.injEq]at h
      subst h
      simp only[VR]at hx
      obtain⟨a',s,ha,he⟩:=hx
      obtain⟨v',l1,l2⟩:=a6T (P:=P) hs ha hl
      obtain⟨us',h1,h2⟩:=a4v ht hs l us hr
      refine⟨v'::us', ?_,by simp only[VRs];exact⟨_,_,rfl,l2,h2⟩⟩
      simp only[List.mapM_cons,Sem.run_bind,b0w,he,asAddr,Sem.run_pure,Result.andThen_ok,l1,h1]
  |_=>rw[hv]at h;cases h
theorem a7j{P:Program}{w0:World}{φ:Phi}{H:VH}{w:World}{a:VT}{tmps:Array Value}(ht:TR φ a tmps)(hs:HSim w0 φ H w){fn:Func}{vs:List VV}(h:b2H P a H fn.results.toList=some vs):
  ∃v',(results fn tmps).run P w= .ok v' w∧VR φ (b7C vs) v':=by
 obtain⟨vs',h1,h2⟩:=a4v (P:=P) ht hs fn.results.toList vs h
 have hl:=a0V _ _ h2
 refine⟨if h:vs'.toArray.size=1 then vs'.toArray[0]else .tuple vs'.toArray, ?_, ?_⟩
 ·rw[b1g]
  simp only[Array.mapM_eq_mapM_toList,Sem.run_bind,Sem.run_map,h1,Result.andThen_ok,Sem.run_pure]
 ·unfold b7C
  cases vs with
  |nil=>
   simp only[VRs]at h2
   subst h2
   exact a8h φ
  |cons v vs=>cases vs with
   |nil=>
    simp only[VRs]at h2
    obtain⟨y,ys,rfl,h3,rfl⟩:=h2
    simpa using h3
   |cons u vs=>
    rw[dif_neg (by simp only[List.size_toArray,←hl,List.length_cons];omega)]
    simp only[VR]
    exact⟨vs',h2,rfl⟩
theorem a9C: ∀(l:List VV) (i:Nat) (t:VT) (k:Nat),i+l.length≤top→a1d (b1q l i t) k=if i≤k∧k<i+l.length then(l[k-i]?).getD a3D else a1d t k
 | [],i,t,k,_=>by rw[if_neg (by simp)];rfl
 |x::l,i,t,k,h=>by
  simp only[List.length_cons]at h
  simp only[b1q]
  rw[a9C l (i+1) _ k (by omega)]
  by_cases hk:i+1≤k∧k<i+1+l.length
  ·rw[if_pos hk,if_pos ⟨by omega,by simp only[List.length_cons];omega⟩]
   rw[show k-i=(k-(i+1))+1 by omega]
   simp
  ·rw[if_neg hk]
   by_cases he:k=i
   ·subst he
    rw[if_pos ⟨by omega,by simp only[List.length_cons];omega⟩]
    simp[a1d,TT.get_put_same t k x (by omega)]
   ·rw[if_neg (by simp only[List.length_cons];omega)]
    simp[a1d,TT.get_put_other t i k x he]
theorem a5P{P:Program}{fn:Func}{tmps:Array Value}{Rr:Ending→World→Prop}{b:Nat}{w0 ws:World}{φ0 φ:Phi}{H:VH}(hbs:ws.heap.size≤b)(hfin: ∀w,HSim w0 φ H w→St φ0 ws φ w→ ∃v,(results fn tmps).run P w= .ok v w∧Rr (.returned v) w): ∀(rs:List Nat) (w:World),rs.Nodup→HSim w0 φ H w→St φ0 ws φ w→
  (∀r∈rs,b≤r∧w.heap[r]? =some (.deferred (some []))∧(∀i inf,φ i=some inf→inf.blk≠r)∧w0.heap.size≤r∧H.base.blk r=none)→LeavesInM Fence.wide 0 P fn tmps Rr (rs.map a4b) .returning w
 | [],w,_,hs,st,_=>hfin w hs st
 |r::rs,w,hnd,hs,st,hr=>by
  obtain⟨k1,k2,k3,k4,k5⟩:=hr r (by simp)
  obtain⟨g1,g2⟩:=a3X (P:=P) (o₁:=.deferred none) k2 (by simp)
  refine⟨by simp,.inl ⟨r,_,rfl, ?_,a5P hbs hfin rs _ (List.nodup_cons.1 hnd).2 (hs.apart g2 k3 k4 k5) (st.apart g2 (by omega)) fun x hx=> ?_⟩⟩
  ·have hge:(getObj r).run P w= .ok (.deferred (some [])) w:=by simp[getObj,Sem.run,k2]
   simp[Instr.takeDeferred,hge,g1]
  ·obtain⟨j1,j2,j3,j4,j5⟩:=hr x (List.mem_cons_of_mem _ hx)
   have hxr:x≠r:=fun e=>(List.nodup_cons.1 hnd).1 (e▸hx)
   exact⟨j1,by rw[g2.there x hxr];exact j2,j3,j4,j5⟩
theorem a9v{P:Program}{R:Option Nat→Prop}(hR:R none){rc:CE}(hrc:b4u P R rc): ∀w0 f args H v H',b3w P rc f args H=some (v,H')→b5U P w0 f args H fun u K=>u=v∧K=H':=by
 intro w0 f args H v H' h φ w args' ha hs
 unfold b3w at h
 cases hf:P.funcs[f]? with
 |none=>rw[hf]at h;cases h
 |some fn=>
  rw[hf]at h
  simp only at h
  cases hb:fn.body with
  |none=>rw[hb]at h;cases h
  |some c=>
   rw[hb]at h
   simp only at h
   cases h1:Nat.ble args.length fn.ntmps with
   |false=>rw[h1]at h;cases h
   |true=>cases h2:Nat.ble fn.ntmps top with
    |false=>rw[h1,h2]at h;cases h
    |true=>
     rw[h1,h2]at h
     simp only at h
     have h1':args.length≤fn.ntmps:=Nat.le_of_ble_eq_true h1
     have h2':fn.ntmps≤top:=Nat.le_of_ble_eq_true h2
     have hl:=a0V _ _ ha
     have ht:TR φ (b1q args 0 .lf) ((⟨args'⟩:Array Value)++Array.replicate (fn.ntmps-(⟨args'⟩:Array Value).size) undef):=by
      intro t
      rw[a9C args 0 .lf t (by omega)]
      simp only[Array.getD_eq_getD_getElem?,Array.getElem?_append,List.size_toArray]
      by_cases hk:0≤t∧t<0+args.length
      ·rw[if_pos hk,if_pos (by omega)]
       obtain⟨x,hx⟩: ∃x,args[t-0]? =some x:=⟨args[t]'(by omega),by simp[show t<args.length by omega]⟩
       obtain⟨y,hy1,hy2⟩:=a1k _ _ ha _ x hx
       rw[hx]
       simp only[Option.getD_some]
       rw[show((⟨args'⟩:Array Value)[t]?)=some y by simpa using hy1]
       exact hy2
      ·rw[if_neg hk,if_neg (by omega)]
       have:(Array.replicate (fn.ntmps-args'.length) undef)[t-args'.length]?.getD undef=undef:=by
        rw[Array.getElem?_replicate]
        split<;>rfl
       rw[this]
       exact a2z φ
     cases hr:rc fn.ntmps c (b1q args 0 .lf) H with
     |none=>rw[hr]at h;cases h
     |some t=>
      obtain⟨x,a₁,H₁⟩:=t
      rw[hr]at h
      have hsz:fn.ntmps≤((⟨args'⟩:Array Value)++Array.replicate (fn.ntmps-(⟨args'⟩:Array Value).size) undef).size:=by simp;omega
      have k:=hrc w0 fn.ntmps c _ H x a₁ H₁ hr h2' none hR φ {tmps:=(⟨args'⟩:Array Value)++Array.replicate (fn.ntmps-(⟨args'⟩:Array Value).size) undef,defers:=[]} w ht hs hsz w.heap.size (Nat.le_refl _) .nil
      refine(callsIn_wide (n:=0)).1 (callsIn_of_wp_marks hf hb trivial (wpIn_mono k ?_))
      intro e act' w' hp
      obtain⟨φ',rfl,k2,k3,k4,k5,k6,⟨rs,m1,m2,m3⟩⟩:=hp
      have fin: ∀(hx:(match b2H P a₁ H₁ fn.results.toList with|some l=>some (b7C l,H₁)|none=>none)=some (v,H')),LeavesInM Fence.wide 0 P fn act'.tmps (fun e w'=> ∃u u' φ'' H'',e=Ending.returned u'∧St φ w φ'' w'∧VR φ'' u u'∧HSim w0 φ'' H'' w'∧H''.base=H.base∧(u=v∧H''=H')) act'.defers .returning w':=by
       intro hx
       cases hq:b2H P a₁ H₁ fn.results.toList with
       |none=>rw[hq]at hx;cases hx
       |some l=>
        rw[hq]at hx
        simp only[Option.some.injEq,Prod.mk.injEq]at hx
        obtain⟨rfl,rfl⟩:=hx
        rw[m1]
        refine a5P (b:=w.heap.size) (w0:=w0) (ws:=w) (φ0:=φ) (φ:=φ') (H:=H₁) (Nat.le_refl _) (fun w'' hs'' st''=> ?_) rs w' m2 k4 k2 m3
        obtain⟨v',r1,r2⟩:=a7j (P:=P) k3 hs'' hq
        exact⟨v',r1,b7C l,v',φ',H₁,rfl,st'',r2,hs'',k5,rfl,rfl⟩
      cases x with
      |normal=>exact fin h
      |ret=>exact fin h
      |exit id=>cases h
theorem a6J{φ:Phi}{nt:Nat}(hb:nt≤top): ∀(ps:List Tmp) (xs:List VV) (vs:List Value) (a:VT) (tmps:Array Value),b7e nt ps=true→nt≤tmps.size→TR φ a tmps→VRs φ xs vs→
  TR φ (b4E ps xs a) ((ps.zip vs).foldl (fun tmps (p:Tmp×Value)=>tmps.setIfInBounds p.1 p.2) tmps)∧((ps.zip vs).foldl (fun tmps (p:Tmp×Value)=>tmps.setIfInBounds p.1 p.2) tmps).size=tmps.size
 | [],xs,vs,a,tmps,_,_,ht,_=>by cases xs<;>exact⟨ht,rfl⟩
 |p::ps,[],vs,a,tmps,_,_,ht,hv=>by simp only[VRs]at hv;subst hv;exact⟨ht,rfl⟩
 |p::ps,x::xs,vs,a,tmps,hp,hn,ht,hv=>by
  simp only[VRs]at hv
  obtain⟨y,ys,rfl,h1,h2⟩:=hv
  simp only[b7e]at hp
  cases hbt:Nat.blt p nt with
  |false=>rw[hbt]at hp;cases hp
  |true=>
   rw[hbt]at hp
   have hlt:=a1B hbt
   have ht':TR φ (a.put p x) (tmps.setIfInBounds p y):=by
    intro t
    by_cases e:t=p
    ·subst e
     simp only[a1d,TT.get_put_same _ _ _ (Nat.lt_of_lt_of_le hlt hb)]
     have:(tmps.setIfInBounds t y).getD t undef=y:=by simp[Array.getD,show t<tmps.size by omega]
     rw[this];exact h1
    ·have e1:a1d (a.put p x) t=a1d a t:=by unfold a1d;rw[TT.get_put_other _ _ _ _ e]
     have e2:(tmps.setIfInBounds p y).getD t undef=tmps.getD t undef:=by
      simp only[Array.getD_eq_getD_getElem?,Array.getElem?_setIfInBounds]
      rw[if_neg (fun h=>e h.symm)]
     rw[e1,e2];exact ht t
   have:=a6J hb ps xs ys (a.put p x) (tmps.setIfInBounds p y) hp (by simpa using hn) ht' h2
   simp only[b4E,List.zip_cons_cons,List.foldl_cons]
   exact⟨this.1,by rw[this.2];simp⟩
theorem a6z{P:Program}{w0:World}{φ:Phi}{H H':VH}{w:World}{i:Nat}{x:VX}{v:VV}(h:a7i i x H=some (v,H'))(hs:HSim w0 φ H w){inf:Inf}(hφ:φ i=some inf):
  ∃(jump:Option Code) (v':Value) (w₁:World),(match x with|.normal=>jump=none|.ret=>jump=some .ret|.exit id=>jump=some (.exit id))∧(Instr.endRound inf.blk jump).run P w= .ok v' w₁∧VR φ v v'∧HSim w0 φ H' w₁∧St φ w φ w₁∧H'.base=H.base:=by
 unfold a7i at h
 cases hg:H.locs.get i with
 |none=>rw[hg]at h;cases h
 |some o=>cases o with
  |loop st pend tm n ps asg bd=>
   rw[hg]at h
   simp only at h
   obtain⟨inf',o',h1,h2,⟨tmps',fn,d,rfl,h3,h4⟩,_⟩:=hs.live i _ hg
   rw[hφ]at h1;cases h1
   have go: ∀(jump:Option Code) (st':LoopState),st'=(if jump.isNone then .ready else .done)→ ∃w₁,(Instr.endRound inf.blk jump).run P w= .ok (.bool jump.isNone) w₁∧HSim w0 φ {H with locs:=H.locs.put i (.loop st' jump tm n ps asg bd)} w₁∧St φ w φ w₁:=by
    intro jump st' hst
    obtain⟨w₁,g1,g2⟩:=a4E (P:=P) h2 (.loop {state:=st',pending:=jump,fn:=fn,tmps:=tmps',params:=⟨ps⟩,assign:=asg,body:=bd,defers:=d})
    refine⟨w₁, ?_,hs.put hg hφ g2 ⟨tmps',fn,d,rfl,h3,h4⟩,St.upd hφ g2⟩
    simp only[Instr.endRound,Sem.run_bind,run_getLoop h2,Result.andThen_ok,←hst,g1,Sem.run_pure]
   cases x with
   |normal=>
    simp only[Option.some.injEq,Prod.mk.injEq]at h
    obtain⟨rfl,rfl⟩:=h
    obtain⟨w₁,k1,k2,k3⟩:=go none .ready rfl
    exact⟨none,_,w₁,rfl,k1,by simp[VR],k2,k3,rfl⟩
   |ret=>
    simp only[Option.some.injEq,Prod.mk.injEq]at h
    obtain⟨rfl,rfl⟩:=h
    obtain⟨w₁,k1,k2,k3⟩:=go (some .ret) .done rfl
    exact⟨some .ret,_,w₁,rfl,k1,by simp[VR],k2,k3,rfl⟩
   |exit id=>
    simp only[Option.some.injEq,Prod.mk.injEq]at h
    obtain⟨rfl,rfl⟩:=h
    obtain⟨w₁,k1,k2,k3⟩:=go (some (.exit id)) .done rfl
    exact⟨some (.exit id),_,w₁,rfl,k1,by simp[VR],k2,k3,rfl⟩
  |_=>rw[hg]at h;cases h
theorem a9u{P:Program}{R:Option Nat→Prop}(hR: ∀l,R (some l)){rc:CE}(hrc:b4u P R rc): ∀w0 i args H v H',b3u rc i args H=some (v,H')→b3g P w0 i args H v H':=by
 intro w0 i args H v H' h φ w args' inf L r ha hs hφ hL
 unfold b3u at h
 split at h
 ·rename_i st0 pend0 tm nt ps asg bd hg
  split at h
  ·rename_i c1 c2 c3
   have hnt:nt≤top:=Nat.le_of_ble_eq_true c3
   obtain⟨inf',o',h1,h2,⟨tmps',fn,d,rfl,h3,h4⟩,_⟩:=hs.live i _ hg
   rw[hφ]at h1;cases h1
   rw[hL]at h2
   simp only[Option.some.injEq,Obj.loop.injEq]at h2
   subst h2
   simp only at*
   obtain⟨t1,t2⟩:=a6J (φ:=φ) hnt ps args args' tm tmps' c2 h4 h3 ha
   have hfold:(((⟨ps⟩:Array Tmp).zip ⟨args'⟩).foldl (fun tmps (p:Tmp×Value)=>tmps.setIfInBounds p.1 p.2) tmps')=((ps.zip args').foldl (fun tmps (p:Tmp×Value)=>tmps.setIfInBounds p.1 p.2) tmps'):=by
    rw[←Array.foldl_toList];simp
   rw[hfold]
   generalize ((ps.zip args').foldl (fun tmps (p:Tmp×Value)=>tmps.setIfInBounds p.1 p.2) tmps')=tmps'' at*
   split at h
   ·rename_i a₁ H₁ hra
    split at h
    ·rename_i pend' tm' n' ps' asg' bd' hg1
     split at h
     ·rename_i x a₂ H₂ hrb
      refine roundIn_of_wpIn (F:=Fr r) (n:=0) trivial ?_
      have k:=hrc w0 nt asg _ H .normal a₁ H₁ hra hnt (some inf.blk) (hR _) φ {tmps:=tmps'',defers:=[]} w t1 hs (by rw[t2];exact h4) 0 (Nat.zero_le _) .nil
      refine wpIn_mono k ?_
      intro e act' w₁ hp
      obtain⟨φ₁,rfl,k2,k3,k4,k5,k6,k7⟩:=hp
      have hφ1:=k2.le.1 _ _ hφ
      obtain⟨inf1,o1,j1,j2,⟨tm1,fn1,d1,rfl,j3,j4⟩,_⟩:=k4.live i _ hg1
      rw[hφ1]at j1;cases j1
      obtain⟨w₂,g1,g2⟩:=a4E (P:=P) j2 (.loop {state:=.busy,pending:=pend',fn:=fn1,tmps:=tm1,params:=⟨ps'⟩,assign:=asg',body:=bd',defers:=d1})
      refine⟨w₂, ?_, ?_⟩
      ·simp[Instr.beginRound,run_getLoop j2,g1]
      ·have hs2:=k4.put hg1 hφ1 g2 (o₁:=.loop .busy pend' tm' n' ps' asg' bd') ⟨tm1,fn1,d1,rfl,j3,j4⟩
       have st2:St φ w φ₁ w₂:=k2.trans (St.upd hφ1 g2)
       have kb:=hrc w0 nt bd a₁ _ x a₂ H₂ hrb hnt (some inf.blk) (hR _) φ₁ act' w₂ k3 hs2 (by rw[k6,t2];exact h4) 0 (Nat.zero_le _) (k7.step (St.upd hφ1 g2) rfl)
       refine wpIn_mono kb ?_
       intro e act'' w₃ hp'
       obtain⟨φ₂,rfl,m2,m3,m4,m5,_,_⟩:=hp'
       have hφ2:=m2.le.1 _ _ hφ1
       obtain⟨jump,v',w₄,q1,q2,q3,q4,q5,q6⟩:=a6z (P:=P) h m4 hφ2
       have fin:(fun e w'=> ∃v' φ',e=Ending.returned v'∧St φ w φ' w'∧VR φ' v v'∧HSim w0 φ' H' w'∧H'.base=H.base) (.returned v') w₄:=
        ⟨v',φ₂,rfl,(st2.trans m2).trans q5,q3,q4,q6.trans (m5.trans k5)⟩
       cases x with
       |normal=>simp only at q1;subst q1;exact⟨v',w₄,q2,fin⟩
       |ret=>simp only at q1;subst q1;exact⟨v',w₄,q2,fin⟩
       |exit id=>simp only at q1;subst q1;exact⟨v',w₄,q2,fin⟩
     ·cases h
    ·cases h
   ·cases h
  ·cases h
 ·cases h
end
end Go.Ev
namespace Go.Ev
noncomputable section
def evN(P:Program)(dr:FE→DE)(n:Nat):(CE×CE)×FE:=
 Nat.rec ((fun _ _ _ _=>none,fun _ _ _ _=>none),⟨fun _ _ _=>none,fun _ _ _=>none⟩)
  (fun _ ih=>((a2Z true P (dr ih.2) ih.1.1 ih.2,a2Z false P (dr ih.2) ih.1.2 ih.2),⟨b3w P ih.1.1,b3u ih.1.2⟩)) n
theorem b4l(P:Program)(dr:FE→DE)(n:Nat):evN P dr (n+1)=((a2Z true P (dr (evN P dr n).2) (evN P dr n).1.1 (evN P dr n).2,a2Z false P (dr (evN P dr n).2) (evN P dr n).1.2 (evN P dr n).2),⟨b3w P (evN P dr n).1.1,b3u (evN P dr n).1.2⟩):=rfl
theorem LoopOK.wp{P:Program}{R:Option Nat→Prop}{w0:World}{nt:Nat}{c:Code}{a:VT}{H:VH}{x:VX}{a₁:VT}{H₁:VH}(h:LoopOK P R w0 nt c a H x a₁ H₁)(r:Option Nat)(hR:R r)(φ:Phi)(act:Act)(w:World)(ht:TR φ a act.tmps)(hs:HSim w0 φ H w)(hn:nt≤act.tmps.size)(b:Nat)(hbs:b≤w.heap.size)(hd:MarksOK b w0 φ H w act.defers):
  (Code.loop c).wpIn (Fr r) 0 P (PostC b w0 φ w act.tmps.size H x a₁ H₁) act w:=by
 obtain⟨m,hm⟩:=h
 exact wpIn_loop_rounds m (hm r hR φ act w ht hs hn b hbs hd _ fun _ _ _ k=>k)
theorem b0u{P:Program}(hng:b0q P){R:Option Nat→Prop}{top':Bool}(htop:top'=true→ ∀r,R r→r=none){de:DE}{rc:CE}{fe:FE}(hde:b7i P de)(hfe:FEok P fe)(hl: ∀w0 nt c a H x a₁ H₁,rc nt (.loop c) a H=some (x,a₁,H₁)→nt≤top→LoopOK P R w0 nt c a H x a₁ H₁)(hrc:b4u P R rc):
  (∀w0 nt c a H x a₁ H₁,a2Z top' P de rc fe nt (.loop c) a H=some (x,a₁,H₁)→nt≤top→LoopOK P R w0 nt c a H x a₁ H₁)∧b4u P R (a2Z top' P de rc fe):=by
 have loops: ∀w0 nt c a H x a₁ H₁,a2Z top' P de rc fe nt (.loop c) a H=some (x,a₁,H₁)→nt≤top→LoopOK P R w0 nt c a H x a₁ H₁:=by
  intro w0 nt c a H x a₁ H₁ h hb
  simp only[a2Z]at h
  cases hy:rc nt c a H with
  |none=>rw[hy]at h;cases h
  |some t=>
   obtain⟨e,a',H'⟩:=t
   rw[hy]at h
   cases e with
   |normal=>
    simp only at h
    obtain⟨m,hm⟩:=hl w0 nt c a' H' x a₁ H₁ h hb
    refine⟨m+1,fun r hR φ act w ht hs hn b hbs hd Q hQ=> ?_⟩
    rw[roundsIn_succ]
    refine wpIn_mono (hrc w0 nt c a H _ a' H' hy hb r hR φ act w ht hs hn b hbs hd) ?_
    intro e act' w' hp
    obtain⟨φ',rfl,k2,k3,k4,k5,k6,k7⟩:=hp
    refine hm r hR φ' act' w' k3 k4 (by omega) b (by have:=k2.wk.size;omega) k7 Q fun e'' act'' w'' hp'=>hQ e'' act'' w'' ?_
    rw[k6]at hp'
    exact PostC.trans k2 k5 hp'
   |ret=>
    simp only[Option.some.injEq,Prod.mk.injEq]at h
    obtain⟨rfl,rfl,rfl⟩:=h
    refine⟨1,fun r hR φ act w ht hs hn b hbs hd Q hQ=> ?_⟩
    rw[roundsIn_succ]
    refine wpIn_mono (hrc w0 nt c a H _ a' H' hy hb r hR φ act w ht hs hn b hbs hd) ?_
    intro e act' w' hp
    have he:e= .ret:=by obtain⟨φ',he,_⟩:=hp;exact he
    subst he
    exact hQ _ _ _ hp
   |exit id=>
    simp only[Option.some.injEq,Prod.mk.injEq]at h
    obtain⟨rfl,rfl,rfl⟩:=h
    refine⟨1,fun r hR φ act w ht hs hn b hbs hd Q hQ=> ?_⟩
    rw[roundsIn_succ]
    refine wpIn_mono (hrc w0 nt c a H _ a' H' hy hb r hR φ act w ht hs hn b hbs hd) ?_
    intro e act' w' hp
    have he:e= .exit id:=by obtain⟨φ',he,_⟩:=hp;exact he
    subst he
    exact hQ _ _ _ hp
 refine⟨loops, ?_⟩
 intro w0 nt c a H x a₁ H₁ h hb r hR φ act w ht hs hn b hbs hd
 by_cases hlp: ∃b,c= .loop b
 ·obtain⟨c',rfl⟩:=hlp
  exact(loops w0 nt c' a H x a₁ H₁ h hb).wp r hR φ act w ht hs hn b hbs hd
 ·exact a9w hng htop hrc hfe hde h (fun b e=>hlp ⟨b,e⟩) hb r hR φ act w ht hs hn b hbs hd
theorem b3H{P:Program}(hng:b0q P){dr:FE→DE}(hdr: ∀fe,FEok P fe→b7i P (dr fe)): ∀n,
  ((∀w0 nt c a H x a₁ H₁,(evN P dr n).1.1 nt (.loop c) a H=some (x,a₁,H₁)→nt≤top→LoopOK P (· =none) w0 nt c a H x a₁ H₁)∧b4u P (· =none) (evN P dr n).1.1)∧
  ((∀w0 nt c a H x a₁ H₁,(evN P dr n).1.2 nt (.loop c) a H=some (x,a₁,H₁)→nt≤top→LoopOK P (fun _=>True) w0 nt c a H x a₁ H₁)∧b4u P (fun _=>True) (evN P dr n).1.2)∧FEok P (evN P dr n).2:=by
 intro n
 induction n with
 |zero=>
  refine⟨⟨?_, ?_⟩,⟨?_, ?_⟩,⟨?_, ?_⟩⟩
  ·intro w0 nt c a H x a₁ H₁ h;cases h
  ·intro w0 nt c a H x a₁ H₁ h;cases h
  ·intro w0 nt c a H x a₁ H₁ h;cases h
  ·intro w0 nt c a H x a₁ H₁ h;cases h
  ·intro w0 f args H v H' h;cases h
  ·intro w0 i args H v H' h;cases h
 |succ n ih=>
  obtain⟨⟨ih1,ih2⟩,⟨ih3,ih4⟩,ih5⟩:=ih
  rw[b4l]
  refine⟨b0u (top':=true) hng (fun _ r hr=>hr) (hdr _ ih5) ih5 ih1 ih2,b0u (top':=false) hng (fun h=>absurd h (by simp)) (hdr _ ih5) ih5 ih3 ih4,⟨a9v (R:=(· =none)) rfl ih2,a9u (fun _=>trivial) ih4⟩⟩
end
end Go.Ev
namespace Go.Ev
noncomputable section
def a1M(e:Edge):Bool:=match e.ground with|.textOnly _=>false|.gcOnly _=>false|_=>true
def b4h(l:List Nat)(i:Nat):Nat:=match a0k l i with|some x=>x|none=>0
def a1p(acc:List Nat):List Edge→Nat
 | []=>0
 |e::r=>match a1M e with
  |true=>(2^e.on|||b4h acc e.on)|||a1p acc r
  |false=>a1p acc r
def a3m:List Oper→List Nat→List Nat
 | [],acc=>acc
 |o::l,acc=>a3m l (acc++ [a1p acc o.after.toList])
def rch(mk:List Nat)(i j:Nat):Bool:=Nat.testBit (b4h mk j) i
def b6Y(p:Nat→Bool):Nat→Nat→List Nat
 |0,_=>[]
 |n+1,i=>match p i with
  |true=>i::b6Y p n (i+1)
  |false=>b6Y p n (i+1)
def countB(p:Nat→Bool):List Nat→Nat
 | []=>0
 |x::l=>match p x with|true=>countB p l+1|false=>countB p l
def b4H(p:Nat→Bool):List Nat→List Nat×List Nat
 | []=>([],[])
 |x::l=>match b4H p l with
  |(a,b)=>match p x with|true=>(x::a,b)|false=>(a,x::b)
inductive SK where
 |r
 |a
 |e
def SK.isR:SK→Bool|.r=>true|_=>false
def SK.isA:SK→Bool|.a=>true|_=>false
def SK.isE:SK→Bool|.e=>true|_=>false
def a1N(l:List SK)(i:Nat):SK:=match a0k l i with|some x=>x|none=>.e
def b3Y(mk:List Nat)(lev:Nat→Nat)(reads:List Nat):Nat→List Nat→List Nat→List Nat
 |j,allocs,[]=>(b4H (fun i=>Nat.beq (lev i) j) reads).1++allocs
 |j,allocs,e::es=>match b4H (fun k=>rch mk k e) allocs with
  |(now,later)=>(b4H (fun i=>Nat.beq (lev i) j) reads).1++(now++(e::b3Y mk lev reads (j+1) later es))
def b1K(ks:List SK)(mk:List Nat)(n:Nat):List Nat:=
 b3Y mk (fun i=>countB (fun e=>rch mk e i) (b6Y (fun i=>(a1N ks i).isE) n 0)) (b6Y (fun i=>(a1N ks i).isR) n 0) 0 (b6Y (fun i=>(a1N ks i).isA) n 0) (b6Y (fun i=>(a1N ks i).isE) n 0)
def a8z(x:Nat):List Nat→Bool
 | []=>false
 |y::l=>match Nat.beq x y with|true=>true|false=>a8z x l
def b6V(p:Nat→Bool):List Nat→Bool
 | []=>true
 |x::l=>match p x with|true=>b6V p l|false=>false
def a3o:List Operand→List Nat
 | []=>[]
 |.tmp t::l=>t::a3o l
 |_::l=>a3o l
def looks(all:List Oper)(o:Oper):List Nat:=
 match o.guard with
 |some (g,_)=>match a0k all g with
  |some og=>match og.dst with
   |some d=>d::a3o o.op.operands.toList
   |none=>a3o o.op.operands.toList
  |none=>a3o o.op.operands.toList
 |none=>a3o o.op.operands.toList
def a5K(before:List Nat):List Edge→Bool
 | []=>true
 |e::r=>match a1M e with
  |true=>match a8z e.on before with|true=>a5K before r|false=>false
  |false=>a5K before r
def a1S(all:List Oper)(i:Nat):Option Nat:=match a0k all i with|some o=>o.dst|none=>none
def a0y(all:List Oper)(i:Nat):List Nat:=match a0k all i with|some o=>looks all o|none=>[]
def b1h(d:Nat):Option Nat→Bool|some d'=>Nat.beq d d'|none=>false
def b2y(all:List Oper)(d i:Nat):Bool:=match a8z d (a0y all i)with|true=>true|false=>b1h d (a1S all i)
def upto:Nat→Nat→List Nat
 |0,_=>[]
 |n+1,i=>i::upto n (i+1)
def tame(all:List Oper)(mk:List Nat)(x d:Nat):List Nat→Bool
 | []=>true
 |i::l=>match Nat.beq x i with
  |true=>match a8z d (a0y all i)with|true=>false|false=>tame all mk x d l
  |false=>match b2y all d i with
   |false=>tame all mk x d l
   |true=>match rch mk x i with|true=>tame all mk x d l|false=>false
def a4G(all:List Oper)(mk:List Nat)(x d:Nat):List Nat→Bool
 | []=>true
 |i::l=>match Nat.beq x i with
  |true=>a4G all mk x d l
  |false=>match b2y all d i with
   |false=>a4G all mk x d l
   |true=>match rch mk x i with
    |true=>a4G all mk x d l
    |false=>match rch mk i x with|true=>a4G all mk x d l|false=>false
def isU:Op→Bool
 |.move _|.build _ _|.makeInterface _ _=>true
 |_=>false
def evU(P:Program)(o:Op)(a:VT):Option VV:=
 match o with
 |.move x=>a0C a x
 |.build t ⟨parts⟩=>match a0z a parts with
  |some ps=>a6k P t ps
  |none=>none
 |.makeInterface t x=>match P.underlying t,a0C a x with
  |some d,some v=>match a1I d with
   |true=>some (.iface t v)
   |false=>none
  |_,_=>none
 |_=>none
def behind(mk:List Nat)(x:Nat):List Nat→Nat
 | []=>0
 |e::l=>match rch mk e x with|true=>Nat.lor (b4h mk e) (behind mk x l)|false=>behind mk x l
def b5G(mk:List Nat)(late:Nat)(es:List Nat)(x:Nat):Bool:=
 match Nat.beq (Nat.land (b4h mk x) late) 0 with
 |true=>false
 |false=> !(Nat.beq (Nat.land (b4h mk x) (Nat.xor late (Nat.land late (behind mk x es)))) 0)
def kindOf(P:Program)(all:List Oper)(mk:List Nat)(n late:Nat)(es:List Nat)(x:Nat)(o:Oper):SK:=match cls P o.op with
 |0=>match o.dst with
  |some d=>match tame all mk x d (upto n 0)with
   |true=>match b5G mk late es x with
    |false=>.r
    |true=>match o.guard,isU o.op with|none,true=>.a|_,_=>.e
   |false=>.e
  |none=>.r
 |1=>match o.dst with
  |some d=>match tame all mk x d (upto n 0)with
   |true=>match b5G mk late es x with
    |false=>.r
    |true=>.e
   |false=>.e
  |none=>.r
 |2=>.a
 |_=>.e
def kinds(P:Program)(all:List Oper)(mk:List Nat)(n:Nat):Nat→List Nat→Nat→List Oper→List SK
 |_,_,_,[]=>[]
 |late,es,x,o::l=>match kindOf P all mk n late es x o with
  |.a=>.a::kinds P all mk n (Nat.lor late (2^x)) es (x+1) l
  |.e=>.e::kinds P all mk n late (x::es) (x+1) l
  |.r=>.r::kinds P all mk n late es (x+1) l
def b2S(all:List Oper)(x d:Nat):List Nat→Bool
 | []=>true
 |i::l=>match Nat.beq x i with
  |true=>b2S all x d l
  |false=>match b1h d (a1S all i)with
   |true=>false
   |false=>b2S all x d l
def a7O(all:List Oper)(ks:List SK)(mk:List Nat)(n x:Nat):Bool:=match a1S all x with
 |none=>true
 |some d=>match a1N ks x with
  |.e=>a4G all mk x d (upto n 0)
  |.a=>match tame all mk x d (upto n 0)with
   |true=>b2S all x d (upto n 0)
   |false=>false
  |.r=>tame all mk x d (upto n 0)
def a7V(ks:List SK)(mk:List Nat)(i:Nat):List Nat→Bool
 | []=>true
 |k::r=>match a1N ks k with
  |.a=>a7V ks mk i r
  |.e=>rch mk i k
  |.r=>false
def effs(ks:List SK)(mk:List Nat)(i:Nat):List Nat→Bool
 | []=>true
 |e::l=>match a1N ks e with
  |.e=>match rch mk e i with|true=>effs ks mk i l|false=>false
  |_=>effs ks mk i l
def a5Z(all:List Oper)(ks:List SK)(mk:List Nat):List Nat→List Nat→Bool
 |_,[]=>true
 |before,i::rest=>
  match a0k all i with
  |none=>false
  |some o=>match a8z i before with
   |true=>false
   |false=>match a5K before o.after.toList with
    |false=>false
    |true=>match(match a1N ks i with
      |.a=>match o.guard with|none=>a7V ks mk i rest|some _=>false
      |_=>effs ks mk i before)with
     |true=>a5Z all ks mk (i::before) rest
     |false=>false
def b4v(all:List Oper)(mk:List Nat)(i:Nat):List Nat→Bool
 | []=>true
 |x::l=>match a1S all x with
  |none=>b4v all mk i l
  |some d=>match a8z d (a0y all i)with
   |false=>b4v all mk i l
   |true=>match rch mk x i with
    |true=>b4v all mk i l
    |false=>false
def a9o(all:List Oper)(ks:List SK)(mk:List Nat)(n:Nat):List Nat→Bool
 | []=>true
 |i::l=>match a1N ks i with
  |.a=>match b4v all mk i (upto n 0)with
   |true=>a9o all ks mk n l
   |false=>false
  |_=>a9o all ks mk n l
def b5g(all:List Oper)(ks:List SK)(mk ord:List Nat)(n:Nat):Bool:=
 match a5Z all ks mk [] ord with
 |false=>false
 |true=>match b6V (fun i=>a8z i ord) (upto n 0)with
  |false=>false
  |true=>match a9o all ks mk n (upto n 0)with
   |false=>false
   |true=>b6V (fun x=>a7O all ks mk n x) (upto n 0)
def b7d(a b:VA):Bool:=match a.b,b.b with
 |.base r,.base s=>match Nat.beq r s with|true=>Nat.beq a.o b.o|false=>false
 |.loc r,.loc s=>match Nat.beq r s with|true=>Nat.beq a.o b.o|false=>false
 |.sym r,.sym s=>match Nat.beq r s with|true=>Nat.beq a.o b.o|false=>false
 |_,_=>false
mutual
def a2T:VV→VV→Bool
 |.bool a,.bool b=>match a,b with|true,true=>true|false,false=>true|_,_=>false
 |.int k a,.int k' b=>match kEq k k' with|true=>decide (a=b)|false=>false
 |.string a,.string b=>a6w a b
 |.ptr none,.ptr none=>true
 |.ptr (some a),.ptr (some b)=>b7d a b
 |.slice none l c,.slice none l' c'=>match Nat.beq l l' with|true=>Nat.beq c c'|false=>false
 |.slice (some a) l c,.slice (some b) l' c'=>match b7d a b with
  |true=>match Nat.beq l l' with|true=>Nat.beq c c'|false=>false
  |false=>false
 |.map none,.map none=>true
 |.nilFunc,.nilFunc=>true
 |.sint k i,.sint k' j=>match kEq k k' with|true=>Nat.beq i j|false=>false
 |.sym i,.sym j=>Nat.beq i j
 |.func (.func f) a b,.func (.func g) c d=>match Nat.beq f g with
  |true=>match vvsEq a c with|true=>vvsEq b d|false=>false
  |false=>false
 |.nilIface,.nilIface=>true
 |.iface t x,.iface u y=>match Nat.beq t u with|true=>a2T x y|false=>false
 |.agg a,.agg b=>vvsEq a b
 |.tuple a,.tuple b=>vvsEq a b
 |_,_=>false
def vvsEq:List VV→List VV→Bool
 | [],[]=>true
 |x::a,y::b=>match a2T x y with|true=>vvsEq a b|false=>false
 |_,_=>false
end
def still(P:Program)(a:VT)(H:VH)(o:Oper):Bool:=match(evR P o.op a H).get with
 |some v=>match o.dst with
  |some d=>a2T v (a1d a d)
  |none=>true
 |none=>false
def a3r(P:Program)(all:List Oper)(mk:List Nat)(e:Nat)(a:VT)(H:VH):List Nat→Bool
 | []=>true
 |p::l=>match(match rch mk p e with
   |true=>true
   |false=>match a0k all p with
    |some o=>still P a H o
    |none=>false)with
  |true=>a3r P all mk e a H l
  |false=>false
def a4z(mk:List Nat)(e:Nat):List Nat→List Nat
 | []=>[]
 |p::l=>match rch mk p e with|true=>a4z mk e l|false=>p::a4z mk e l
def b7B:Nat→List VV
 |0=>[]
 |n+1=>.one::b7B n
def a4a(P:Program)(t:TypeId):VV:=match P.underlying t with
 |some d=>match b6c d with
  |true=>.agg (b7B (a2b P t))
  |false=>.one
 |none=>.one
def b0V:List VV→List VV→Bool
 | [],[]=>true
 |x::l,.one::m=>match a7C x with|true=>b0V l m|false=>false
 |_,_=>false
def b1t:VV→VV→Bool
 |x,.one=>a7C x
 |.agg cs,.agg ms=>b0V cs ms
 |_,_=>false
def a1c(P:Program):List Oper→List SK→List (Nat×VV)
 |o::l,.a::ks=>match o.dst with
  |some d=>(d,a4a P o.type)::a1c P l ks
  |none=>a1c P l ks
 |_::l,_::ks=>a1c P l ks
 |_,_=>[]
def a2V:List (Nat×VV)→VT→VT
 | [],a=>a
 |(d,v)::l,a=>a2V l (a.put d v)
def b5w:VV→Bool
 |.one=>true
 |_=>false
def a7S(P:Program)(ld:List (Nat×VV))(o:Oper)(a:VT):Bool:=match isU o.op with
 |true=>match evU P o.op (a2V ld a)with
  |some v=>b1t v (a4a P o.type)
  |none=>false
 |false=>match a2y P o.op (a2V ld a)with
  |some _=>b5w (a4a P o.type)
  |none=>false
def a8b(P:Program)(fe:FE)(nt:Nat)(all:List Oper)(ks:List SK)(mk:List Nat)(ld:List (Nat×VV)):List Nat→VT→VH→List Nat→Option (VT×VH)
 | [],a,H,_=>some (a,H)
 |i::rest,a,H,pd=>
  match a0k all i with
  |none=>none
  |some o=>match gOk all a o.guard with
   |false=>none
   |true=>match a1T all a o.guard with
    |false=>match a4o nt a o.dst a3D with
     |some a₁=>a8b P fe nt all ks mk ld rest a₁ H pd
     |none=>none
    |true=>match a1N ks i with
     |.r=>match(evR P o.op a H).get with
      |some v=>match a4o nt a o.dst v with
       |some a₁=>a8b P fe nt all ks mk ld rest a₁ H (match cls P o.op with|0=>pd|_=>i::pd)
       |none=>none
      |none=>none
     |.e=>match a2g P fe o.op a H with
      |some (v,H₁)=>match a3r P all mk i a H₁ pd with
       |true=>match a4o nt a o.dst v with
        |some a₁=>a8b P fe nt all ks mk ld rest a₁ H₁ (a4z mk i pd)
        |none=>none
       |false=>none
      |none=>none
     |.a=>match a7S P ld o a with
      |false=>none
      |true=>match a2g P fe o.op a H with
       |some (v,H₁)=>match a3r P all mk i a H₁ pd with
        |true=>match a4o nt a o.dst v with
         |some a₁=>a8b P fe nt all ks mk ld rest a₁ H₁ (a4z mk i pd)
         |none=>none
        |false=>none
       |none=>none
def b7J(nt:Nat):List (Nat×VV)→Bool
 | []=>true
 |(d,_)::l=>match Nat.blt d nt with|true=>b7J nt l|false=>false
def b5N(P:Program)(fe:FE)(nt:Nat)(all:List Oper)(ks:List SK)(mk:List Nat)(ord:List Nat)(ld:List (Nat×VV))(a:VT)(H:VH):Option (VT×VH):=
 match b5g all ks mk ord all.length with
 |true=>match b7J nt ld with
  |true=>a8b P fe nt all ks mk ld ord a H []
  |false=>none
 |false=>none
def b7V(P:Program)(fe:FE)(nt:Nat)(all:List Oper)(ks:List SK)(mk:List Nat)(a:VT)(H:VH):Option (VT×VH):=
 b5N P fe nt all ks mk (b1K ks mk all.length) (a1c P all ks) a H
def a6o(P:Program)(fe:FE):DE:=fun nt all a H=>
 b7V P fe nt all (kinds P all (a3m all []) all.length 0 [] 0 all) (a3m all []) a H
def b7n(P:Program)(n:Nat)(f:FuncId):Bool:=
 match(evN P (a6o P) n).2.call f [] ⟨Env.none,.lf,0⟩with
 |some (.bool b,_)=>b
 |_=>false
end
end Go.Ev
