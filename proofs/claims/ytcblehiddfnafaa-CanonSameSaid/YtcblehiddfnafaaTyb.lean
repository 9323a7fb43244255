/-
  Regions that read boxes, compare and call, in any order: reckoned by the kernel.
-/
import Derived.Test.YtcblehiddfnafaaTya
namespace Go.Proofs.Ytcblehiddfnafaa.canonSame
open Go.Shelf Go.RowKit Go.Lib Go.Sort
structure Ga(base:Nat→Nat)(m:Nat)(df:List Deferred)(known:List (Nat×Sy))(a:Act):Prop where
 k: ∀k s,look k known=some s→a.tmps[k]? =some (s.den base)
 m:a.tmps.size=m
 d:a.defers=df
theorem Ga.put{base:Nat→Nat}{m:Nat}{df:List Deferred}{known:List (Nat×Sy)}{a:Act}(h:Ga base m df known a){d:Nat}(hd:d<m)(y:Sy):Ga base m df ((d,y)::known) (a.put (some d) (y.den base)):=by
 refine⟨fun k s' hl=> ?_,by simpa[Act.put]using h.m,h.d⟩
 simp only[look]at hl
 simp only[Act.put,Array.getElem?_setIfInBounds]
 split at hl
 ·rename_i hbe
  injection hl with hl
  subst hl
  have:=Nat.eq_of_beq_eq_true hbe
  subst this
  rw[if_pos rfl,if_pos (show d<a.tmps.size from by rw[h.m];exact hd)]
 ·rename_i hbe
  have:d≠k:=fun e=>hbe (by rw[e];exact Nat.beq_refl k)
  rw[if_neg this]
  exact h.k k s' hl
section
variable{P:Program}{fo:TypeId→Nat→Option Nat}{pls sls:List Nat}{cell:Nat→Nat→Option Value}{base:Nat→Nat}
def b4B(fo:TypeId→Nat→Option Nat)(pls sls:List Nat)(cell:Nat→Nat→Option Value)(m:Nat)(opsL:List Oper):Ps→Array Bool→List Nat→Option (Ps×Array Bool)
 |s,li,[]=>some (s,li)
 |s,li,i::is=>match opsL[i]? with
  |none=>none
  |some o=>match Region.free .any opsL.toArray li i&&(Region.ready .any opsL.toArray li).contains i with
   |false=>none
   |true=>match b1Y fo pls sls cell 0 m opsL s o with
    |none=>none
    |some s'=>b4B fo pls sls cell m opsL s' (li.setIfInBounds i true) is
theorem b3v(F:PF P fo pls sls){S:World→Prop}(hC: ∀w,S w→ ∀i off v,cell i off=some v→w.cell? ⟨base i,off,none⟩=some v){opsL:List Oper}{m:Nat}{df:List Deferred}{s s':Ps}{o:Oper}{a:Act}(hs:b1Y fo pls sls cell 0 m opsL s o=some s')(g:Ga base m df s.known a)(hc:Cmp.all s'.cmps):
  ∃d y,o.dst=some d∧d<m∧s'.known=(d,y)::s.known∧Cmp.all s.cmps∧YieldsIf P opsL.toArray S o (y.den base) a:=by
 unfold b1Y at hs
 split at hs
 ·cases hs
 ·rename_i d hd
  split at hs
  ·rename_i hnm
   simp only[Bool.and_eq_true]at hnm
   have h2:d<m:=by
    have:=hnm.2
    unfold Nat.blt at this
    exact Nat.le_of_ble_eq_true this
   split at hs
   ·cases hs
   ·rename_i hw
    simp only[Option.some.injEq]at hs
    subst hs
    exact⟨d,.val undef,hd,h2,rfl,hc,.inr ⟨a2q (opsA:=opsL.toArray) g.k hw,rfl⟩⟩
   ·rename_i hw
    simp only[Option.map_eq_some_iff]at hs
    obtain⟨r,hop,rfl⟩:=hs
    obtain⟨c3,c4⟩:=Cmp.all_app hc
    exact⟨d,r.1,hd,h2,rfl,c4,.inl ⟨a2q (opsA:=opsL.toArray) g.k hw,fun w hS=>b5F F (hC w hS) g.k hop c3⟩⟩
  ·cases hs
theorem a4u(F:PF P fo pls sls){S:World→Prop}(hC: ∀w,S w→ ∀i off v,cell i off=some v→w.cell? ⟨base i,off,none⟩=some v){opsL:List Oper}{m:Nat}{df:List Deferred}{Q:Exit→Act→World→Prop}(hsel:Region.noSelect opsL.toArray=true)(hQ: ∀c a d v w,Q (.panic c) (Act.put a d v) w→Q (.panic c) a w):
  ∀{is:List Nat} {s sf:Ps} {li lf:Array Bool} {a:Act} {w:World} {fuel:Nat},b4B fo pls sls cell m opsL s li is=some (sf,lf)→Cmp.all sf.cmps→Ga base m df s.known a→S w→(∀a',Ga base m df sf.known a'→wpAnyH P .any opsL.toArray Q S fuel lf a' w)→Cmp.all s.cmps∧wpAnyH P .any opsL.toArray Q S (fuel+is.length) li a w
 | [],s,sf,li,lf,a,w,fuel,h,hc,g,hS,K=>by
  simp only[b4B,Option.some.injEq,Prod.mk.injEq]at h
  obtain⟨rfl,rfl⟩:=h
  exact⟨hc,K a g⟩
 |i::is,s,sf,li,lf,a,w,fuel,h,hc,g,hS,K=>by
  simp only[b4B]at h
  split at h
  ·cases h
  ·rename_i o ho
   split at h
   ·cases h
   ·rename_i hb
    rw[Bool.and_eq_true]at hb
    split at h
    ·cases h
    ·rename_i s' hs
     have pre:Cmp.all s'.cmps:=by
      by_cases hd: ∃d y,o.dst=some d∧d<m∧s'.known=(d,y)::s.known
      ·obtain⟨d,y,hd,h2,hk⟩:=hd
       exact(a4u (a:=a.put (some d) (y.den base)) (w:=w) (fuel:=fuel) F hC hsel hQ h hc (by rw[hk];exact g.put h2 y) hS K).1
      ·exfalso
       apply hd
       unfold b1Y at hs
       split at hs
       ·cases hs
       ·rename_i d hd2
        split at hs
        ·rename_i hnm
         simp only[Bool.and_eq_true]at hnm
         have h2:d<m:=by
          have:=hnm.2
          unfold Nat.blt at this
          exact Nat.le_of_ble_eq_true this
         split at hs
         ·cases hs
         ·simp only[Option.some.injEq]at hs
          subst hs
          exact⟨d,_,hd2,h2,rfl⟩
         ·simp only[Option.map_eq_some_iff]at hs
          obtain⟨r,_,rfl⟩:=hs
          exact⟨d,_,hd2,h2,rfl⟩
        ·cases hs
     obtain⟨d,y,hd,h2,hk,h4,h5⟩:=b3v F hC hs g pre
     have ih:=a4u (a:=a.put (some d) (y.den base)) (w:=w) (fuel:=fuel) F hC hsel hQ h hc (by rw[hk];exact g.put h2 y) hS K
     refine⟨h4, ?_⟩
     have hi:opsL.toArray[i]? =some o:=by simpa using ho
     refine wpAnyH_take (fuel:=fuel+is.length) hi hsel hb.1 hb.2 (fun c a w hq=>hQ c a _ _ w hq) h5 hS ?_
     rw[hd]
     exact ih.2
theorem b6O{S:World→Prop}{opsL:List Oper}{m:Nat}{df:List Deferred}{Q:Exit→Act→World→Prop}{i d f:Nat}{o:Oper}{s:Ps}{li:Array Bool}{a:Act}{w:World}{fuel:Nat}{args:Array Value}{v:World→Value→Prop}{R:World→Prop}
  (ho:opsL[i]? =some o) (hd:o.dst=some d) (_hm:Nat.blt d m=true) (hr:Region.ready .any opsL.toArray li= [i]) (hw:a5W opsL s o=some true) (g:Ga base m df s.known a)
  (he:(execOp a.eval o).run P w= .ok (.enter f args) w) (hcall:Calls P f args w fun e w'=> ∃u,e= .returned u∧v w' u∧S w'∧R w')
  (K: ∀w' u,v w' u→S w'→R w'→wpAnyH P .any opsL.toArray Q S fuel (li.setIfInBounds i true) (a.put (some d) u) w'):wpAnyH P .any opsL.toArray Q S (fuel+1) li a w:=by
 refine wpAnyH_all hr (by simp) fun j hj=> ?_
 rw[List.mem_singleton]at hj
 subst hj
 have hi:opsL.toArray[j]? =some o:=by simpa using ho
 unfold Go.wpOp
 simp only[hi]
 rw[a2q (opsA:=opsL.toArray) g.k hw,if_pos rfl]
 left
 unfold Oper.wp
 rw[he]
 refine Calls.mono hcall ?_
 rintro e w' ⟨u,rfl,h1,h2,h3⟩
 rw[hd]
 exact⟨h2,K w' u h1 h2 h3⟩
theorem b8C{opsL tail:List Oper}{m:Nat}{df:List Deferred}{Q:Exit→Act→World→Prop}{d f:Nat}{o:Oper}{s:Ps}{a:Act}{w:World}{args:Array Value}{v:World→Value→Prop}
  (hd:o.dst=some d) (hw:a5W opsL s o=some true) (g:Ga base m df s.known a) (he:(execOp a.eval o).run P w= .ok (.enter f args) w) (hcall:Calls P f args w fun e w'=> ∃u,e= .returned u∧v w' u)
  (K: ∀w' u,v w' u→wpList P opsL.toArray Q tail (a.put (some d) u) w'):wpList P opsL.toArray Q (o::tail) a w:=by
 unfold wpList
 rw[a2q (opsA:=opsL.toArray) g.k hw,if_pos rfl]
 left
 unfold Oper.wp
 rw[he]
 refine Calls.mono hcall ?_
 rintro e w' ⟨u,rfl,h1⟩
 rw[hd]
 exact K w' u h1
theorem a9R{o:Oper}{x:Operand}{xs:Array Operand}{ts:Array TypeId}{f:Nat}{a:Act}{w:World}{args:Array Value}(hop:o.op= .call {callee:=.value x,args:=xs,argTypes:=ts})(hx:a.eval x= .func (.func f) #[] #[])(ha:xs.map a.eval=args)(hf: ∀args w,(callFunc f args).run P w= .ok (.enter f args) w):(execOp a.eval o).run P w= .ok (.enter f args) w:=by
 unfold execOp
 simp only[hop,resolve,invoke,hx,Sem.run_bind,ha]
 go_simp
end
end Go.Proofs.Ytcblehiddfnafaa.canonSame
namespace Go.Proofs.Ytcblehiddfnafaa.canonSame
open Go.Shelf Go.RowKit Go.Lib Go.Sort
def Two(c:Bool→Cmp):Prop:=((c true).ok∨(c false).ok)∧((c true).ok→(c false).ok→False)
theorem a9r(a b:Int):Two fun r=>.int true a b r:=by
 constructor
 ·cases h:(a==b)
  ·exact .inr h
  ·exact .inl h
 ·intro h1 h2
  have h1':(a==b)=true:=h1
  have h2':(a==b)=false:=h2
  rw[h1']at h2'
  cases h2'
theorem a7d(a b:Bool):Two fun r=>.bool true a b r:=by
 constructor
 ·cases h:(a==b)
  ·exact .inr h
  ·exact .inl h
 ·intro h1 h2
  have h1':(a==b)=true:=h1
  have h2':(a==b)=false:=h2
  rw[h1']at h2'
  cases h2'
def b0E:List (Bool→Cmp)→List Cmp→Nat→List Cmp
 | [],acc,_=>acc
 |c::_,acc,0=>c false::acc
 |c::cl,acc,j+1=>b0E cl (c true::acc) j
theorem a8o: ∀(cl:List (Bool→Cmp)) (acc:List Cmp),(∀c∈cl,(c true).ok)→Cmp.all acc→Cmp.all (b0E cl acc cl.length)
 | [],_acc,_,h=>h
 |c::cl,acc,h,ha=>a8o cl (c true::acc) (fun d hd=>h d (List.mem_cons_of_mem _ hd)) ⟨h c (List.mem_cons_self ..),ha⟩
theorem a6F: ∀(cl:List (Bool→Cmp)) (acc:List Cmp),(∀c∈cl,Two c)→Cmp.all acc→(∀c∈cl,(c true).ok)∨ ∃j,j<cl.length∧Cmp.all (b0E cl acc j)∧ ∃c,c∈cl∧(c false).ok
 | [],acc,_,_=>.inl (by simp)
 |c::cl,acc,h,ha=>by
  rcases(h c (List.mem_cons_self ..)).1 with ht|hf
  ·rcases a6F cl (c true::acc) (fun d hd=>h d (List.mem_cons_of_mem _ hd)) ⟨ht,ha⟩with h1|⟨j,h1,h2,d,h3,h4⟩
   ·left
    intro d hd
    rcases List.mem_cons.1 hd with rfl|hd
    ·exact ht
    ·exact h1 d hd
   ·exact .inr ⟨j+1,by simpa using h1,h2,d,List.mem_cons_of_mem _ h3,h4⟩
  ·exact .inr ⟨0,by simp,⟨hf,ha⟩,c,List.mem_cons_self ..,hf⟩
section
variable{P:Program}{fo:TypeId→Nat→Option Nat}{pls sls:List Nat}{cell:Nat→Nat→Option Value}{base:Nat→Nat}{w:World}
def b5t(fo:TypeId→Nat→Option Nat)(pls sls:List Nat)(cell:Nat→Nat→Option Value)(m:Nat)(opsL:List Oper)(known:List (Nat×Sy))(t j:Nat):Option (List Cmp):=
 match a6D fo pls sls cell 0 m opsL ⟨known,List.replicate j true++ [false],[]⟩ opsL with
 |none=>none
 |some s=>match look t s.known with
  |some (.val (.bool false))=>some s.cmps
  |_=>none
def b4X(s:Ps)(c:Call):Option (Nat×Value×Value):=
 match c.callee,c.args.toList with
 |.value (.func f),[x,y]=>match evS s.known x,evS s.known y with
  |some (.val v0),some (.val v1)=>some (f,v0,v1)
  |_,_=>none
 |_,_=>none
def b7K(fo:TypeId→Nat→Option Nat)(pls sls:List Nat)(cell:Nat→Nat→Option Value)(m:Nat)(opsL:List Oper)(known:List (Nat×Sy))(n p t:Nat)(q:Bool):Option (List Cmp×Nat×Value×Value×Bool):=
 match a6D fo pls sls cell 0 m opsL ⟨known,List.replicate n true,[]⟩ (opsL.take p),opsL.drop p with
 |some s,o::rest=>match o.dst,o.op with
  |some d,.call c=>match a5W opsL s o,Nat.blt d m,b4X s c with
   |some true,true,some (f,v0,v1)=>match a6D fo pls sls cell 0 m opsL ⟨(d,.val (.bool q))::s.known,[],[]⟩ rest with
    |some s2=>match look t s2.known,s2.cmps with
     |some (.val (.bool r)),[]=>some (s.cmps,f,v0,v1,r)
     |_,_=>none
    |none=>none
   |_,_,_=>none
  |_,_=>none
 |_,_=>none
theorem b4W{s:Ps}{c:Call}{f:Nat}{v0 v1:Value}(h:b4X s c=some (f,v0,v1)){a:Act}(hk: ∀k s',look k s.known=some s'→a.tmps[k]? =some (s'.den base))(hf: ∀args w,(callFunc f args).run P w= .ok (.enter f args) w){o:Oper}(ho:o.op= .call c)(w:World):
  (execOp a.eval o).run P w= .ok (.enter f #[v0,v1]) w:=by
 unfold b4X at h
 split at h
 ·rename_i x y z u hc hxs
  split at h
  ·rename_i e1 e2
   simp only[Option.some.injEq,Prod.mk.injEq]at h
   obtain⟨rfl,rfl,rfl⟩:=h
   obtain⟨c0,xs,ts⟩:=c
   simp only at hc hxs
   subst hc
   obtain⟨xs⟩:=xs
   simp only at hxs
   subst hxs
   refine a9R ho rfl ?_ hf
   have g1:=a0h (base:=base) hk e1
   have g2:=a0h (base:=base) hk e2
   simp only[Sy.den]at g1 g2
   simp[g1,g2]
  ·cases h
 ·cases h
theorem a4F(F:PF P fo pls sls)(hC: ∀i off v,cell i off=some v→ ∀w',Gr w w'→w'.cell? ⟨base i,off,none⟩=some v){id f t p:Nat}{opsL:List Oper}{l:List Value}{df:List Deferred}{Q:Exit→Act→World→Prop}{v0 v1:Value}(known:List (Nat×Sy))(cl:List (Bool→Cmp))(h2: ∀c∈cl,Two c)
  (hmiss:(List.range cl.length).map (fun j=>b5t fo pls sls cell l.length opsL known t j)=(List.range cl.length).map fun j=>some (b0E cl [] j))
  (hlast: ∀q,b7K fo pls sls cell l.length opsL known cl.length p t q=some (b0E cl [] cl.length,f,v0,v1,q))
  (hk: ∀k s,look k known=some s→l[k]? =some (s.den base))
  (hf: ∀args w,(callFunc f args).run P w= .ok (.enter f args) w)
  (K0: ∀a',a'.defers=df→a'.tmps[t]? =some (.bool false)→(∃c,c∈cl∧(c false).ok)→Q .normal a' w)
  (K1:(∀c∈cl,(c true).ok)→Calls P f #[v0,v1] w fun e w'=> ∃q,e= .returned (.bool q)∧Gr w w'∧ ∀a',a'.defers=df→a'.tmps[t]? =some (.bool q)→Q .normal a' w'):
  Code.wp P (.region id opsL.toArray false) Q ⟨l.toArray,df⟩ w:=by
 refine wp_region_list ?_
 have hC0: ∀i off v,cell i off=some v→w.cell? ⟨base i,off,none⟩=some v:=fun i off v h=>hC i off v h w (Gr.refl w)
 have hk': ∀k s',look k known=some s'→(Act.tmps ⟨l.toArray,df⟩)[k]? =some (s'.den base):=fun k s' hl=>by simpa using hk k s' hl
 rcases a6F cl [] h2 trivial with hall|⟨j,hj,hc,c,hm,hcf⟩
 ·have hl:=hlast
  unfold b7K at hl
  cases hr:a6D fo pls sls cell 0 l.length opsL ⟨known,List.replicate cl.length true,[]⟩ (opsL.take p)with
  |none=>rw[hr]at hl;cases hl true
  |some s=>
   rw[hr]at hl
   cases hd:opsL.drop p with
   |nil=>rw[hd]at hl;cases hl true
   |cons o rest=>
    rw[hd]at hl
    simp only at hl
    cases hod:o.dst with
    |none=>rw[hod]at hl;cases hl true
    |some d=>
     rw[hod]at hl
     cases hop:o.op with
     |call c=>
      rw[hop]at hl
      simp only at hl
      cases hw:a5W opsL s o with
      |none=>rw[hw]at hl;cases hl true
      |some b=>cases b with
       |false=>rw[hw]at hl;cases hl true
       |true=>
        cases hm:Nat.blt d l.length with
        |false=>rw[hw,hm]at hl;cases hl true
        |true=>
         cases hq:b4X s c with
         |none=>rw[hw,hm,hq]at hl;cases hl true
         |some r=>
          obtain⟨f',v0',v1'⟩:=r
          rw[hw,hm,hq]at hl
          simp only at hl
          have hl2:f'=f∧v0'=v0∧v1'=v1∧s.cmps=b0E cl [] cl.length:=by
           have:=hl true
           split at this
           ·split at this
            ·simp only[Option.some.injEq,Prod.mk.injEq]at this
             exact⟨this.2.1,this.2.2.1,this.2.2.2.1,this.1⟩
            ·cases this
           ·cases this
          obtain⟨rfl,rfl,rfl,hcm⟩:=hl2
          have hd1:d<l.length:=by unfold Nat.blt at hm;exact Nat.le_of_ble_eq_true hm
          have e0:opsL=opsL.take p++o::rest:=by rw[←hd];simp
          show wpList P opsL.toArray _ opsL _ _
          conv=>arg 4;rw[e0]
          refine(a4t (opsA:=opsL.toArray) (tail:=o::rest) F hC0 (m:=l.length) (n:=0) hr (by rw[hcm];exact a8o _ _ hall trivial) (by simp) hk' (fun a' e1 e2 _ e4=> ?_)).2
          refine b8C (s:=s) hod hw ⟨e4,e2,e1⟩ (b4W hq e4 hf hop w) (v:=fun w' u=> ∃q,u= .bool q∧Gr w w'∧ ∀a',a'.defers=df→a'.tmps[t]? =some (.bool q)→Q .normal a' w') ?_ ?_
          ·refine(K1 hall).mono ?_
           rintro e w' ⟨q,rfl,h1,h2⟩
           exact⟨_,rfl,q,rfl,h1,h2⟩
          ·rintro w' u ⟨q,rfl,hg,hQ⟩
           have hq2:=hl q
           split at hq2
           ·rename_i s2 hr2
            split at hq2
            ·rename_i r hlk hcm2
             simp only[Option.some.injEq,Prod.mk.injEq]at hq2
             obtain⟨_,_,_,_,rfl⟩:=hq2
             have g0:Ga base l.length a'.defers s.known a':=⟨e4,e2,rfl⟩
             have g1:=g0.put hd1 (.val (.bool r))
             have e5:rest=rest++ []:=by simp
             rw[e5]
             refine(a4t (opsA:=opsL.toArray) (tail:=[]) (w:=w') F (fun i off v h=>hC i off v h w' hg) (m:=l.length) (n:=0) hr2 (by rw[hcm2];trivial) g1.m g1.k (fun a2 h1 h2 _ h4=> ?_)).2
             exact hQ a2 (by rw[h1,g1.d,e1]) (h4 t _ hlk)
            ·cases hq2
           ·cases hq2
     |_=>rw[hop]at hl;cases hl true
 ·have hj1:b5t fo pls sls cell l.length opsL known t j=some (b0E cl [] j):=by
   have:=congrArg (fun l=>l[j]?) hmiss
   simpa[hj]using this
  unfold b5t at hj1
  split at hj1
  ·cases hj1
  ·rename_i s hr
   split at hj1
   ·rename_i hlk
    simp only[Option.some.injEq]at hj1
    have e0:opsL=opsL++ []:=by simp
    show wpList P opsL.toArray _ opsL _ _
    conv=>arg 4;rw[e0]
    refine(a4t (opsA:=opsL.toArray) (tail:=[]) F hC0 (m:=l.length) (n:=0) hr (by rw[hj1];exact hc) (by simp) hk' (fun a' e1 _ _ e4=> ?_)).2
    exact K0 a' e1 (e4 t _ hlk) ⟨c,hm,hcf⟩
   ·cases hj1
end
end Go.Proofs.Ytcblehiddfnafaa.canonSame
namespace Go.Proofs.Ytcblehiddfnafaa.canonSame
open Go.Shelf Go.RowKit Go.Lib Go.Sort
theorem a2r{P:Program}{fn:Func}{R:Ending→World→Prop}{a:Act}{w:World}{t:Tmp}{v:Value}(hr:fn.results= #[.tmp t])(ht:a.tmps[t]? =some v)(hd:a.defers= [])(h:R (.returned v) w):bodyPost P fn R .ret a w:=by
 refine bodyPost_ret (v:=v) ?_ hd h
 rw[results_tmp hr,Array.getD_eq_getD_getElem?,ht]
 rfl
def a5H(x:Cad)(v:Value):List Value:=[.int .i64 x.kind,.int .i64 x.obj,.int .i64 x.abil,v,.bool x.paying]
set_option maxHeartbeats 4000000 in
set_option maxRecDepth 100000 in
theorem b6p{P:Program}{k29 k31 k41 k43 k45 k66 k97:Nat}{y29 y31 y41 y43 y45 y66 y97:List Value}(L:LayS P k29 k31 k41 k43 k45 k66 k97 y29 y31 y41 y43 y45 y66 y97)(hk0: ¬k29=0)(hk:k41=14)(f53:P.funcs[53]? =some Try.f53)(e74: ∀args w,(callFunc 74 args).run P w= .ok (.enter 74 args) w)
  (x y:Obd) (a b:Option Addr) (c d:Nat) (w:World) (h: ∀W,Gr w W→Calls P 74 #[.slice a x.effs.length c,.slice b y.effs.length d] W fun e w'=>e= .returned (.bool (decide (x.effs=y.effs)))∧Gr W w'):
  Calls P 53 #[.agg (obV x (.slice a x.effs.length c)).toArray,.agg (obV y (.slice b y.effs.length d)).toArray] w fun e w'=>e= .returned (.bool (decide (x=y)))∧Gr w w':=by
 have qu41:=run_underlying L.t41;have t41:=L.t41;have a41:=L.a41;have z41:=L.z41;have v41:=L.v41
 have H0:Hid (¬k29=0):=hk0
 obtain⟨g0,c1,c2⟩:=a0W w (obV x (.slice a x.effs.length c)) (obV y (.slice b y.effs.length d)) 41 41
 have hcl:=h _ g0
 have lx:(obV x (.slice a x.effs.length c)).length=k41:=by rw[hk];rfl
 have ly:(obV y (.slice b y.effs.length d)).length=k41:=by rw[hk];rfl
 have C1:Aside _:=c1
 have C2:Aside _:=c2
 have G0:Aside (Gr w _):=g0
 have HC:Aside _:=hcl
 clear h hcl c1 c2 g0 hk hk0
 generalize hX0:obV x (.slice a x.effs.length c)=X0 at C1 C2 G0 HC lx ⊢
 have HX0:Hid _:=hX0
 generalize hY0:obV y (.slice b y.effs.length d)=Y0 at C1 C2 G0 HC ly ⊢
 have HY0:Hid _:=hY0
 clear hX0 hY0
 go_enter f53,Try.ntmps53
 go_upto_region 1 with fail
 generalize (w.alloc (.cells X0.toArray 41)).alloc (.cells Y0.toArray 41)=W0 at C1 C2 HC G0 ⊢
 refine a4F (f:=74) (t:=4) (p:=94) (v0:=.slice a x.effs.length c) (v1:=.slice b y.effs.length d) (pfS L H0.out) (fun i off v h w' g=>a3Q (a0M C1.out g) (a0M C2.out g) i off v h) [(2,.ptr 0 0),(3,.ptr 1 0)] [fun r=>.int true x.id y.id r,fun r=>.int true x.card y.card r,fun r=>.int true x.owner y.owner r,fun r=>.int true x.ctrl y.ctrl r,fun r=>.int true x.zone y.zone r,fun r=>.bool true x.tapped y.tapped r,fun r=>.bool true x.sick y.sick r,fun r=>.bool true x.token y.token r,fun r=>.int true x.hurt y.hurt r,fun r=>.int true x.stamp y.stamp r,fun r=>.int true x.attack y.attack r,fun r=>.int true x.block y.block r,fun r=>.bool true x.stopped y.stopped r] ?_ ?_ ?_ (fun k s h=>by rcases a1C h with⟨rfl,rfl⟩|⟨rfl,rfl⟩<;>rfl) e74 ?_ ?_
 ·intro c hc
  simp only[List.mem_cons,List.not_mem_nil,or_false]at hc
  rcases hc with rfl|rfl|rfl|rfl|rfl|rfl|rfl|rfl|rfl|rfl|rfl|rfl|rfl
  all_goals first|exact a9r _ _|exact a7d _ _
 ·rw[←HX0.out,←HY0.out]
  kernel_rfl
 ·intro q
  rw[←HX0.out,←HY0.out]
  kernel_rfl
 ·rintro a' hd ht ⟨cc,hc,hcf⟩
  have hne:decide (x=y)=false:=by
   rw[decide_eq_false_iff_not]
   rintro rfl
   simp only[List.mem_cons,List.not_mem_nil,or_false]at hc
   rcases hc with rfl|rfl|rfl|rfl|rfl|rfl|rfl|rfl|rfl|rfl|rfl|rfl|rfl<;>simp[Cmp.ok]at hcf
  go_wp2
  exact a2r rfl ht hd ⟨by first|rfl|rw[hne],G0.out⟩
 ·intro hall
  refine Calls.mono HC.out ?_
  rintro e w' ⟨rfl,hg⟩
  refine⟨_,rfl,hg,fun a' hd ht=> ?_⟩
  have hq:decide (x.effs=y.effs)=decide (x=y):=by
   simp only[List.forall_mem_cons,Cmp.ok,beq_iff_eq]at hall
   obtain⟨h0,h1,h2,h3,h4,h5,h6,h7,h8,h9,h10,h11,h12,_⟩:=hall
   rw[decide_eq_decide]
   constructor
   ·intro h
    cases x;cases y
    simp only at h0 h1 h2 h3 h4 h5 h6 h7 h8 h9 h10 h11 h12 h
    subst h0 h1 h2 h3 h4 h5 h6 h7 h8 h9 h10 h11 h12 h
    rfl
   ·rintro rfl
    rfl
  go_wp2
  exact a2r rfl ht hd ⟨by first|rfl|rw[hq],G0.out.trans hg⟩
set_option maxHeartbeats 4000000 in
set_option maxRecDepth 100000 in
theorem b6o{P:Program}{k29 k31 k41 k43 k45 k66 k97:Nat}{y29 y31 y41 y43 y45 y66 y97:List Value}(L:LayS P k29 k31 k41 k43 k45 k66 k97 y29 y31 y41 y43 y45 y66 y97)(hk0: ¬k29=0)(hk:k43=7)(f55:P.funcs[55]? =some Try.f55)(e75: ∀args w,(callFunc 75 args).run P w= .ok (.enter 75 args) w)
  (x y:Itm) (a b:Option Addr) (c d:Nat) (w:World) (h: ∀W,Gr w W→Calls P 75 #[.slice a x.ts.length c,.slice b y.ts.length d] W fun e w'=>e= .returned (.bool (decide (x.ts=y.ts)))∧Gr W w'):
  Calls P 55 #[.agg (a0f x (.slice a x.ts.length c)).toArray,.agg (a0f y (.slice b y.ts.length d)).toArray] w fun e w'=>e= .returned (.bool (decide (x=y)))∧Gr w w':=by
 have qu43:=run_underlying L.t43;have t43:=L.t43;have a43:=L.a43;have z43:=L.z43;have v43:=L.v43
 have H0:Hid (¬k29=0):=hk0
 obtain⟨g0,c1,c2⟩:=a0W w (a0f x (.slice a x.ts.length c)) (a0f y (.slice b y.ts.length d)) 43 43
 have hcl:=h _ g0
 have lx:(a0f x (.slice a x.ts.length c)).length=k43:=by rw[hk];rfl
 have ly:(a0f y (.slice b y.ts.length d)).length=k43:=by rw[hk];rfl
 have C1:Aside _:=c1
 have C2:Aside _:=c2
 have G0:Aside (Gr w _):=g0
 have HC:Aside _:=hcl
 clear h hcl c1 c2 g0 hk hk0
 generalize hX0:a0f x (.slice a x.ts.length c)=X0 at C1 C2 G0 HC lx ⊢
 have HX0:Hid _:=hX0
 generalize hY0:a0f y (.slice b y.ts.length d)=Y0 at C1 C2 G0 HC ly ⊢
 have HY0:Hid _:=hY0
 clear hX0 hY0
 go_enter f55,Try.ntmps55
 go_upto_region 1 with fail
 generalize (w.alloc (.cells X0.toArray 43)).alloc (.cells Y0.toArray 43)=W0 at C1 C2 HC G0 ⊢
 refine a4F (f:=75) (t:=4) (p:=45) (v0:=.slice a x.ts.length c) (v1:=.slice b y.ts.length d) (pfS L H0.out) (fun i off v h w' g=>a3Q (a0M C1.out g) (a0M C2.out g) i off v h) [(2,.ptr 0 0),(3,.ptr 1 0)] [fun r=>.int true x.id y.id r,fun r=>.int true x.kind y.kind r,fun r=>.int true x.ctrl y.ctrl r,fun r=>.int true x.obj y.obj r,fun r=>.int true x.card y.card r,fun r=>.int true x.abil y.abil r] ?_ ?_ ?_ (fun k s h=>by rcases a1C h with⟨rfl,rfl⟩|⟨rfl,rfl⟩<;>rfl) e75 ?_ ?_
 ·intro c hc
  simp only[List.mem_cons,List.not_mem_nil,or_false]at hc
  rcases hc with rfl|rfl|rfl|rfl|rfl|rfl
  all_goals first|exact a9r _ _|exact a7d _ _
 ·rw[←HX0.out,←HY0.out]
  kernel_rfl
 ·intro q
  rw[←HX0.out,←HY0.out]
  kernel_rfl
 ·rintro a' hd ht ⟨cc,hc,hcf⟩
  have hne:decide (x=y)=false:=by
   rw[decide_eq_false_iff_not]
   rintro rfl
   simp only[List.mem_cons,List.not_mem_nil,or_false]at hc
   rcases hc with rfl|rfl|rfl|rfl|rfl|rfl<;>simp[Cmp.ok]at hcf
  go_wp2
  exact a2r rfl ht hd ⟨by first|rfl|rw[hne],G0.out⟩
 ·intro hall
  refine Calls.mono HC.out ?_
  rintro e w' ⟨rfl,hg⟩
  refine⟨_,rfl,hg,fun a' hd ht=> ?_⟩
  have hq:decide (x.ts=y.ts)=decide (x=y):=by
   simp only[List.forall_mem_cons,Cmp.ok,beq_iff_eq]at hall
   obtain⟨h0,h1,h2,h3,h4,h5,_⟩:=hall
   rw[decide_eq_decide]
   constructor
   ·intro h
    cases x;cases y
    simp only at h0 h1 h2 h3 h4 h5 h
    subst h0 h1 h2 h3 h4 h5 h
    rfl
   ·rintro rfl
    rfl
  go_wp2
  exact a2r rfl ht hd ⟨by first|rfl|rw[hq],G0.out.trans hg⟩
set_option maxHeartbeats 4000000 in
set_option maxRecDepth 100000 in
theorem b6n{P:Program}{k29 k31 k41 k43 k45 k66 k97:Nat}{y29 y31 y41 y43 y45 y66 y97:List Value}(L:LayS P k29 k31 k41 k43 k45 k66 k97 y29 y31 y41 y43 y45 y66 y97)(hk0: ¬k29=0)(hk:k29=5)(f56:P.funcs[56]? =some Try.f56)(e75: ∀args w,(callFunc 75 args).run P w= .ok (.enter 75 args) w)
  (x y:Cad) (a b:Option Addr) (c d:Nat) (w:World) (h: ∀W,Gr w W→Calls P 75 #[.slice a x.ts.length c,.slice b y.ts.length d] W fun e w'=>e= .returned (.bool (decide (x.ts=y.ts)))∧Gr W w'):
  Calls P 56 #[.agg (a5H x (.slice a x.ts.length c)).toArray,.agg (a5H y (.slice b y.ts.length d)).toArray] w fun e w'=>e= .returned (.bool (decide (x=y)))∧Gr w w':=by
 have qu29:=run_underlying L.t29;have t29:=L.t29;have a29:=L.a29;have z29:=L.z29;have v29:=L.v29
 have H0:Hid (¬k29=0):=hk0
 obtain⟨g0,c1,c2⟩:=a0W w (a5H x (.slice a x.ts.length c)) (a5H y (.slice b y.ts.length d)) 29 29
 have hcl:=h _ g0
 have lx:(a5H x (.slice a x.ts.length c)).length=k29:=by rw[hk];rfl
 have ly:(a5H y (.slice b y.ts.length d)).length=k29:=by rw[hk];rfl
 have C1:Aside _:=c1
 have C2:Aside _:=c2
 have G0:Aside (Gr w _):=g0
 have HC:Aside _:=hcl
 clear h hcl c1 c2 g0 hk hk0
 generalize hX0:a5H x (.slice a x.ts.length c)=X0 at C1 C2 G0 HC lx ⊢
 have HX0:Hid _:=hX0
 generalize hY0:a5H y (.slice b y.ts.length d)=Y0 at C1 C2 G0 HC ly ⊢
 have HY0:Hid _:=hY0
 clear hX0 hY0
 go_enter f56,Try.ntmps56
 go_upto_region 1 with fail
 generalize (w.alloc (.cells X0.toArray 29)).alloc (.cells Y0.toArray 29)=W0 at C1 C2 HC G0 ⊢
 refine a4F (f:=75) (t:=4) (p:=31) (v0:=.slice a x.ts.length c) (v1:=.slice b y.ts.length d) (pfS L H0.out) (fun i off v h w' g=>a3Q (a0M C1.out g) (a0M C2.out g) i off v h) [(2,.ptr 0 0),(3,.ptr 1 0)] [fun r=>.int true x.kind y.kind r,fun r=>.int true x.obj y.obj r,fun r=>.int true x.abil y.abil r,fun r=>.bool true x.paying y.paying r] ?_ ?_ ?_ (fun k s h=>by rcases a1C h with⟨rfl,rfl⟩|⟨rfl,rfl⟩<;>rfl) e75 ?_ ?_
 ·intro c hc
  simp only[List.mem_cons,List.not_mem_nil,or_false]at hc
  rcases hc with rfl|rfl|rfl|rfl
  all_goals first|exact a9r _ _|exact a7d _ _
 ·rw[←HX0.out,←HY0.out]
  kernel_rfl
 ·intro q
  rw[←HX0.out,←HY0.out]
  kernel_rfl
 ·rintro a' hd ht ⟨cc,hc,hcf⟩
  have hne:decide (x=y)=false:=by
   rw[decide_eq_false_iff_not]
   rintro rfl
   simp only[List.mem_cons,List.not_mem_nil,or_false]at hc
   rcases hc with rfl|rfl|rfl|rfl<;>simp[Cmp.ok]at hcf
  go_wp2
  exact a2r rfl ht hd ⟨by first|rfl|rw[hne],G0.out⟩
 ·intro hall
  refine Calls.mono HC.out ?_
  rintro e w' ⟨rfl,hg⟩
  refine⟨_,rfl,hg,fun a' hd ht=> ?_⟩
  have hq:decide (x.ts=y.ts)=decide (x=y):=by
   simp only[List.forall_mem_cons,Cmp.ok,beq_iff_eq]at hall
   obtain⟨h0,h1,h2,h3,_⟩:=hall
   rw[decide_eq_decide]
   constructor
   ·intro h
    cases x;cases y
    simp only at h0 h1 h2 h3 h
    subst h0 h1 h2 h3 h
    rfl
   ·rintro rfl
    rfl
  go_wp2
  exact a2r rfl ht hd ⟨by first|rfl|rw[hq],G0.out.trans hg⟩
end Go.Proofs.Ytcblehiddfnafaa.canonSame
namespace Go.Proofs.Ytcblehiddfnafaa.canonSame
open Go.Shelf Go.RowKit Go.Lib Go.Sort
theorem b8z(d:Nat)(a b:Int)(W:World):Sem.run Try.prog (Op.equalIn (d+1) 3 (.int .i64 a) (.int .i64 b)) W= .ok (decide (a=b)) W:=by
 have u3:=Try.underlying3
 by_cases h:a=b<;>go_simp
theorem b5M(d:Nat)(W:World): ∀(is:List Nat) (l m:List Int),(∀i∈is,i<l.length∧i<m.length)→(Op.eqItems (d+1) 3 1 (a0J l).toArray (a0J m).toArray is).run Try.prog W= .ok (decide (∀i∈is,l[i]? =m[i]?)) W
 | [],l,m,_=>by simp[Op.eqItems]
 |i::is,l,m,h=>by
  have a3:=Try.isAgg3
  have ih:=b5M d W is l m fun j hj=>h j (List.mem_cons_of_mem _ hj)
  obtain⟨h1,h2⟩:=h i (List.mem_cons_self ..)
  have p1:Sem.run Try.prog (part 3 (a0J l).toArray (i*1)) W= .ok (.int .i64 l[i]) W:=by
   simp[part,a3,a0J,h1]
  have p2:Sem.run Try.prog (part 3 (a0J m).toArray (i*1)) W= .ok (.int .i64 m[i]) W:=by
   simp[part,a3,a0J,h2]
  simp only[Op.eqItems,Sem.run_bind,p1,p2,b8z,Result.andThen_ok]
  by_cases hq:l[i]=m[i]
  ·simp only[hq,decide_true,Bool.not_true,Bool.false_eq_true,if_false,ih]
   refine congrArg (fun b=>Result.ok b W) ?_
   simp[h1,h2,hq]
  ·simp only[hq,decide_false,Bool.not_false,if_true,Sem.run_pure]
   refine congrArg (fun b=>Result.ok b W) ?_
   simp[h1,h2,hq]
theorem b6U{l m:List Int}{n:Nat}(hl:l.length=n)(hm:m.length=n):(∀i∈List.range n,l[i]? =m[i]?)↔l=m:=by
 constructor
 ·intro h
  apply List.ext_getElem?
  intro i
  by_cases hi:i<n
  ·exact h i (List.mem_range.2 hi)
  ·rw[List.getElem?_eq_none (by omega),List.getElem?_eq_none (by omega)]
 ·rintro rfl i _
  rfl
theorem b8w(l m:List Int)(hl:l.length=11)(hm:m.length=11)(W:World):Sem.run Try.prog (Op.equalIn 10000 85 (.agg (a0J l).toArray) (.agg (a0J m).toArray)) W= .ok (decide (l=m)) W:=by
 have hc:Try.prog.cellsOf 3=1:=by kernel_rfl
 obtain⟨i,z,hi,_⟩:=b5I
 rw[show(10000:Nat)=9999+1 from rfl,run_equalIn_array W 9999 _ _ Try.underlying85 hi,hc,show(9999:Nat)=9998+1 from rfl,b5M 9998 W _ l m fun j hj=>by rw[List.mem_range]at hj;omega]
 refine congrArg (fun b=>Result.ok b W) ?_
 rw[decide_eq_decide,b6U hl hm]
theorem eqR(a b:Operand)(l m:List Int)(hl:l.length=11)(hm:m.length=11)(W:World):Sem.run Try.prog (do eqGuard .eql 85 a b (.agg (a0J l).toArray) (.agg (a0J m).toArray);binOp .eql 85 (.agg (a0J l).toArray) (.agg (a0J m).toArray)) W= .ok (.bool (decide (l=m))) W:=by
 have hg:=run_eqGuard_agg W .eql 85 a b (a0J l).toArray (a0J m).toArray (P:=Try.prog) (by kernel_rfl)
 simp only[Sem.run_bind,hg,Result.andThen_ok]
 simp only[binOp,Op.equal,Op.maxDepth,Sem.run_bind,b8w l m hl hm,Result.andThen_ok,Sem.run_pure]
end Go.Proofs.Ytcblehiddfnafaa.canonSame
namespace Go.Proofs.Ytcblehiddfnafaa.canonSame
open Go.Shelf Go.RowKit Go.Lib Go.Sort
theorem b8h{P:Program}{opsA:Array Oper}{tail:List Oper}{Q:Exit→Act→World→Prop}{o:Oper}{a:Act}{w w':World}{v:Value}(hg:o.guard=none)(he:(execOp a.eval o).run P w= .ok (.value v) w')(K:wpList P opsA Q tail (a.put o.dst v) w'):wpList P opsA Q (o::tail) a w:=by
 unfold wpList
 rw[show Region.wanted o (yielded opsA a.tmps)=true by simp[Region.wanted,hg],if_pos rfl]
 left
 unfold Oper.wp
 rw[he]
 exact K
theorem b7k{P:Program}{opsA:Array Oper}{tail:List Oper}{Q:Exit→Act→World→Prop}{o:Oper}{a:Act}{w w':World}(hg:o.guard=none)(he:(execOp a.eval o).run P w= .ok .skip w')(K:wpList P opsA Q tail (a.put o.dst undef) w'):wpList P opsA Q (o::tail) a w:=by
 unfold wpList
 rw[show Region.wanted o (yielded opsA a.tmps)=true by simp[Region.wanted,hg],if_pos rfl]
 left
 unfold Oper.wp
 rw[he]
 exact K
def a1E(S:Std):List Int:=[S.turn,S.active,S.phase,S.prio,S.passes,S.blocker,S.next,S.stamp,S.used,S.outcome,S.winner]
set_option maxHeartbeats 8000000 in
set_option maxRecDepth 100000 in
theorem b6v{P:Program}{k29 k31 k41 k43 k45 k66 k97:Nat}{y29 y31 y41 y43 y45 y66 y97:List Value}(L:LayS P k29 k31 k41 k43 k45 k66 k97 y29 y31 y41 y43 y45 y66 y97)(hk0': ¬k29=0)(hk:k31=25)(f50:P.funcs[50]? =some Try.f50)
  (t85:P.underlying 85=some (.array 11 3)) (a85: ∀w,(isAgg 85).run P w= .ok true w) {k85:Nat} (hk85:k85=11) (z85: ∀w,(Go.sizeOf 85).run P w= .ok k85 w) (v85: ∀w,(zeroValue 85).run P w= .ok (.agg #[.int .i64 0,.int .i64 0,.int .i64 0,.int .i64 0,.int .i64 0,.int .i64 0,.int .i64 0,.int .i64 0,.int .i64 0,.int .i64 0,.int .i64 0]) w)
  (A:Lcs) (S:Std) (w:World):Calls P 50 #[.agg (stV A S).toArray] w fun e w'=>e= .returned (.agg (a0J (a1E S)).toArray)∧Gr w w':=by
 have t3:=L.t3;have a3:=L.a3;have z3:=L.z3;have t31:=L.t31;have a31:=L.a31;have z31:=L.z31;have v31:=L.v31;have qu31:=run_underlying L.t31;have qu85:=run_underlying t85
 have HK:Hid (k31=25):=hk
 have hk0:Hid (¬k29=0):=hk0'
 clear hk0'
 have HK85:Hid (k85=11):=hk85
 clear hk85
 obtain⟨g0,c1,c2⟩:=a0W w (stV A S) [.int .i64 0,.int .i64 0,.int .i64 0,.int .i64 0,.int .i64 0,.int .i64 0,.int .i64 0,.int .i64 0,.int .i64 0,.int .i64 0,.int .i64 0] 31 85
 have G0:Aside (Gr w _):=g0
 have C1:Aside _:=c1
 have C2:Aside _:=c2
 generalize hX0:stV A S=X0 at C1 C2 G0 ⊢
 have HX0:Hid _:=hX0
 have x0l:X0.length=k31:=by rw[HK.out,←hX0];rfl
 have hsz:w.heap.size+2≤((w.alloc (.cells X0.toArray 31)).alloc (.cells ([.int .i64 0,.int .i64 0,.int .i64 0,.int .i64 0,.int .i64 0,.int .i64 0,.int .i64 0,.int .i64 0,.int .i64 0,.int .i64 0,.int .i64 0]:List Value).toArray 85)).heap.size:=by simp
 clear hX0 hk g0 c1 c2
 have HSZ:Aside _:=hsz
 clear hsz
 go_enter f50,Try.ntmps50
 go_upto_region 1 with fail
 generalize (w.alloc (.cells X0.toArray 31)).alloc (.cells _ 85)=W0 at C1 C2 G0 HSZ ⊢
 rw[←HX0.out]at C1
 have CC:Aside _:=a3Q C1.out C2.out
 refine a7K (pfS L (hk0.out)) CC.out 22 [(1,.ptr 0 0),(2,.ptr 1 0)] [] 3 [4,6,8,10,12,14,16,18,20,22,24] (cmps:=[]) (vs:=[.int .i64 S.turn,.int .i64 S.active,.int .i64 S.phase,.int .i64 S.prio,.int .i64 S.passes,.int .i64 S.blocker,.int .i64 S.next,.int .i64 S.stamp,.int .i64 S.used,.int .i64 S.outcome,.int .i64 S.winner]) (by kernel_rfl) (fun k s h=>by rcases a1C h with⟨rfl,rfl⟩|⟨rfl,rfl⟩<;>rfl) trivial ?_
 intro us hus hv
 have hus':us.length=23:=hus
 have e:=a4c us hus'
 rw[show List.range 23= [0,1,2,3,4,5,6,7,8,9,10,11,12,13,14,15,16,17,18,19,20,21,22]from rfl]at e
 simp only[List.map_cons,List.map_nil]at e
 generalize us.getD 0 undef=u0 at e
 generalize us.getD 1 undef=u1 at e
 generalize us.getD 2 undef=u2 at e
 generalize us.getD 3 undef=u3 at e
 generalize us.getD 4 undef=u4 at e
 generalize us.getD 5 undef=u5 at e
 generalize us.getD 6 undef=u6 at e
 generalize us.getD 7 undef=u7 at e
 generalize us.getD 8 undef=u8 at e
 generalize us.getD 9 undef=u9 at e
 generalize us.getD 10 undef=u10 at e
 generalize us.getD 11 undef=u11 at e
 generalize us.getD 12 undef=u12 at e
 generalize us.getD 13 undef=u13 at e
 generalize us.getD 14 undef=u14 at e
 generalize us.getD 15 undef=u15 at e
 generalize us.getD 16 undef=u16 at e
 generalize us.getD 17 undef=u17 at e
 generalize us.getD 18 undef=u18 at e
 generalize us.getD 19 undef=u19 at e
 generalize us.getD 20 undef=u20 at e
 generalize us.getD 21 undef=u21 at e
 generalize us.getD 22 undef=u22 at e
 clear hus hus'
 subst e
 simp only[List.take_succ_cons,List.take_zero,List.map_cons,List.map_nil,List.cons_append,List.nil_append,List.getElem?_cons_succ,List.getElem?_cons_zero,List.cons.injEq,Option.some.injEq,and_true]at hv
 obtain⟨rfl,rfl,rfl,rfl,rfl,rfl,rfl,rfl,rfl,rfl,rfl⟩:=hv
 simp only[List.take_succ_cons,List.take_zero,List.cons_append,List.nil_append,List.drop_succ_cons,List.drop_zero]
 refine b8h (w':=W0) (v:=.agg #[.int .i64 S.turn,.int .i64 S.active,.int .i64 S.phase,.int .i64 S.prio,.int .i64 S.passes,.int .i64 S.blocker,.int .i64 S.next,.int .i64 S.stamp,.int .i64 S.used,.int .i64 S.outcome,.int .i64 S.winner]) rfl (by go_simp) ?_
 rw[show(#[.int .i64 S.turn,.int .i64 S.active,.int .i64 S.phase,.int .i64 S.prio,.int .i64 S.passes,.int .i64 S.blocker,.int .i64 S.next,.int .i64 S.stamp,.int .i64 S.used,.int .i64 S.outcome,.int .i64 S.winner]:Array Value)=(a0J (a1E S)).toArray from rfl]
 have r1:(a0J (a1E S)).length=11:=rfl
 have r2: ∀v∈a0J (a1E S),v.oneCell'=true:=by
  intro v hv
  simp only[a0J,List.mem_map]at hv
  obtain⟨n,_,rfl⟩:=hv
  rfl
 generalize hR:a0J (a1E S)=R at r1 r2 ⊢
 have sB:=a0P P (a0A C2.out) R (by rw[r1];rfl) r2
 have b3:=a0Y C2.out R (by rw[r1];rfl)
 have r1':R.length=k85:=by rw[HK85.out];exact r1
 have lF:=a0I P (a0A b3) r1'
 have GF:Aside (Gr w (W0.setCells (w.heap.size+1) 0 R)):= @Gr.sets w w _ (Nat.le_succ _) R 0 W0 G0.out
 clear r1 b3 r2 CC C1 C2 G0 HX0 x0l HSZ
 have HR:Hid _:=hR
 clear hR
 refine b7k rfl (w':=W0.setCells (w.heap.size+1) 0 R) (by go_simp) ?_
 unfold wpList
 go_wp2
 refine bodyPost_ret (v:=.agg R.toArray) (by simp[results,go_sem,Try.results50,a85,z85,lF]) rfl ?_
 exact⟨by rw[HR.out],GF.out⟩
end Go.Proofs.Ytcblehiddfnafaa.canonSame
