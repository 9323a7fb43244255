/- Engine, part F: building aggregates; the dispatch of the operations that only read. -/
import Derived.Test.YtcblehiddfnafaaEvE
namespace Go.Ev
noncomputable section
def a5C(places:Nat→Option (Nat×Nat)):List VV→List (Nat×VV)→Option (List VV)
 |cs,[]=>some cs
 |cs,(i,v)::rest=>match places i with
  |none=>none
  |some (off,size)=>match Nat.beq v.cells.length size with
   |false=>none
   |true=>match over cs off v.cells with
    |some cs'=>a5C places cs' rest
    |none=>none
theorem foldl_set{α:Type}(off:Nat): ∀(vs:List α) (i:Nat) (cs:Array α),off+i+vs.length≤cs.size→
  ((vs.zipIdx i).foldl (fun cs (p:α×Nat)=>cs.setIfInBounds (off+p.2) p.1) cs).size=cs.size∧
  ∀j,((vs.zipIdx i).foldl (fun cs (p:α×Nat)=>cs.setIfInBounds (off+p.2) p.1) cs)[j]? =if off+i≤j∧j<off+i+vs.length then vs[j-(off+i)]? else cs[j]? :=by
 intro vs
 induction vs with
 |nil=>intro i cs _;exact⟨rfl,fun j=>by rw[if_neg (by simp)];rfl⟩
 |cons v vs ih=>
  intro i cs hsz
  simp only[List.length_cons]at hsz
  have:=ih (i+1) (cs.setIfInBounds (off+i) v) (by simp;omega)
  obtain⟨h1,h2⟩:=this
  refine⟨by simp only[List.zipIdx_cons,List.foldl_cons];rw[h1];simp,fun j=> ?_⟩
  simp only[List.zipIdx_cons,List.foldl_cons]
  rw[h2 j]
  by_cases hj:off+(i+1)≤j∧j<off+(i+1)+vs.length
  ·rw[if_pos hj,if_pos ⟨by omega,by simp only[List.length_cons];omega⟩]
   rw[show j-(off+i)=(j-(off+(i+1)))+1 by omega]
   simp
  ·rw[if_neg hj]
   by_cases he:j=off+i
   ·subst he
    rw[if_pos ⟨by omega,by simp only[List.length_cons];omega⟩]
    rw[Array.getElem?_setIfInBounds,if_pos rfl,if_pos (by omega)]
    simp
   ·rw[if_neg (by simp only[List.length_cons];omega),Array.getElem?_setIfInBounds,if_neg (fun e=>he e.symm)]
theorem a2P{φ:Phi}{places:Nat→Option (Nat×Nat)}: ∀(parts:List (Nat×VV)) (parts':List (Nat×Value)) (cs:List VV) (cs':Array Value) (r:List VV),(∀p∈parts,a8B p.2=false)→VRs φ cs cs'.toList→
  VRs φ (parts.map (·.2)) (parts'.map (·.2))→parts.map (·.1)=parts'.map (·.1)→a5C places cs parts=some r→ ∃r',Instr.fill places cs' parts'=some r'∧VRs φ r r'.toList
 | [],parts',cs,cs',r,_,hc,hp,hi,h=>by
  have:parts'= []:=by simpa using hi.symm
  subst this
  simp only[a5C,Option.some.injEq]at h
  subst h
  exact⟨cs',rfl,hc⟩
 |(i,v)::parts,parts',cs,cs',r,hna,hc,hp,hi,h=>by
  cases parts' with
  |nil=>simp at hi
  |cons p' parts'=>
   obtain⟨i',v'⟩:=p'
   simp only[List.map_cons,List.cons.injEq]at hi
   obtain⟨rfl,hi⟩:=hi
   simp only[List.map_cons,VRs]at hp
   obtain⟨y,ys,he,h1,h2⟩:=hp
   simp only[List.cons.injEq]at he
   obtain⟨rfl,rfl⟩:=he
   simp only[a5C]at h
   cases hpl:places i with
   |none=>rw[hpl]at h;simp at h
   |some os=>
    obtain⟨off,size⟩:=os
    rw[hpl]at h
    simp only at h
    cases hb:Nat.beq v.cells.length size with
    |false=>rw[hb]at h;simp at h
    |true=>
     rw[hb]at h
     simp only at h
     cases ho:over cs off v.cells with
     |none=>rw[ho]at h;simp at h
     |some cs2=>
      rw[ho]at h
      simp only at h
      obtain⟨k1,k2,k3⟩:=b2e _ _ _ _ ho
      have hcells:=a1r (hna _ (List.mem_cons_self ..)) h1
      have hl:=a0V _ _ hcells
      have hlc:=a0V _ _ hc
      have hsz:v.cells.length=size:=Nat.eq_of_beq_eq_true hb
      have hl':v.cells.length=v'.cells.size:=by simpa using hl
      have hlc':cs.length=cs'.size:=by simpa using hlc
      obtain⟨f1,f2⟩:=foldl_set off v'.cells.toList 0 cs' (by simp only[Array.length_toList];omega)
      have hnew:VRs φ cs2 ((v'.cells.toList.zipIdx 0).foldl (fun cs (p:Value×Nat)=>cs.setIfInBounds (off+p.2) p.1) cs').toList:=by
       refine a1j _ _ (by rw[k2];simp only[Array.length_toList];rw[f1];exact hlc') ?_
       intro j x w hx hw
       rw[k3 j]at hx
       rw[Array.getElem?_toList,f2 j]at hw
       simp only[Array.length_toList,Nat.add_zero]at hw
       rw[←hl']at hw
       split at hx
       ·rename_i hj
        rw[if_pos hj]at hw
        obtain⟨z,hz1,hz2⟩:=a1k _ _ hcells _ x hx
        rw[hz1]at hw;cases hw;exact hz2
       ·rename_i hj
        rw[if_neg hj]at hw
        obtain⟨z,hz1,hz2⟩:=a1k _ _ hc _ x hx
        rw[Array.getElem?_toList]at hz1
        rw[hz1]at hw;cases hw;exact hz2
      obtain⟨r',g1,g2⟩:=a2P parts parts' cs2 _ r (fun p hp=>hna p (List.mem_cons_of_mem _ hp)) hnew h2 hi h
      refine⟨r', ?_,g2⟩
      unfold Instr.fill
      simp only[hpl]
      rw[if_neg (by simp only[Bool.or_eq_true,ne_eq,decide_eq_true_eq,not_or,Decidable.not_not];omega)]
      rw[←g1]
      congr 1
      rw[←Array.foldl_toList]
      simp
def placesOf(P:Program):List Field→Option (List (Nat×Nat))
 | []=>some []
 |f::fs=>match P.info? f.type with
  |none=>none
  |some i=>match placesOf P fs with
   |none=>none
   |some r=>some ((f.offset,i.size)::r)
theorem a6L{P:Program}: ∀(fs:List Field) (r:List (Nat×Nat)),placesOf P fs=some r→fs.mapM (fun f=>(P.info? f.type).map fun i=>(f.offset,i.size))=some r
 | [],r,h=>by simp only[placesOf,Option.some.injEq]at h;subst h;rfl
 |f::fs,r,h=>by
  simp only[placesOf]at h
  cases hi:P.info? f.type with
  |none=>rw[hi]at h;cases h
  |some i=>cases hr:placesOf P fs with
   |none=>rw[hi,hr]at h;cases h
   |some r'=>
    rw[hi,hr]at h
    simp only[Option.some.injEq]at h
    subst h
    simp[List.mapM_cons,hi,a6L fs r' hr]
def a6k(P:Program)(t:TypeId)(parts:List (Nat×VV)):Option VV:=
 match a1a P t,P.underlying t with
 |some z,some (.struct fs)=>match placesOf P fs.toList with
  |some pl=>match a5C (a0k pl) z.cells parts with
   |some cs=>some (.agg cs)
   |none=>none
  |none=>none
 |some z,some (.array _ e)=>match P.info? e with
  |some i=>match a5C (fun k=>some (k*i.size,i.size)) z.cells parts with
   |some cs=>some (.agg cs)
   |none=>none
  |none=>none
 |_,_=>none
theorem a4k{P:Program}{φ:Phi}{t:TypeId}{parts:List (Nat×VV)}{parts':List (Nat×Value)}(hna: ∀p∈parts,a8B p.2=false)(hp:VRs φ (parts.map (·.2)) (parts'.map (·.2)))(hi:parts.map (·.1)=parts'.map (·.1)){v:VV}(h:a6k P t parts=some v):
  ∃v',(∀w,(Instr.build t ⟨parts'⟩).run P w= .ok v' w)∧VR φ v v':=by
 unfold a6k at h
 cases hz:a1a P t with
 |none=>rw[hz]at h;simp at h
 |some z=>
  have hz0:=hz
  unfold a1a at hz0
  cases hit:P.info? t with
  |none=>rw[hit]at hz0;simp at hz0
  |some it=>
   rw[hit]at hz0
   simp only at hz0
   cases hiz:it.zero with
   |none=>rw[hiz]at hz0;simp at hz0
   |some z'=>
    rw[hiz]at hz0
    have hzr:=a1r (a3h z' z hz0) (a5V φ z' z hz0)
    rw[hz]at h
    cases hu:P.underlying t with
    |none=>rw[hu]at h;simp at h
    |some d=>
     rw[hu]at h
     cases d with
     |struct fs=>
      simp only at h
      cases hpl:placesOf P fs.toList with
      |none=>rw[hpl]at h;simp at h
      |some pl=>
       rw[hpl]at h
       simp only at h
       cases hf:a5C (a0k pl) z.cells parts with
       |none=>rw[hf]at h;simp at h
       |some cs=>
        rw[hf]at h
        simp only[Option.some.injEq]at h
        subst h
        have e:a0k pl=(pl.toArray[·]?):=by funext k;rw[a1H];simp
        rw[e]at hf
        obtain⟨r',r1,r2⟩:=a2P parts parts' _ _ _ hna hzr hp hi hf
        refine⟨.agg r',fun w=> ?_,by simp only[VR];exact⟨r'.toList,r2,rfl⟩⟩
        refine run_build w t ⟨parts'⟩ r' ?_
        simp[Program.built,hit,hu,hiz,a6L _ _ hpl]
        simpa using r1
     |array n e=>
      simp only at h
      cases he:P.info? e with
      |none=>rw[he]at h;simp at h
      |some i=>
       rw[he]at h
       simp only at h
       cases hf:a5C (fun k=>some (k*i.size,i.size)) z.cells parts with
       |none=>rw[hf]at h;simp at h
       |some cs=>
        rw[hf]at h
        simp only[Option.some.injEq]at h
        subst h
        obtain⟨r',r1,r2⟩:=a2P parts parts' _ _ _ hna hzr hp hi hf
        refine⟨.agg r',fun w=> ?_,by simp only[VR];exact⟨r'.toList,r2,rfl⟩⟩
        refine run_build w t ⟨parts'⟩ r' ?_
        simp[Program.built,hit,hu,hiz,he]
        simpa using r1
     |_=>simp at h
def a0z(a:VT):List (Nat×Operand)→Option (List (Nat×VV))
 | []=>some []
 |(i,o)::l=>match a0C a o with
  |none=>none
  |some x=>match a0z a l with
   |none=>none
   |some xs=>some ((i,x)::xs)
theorem a2F{φ:Phi}{a:VT}{act:Act}(ht:TR φ a act.tmps): ∀(ps:List (Nat×Operand)) (vs:List (Nat×VV)),a0z a ps=some vs→
  VRs φ (vs.map (·.2)) ((ps.map fun p=>(p.1,act.eval p.2)).map (·.2))∧vs.map (·.1)=(ps.map fun p=>(p.1,act.eval p.2)).map (·.1)
 | [],vs,h=>by simp only[a0z,Option.some.injEq]at h;subst h;exact⟨by simp[VRs],rfl⟩
 |(i,o)::ps,vs,h=>by
  simp only[a0z]at h
  cases hx:a0C a o with
  |none=>rw[hx]at h;simp at h
  |some v=>cases hr:a0z a ps with
   |none=>rw[hx,hr]at h;simp at h
   |some us=>
    rw[hx,hr]at h
    simp only[Option.some.injEq]at h
    subst h
    obtain⟨h1,h2⟩:=a2F ht ps us hr
    refine⟨?_,by simp only[List.map_cons,h2]⟩
    simp only[List.map_cons,VRs]
    exact⟨_,_,rfl,a0D ht hx,h1⟩
theorem a1o{a:VT}: ∀(ps:List (Nat×Operand)) (vs:List (Nat×VV)),a0z a ps=some vs→ ∀p∈vs,a8B p.2=false
 | [],vs,h=>by simp only[a0z,Option.some.injEq]at h;subst h;simp
 |(i,o)::ps,vs,h=>by
  simp only[a0z]at h
  cases hx:a0C a o with
  |none=>rw[hx]at h;simp at h
  |some v=>cases hr:a0z a ps with
   |none=>rw[hx,hr]at h;simp at h
   |some us=>
    rw[hx,hr]at h
    simp only[Option.some.injEq]at h
    subst h
    intro p hp
    rcases List.mem_cons.1 hp with rfl|hp
    ·exact a1z hx
    ·exact a1o ps us hr p hp
def b3G(c x y:Option VV):RO:=
 match c with
 |some (.bool b)=>match x,y with
  |some (.bool p),some (.bool q)=>.val (.bool (match b with|true=>p|false=>q))
  |x,y=>.ite b (RO.of x) (RO.of y)
 |_=>.bad
def a7A:VV→Bool
 |.ptr none|.nilIface|.nilFunc=>false
 |.func (.method _) _ _=>false
 |.any|.one|.sym _=>false
 |_=>true
def a1I:TypeDesc→Bool
 |.interface _=>false
 |_=>true
def a8T(P:Program)(x:VV)(asserted:TypeId)(ok:Bool):RO:=
 match P.underlying asserted with
 |none=>.bad
 |some d=>match a1I d with
  |false=>.bad
  |true=>match x with
   |.iface t v=>match Nat.beq t asserted with
    |true=>.val (match ok with|true=>.tuple [v,.bool true]|false=>v)
    |false=>match ok with
     |false=>.bad
     |true=>match a1a P asserted with
      |some z=>.val (.tuple [z,.bool false])
      |none=>.bad
   |.nilIface=>match ok with
    |false=>.bad
    |true=>match a1a P asserted with
     |some z=>.val (.tuple [z,.bool false])
     |none=>.bad
   |_=>.bad
theorem b0o{φ:Phi}{x:VV}{x':Value}(h:VR φ x x')(b:Bool):VR φ (.tuple [x,.bool b]) (.tuple #[x',.bool b]):=by
 simp only[VR,VRs];exact⟨[x',.bool b],⟨x',_,rfl,h,.bool b,[],rfl,rfl,rfl⟩,rfl⟩
theorem a7F{P:Program}{φ:Phi}{w:World}{x:VV}{x':Value}(hx:VR φ x x')(xt asserted:TypeId)(ok:Bool):ROR φ w ((Instr.typeAssert x' xt asserted ok).run P w) (a8T P x asserted ok):=by
 unfold a8T
 cases hu:P.underlying asserted with
 |none=>trivial
 |some d=>
  simp only
  cases hd:a1I d with
  |false=>trivial
  |true=>
   simp only
   cases x with
   |iface t v=>
    simp only[VR]at hx
    obtain⟨v',hv,rfl⟩:=hx
    simp only
    cases ht:Nat.beq t asserted with
    |true=>
     have e:t=asserted:=Nat.eq_of_beq_eq_true ht
     subst e
     simp only[ROR]
     cases ok with
     |true=>exact⟨.tuple #[v',.bool true],by cases d<;>simp[a1I]at hd<;>simp[Instr.typeAssert,run_underlying hu],b0o hv true⟩
     |false=>exact⟨v',by cases d<;>simp[a1I]at hd<;>simp[Instr.typeAssert,run_underlying hu],hv⟩
    |false=>
     have e:t≠asserted:=by intro e;subst e;simp at ht
     cases ok with
     |false=>trivial
     |true=>
      simp only
      cases hz:a1a P asserted with
      |none=>trivial
      |some z=>
       obtain⟨z',z1,z2⟩:=a4T (P:=P) (w:=w) hz φ
       simp only[ROR]
       exact⟨.tuple #[z',.bool false],by cases d<;>simp[a1I]at hd<;>simp[Instr.typeAssert,run_underlying hu,e,z1],b0o z2 false⟩
   |nilIface=>
    simp only[VR]at hx
    subst hx
    cases ok with
    |false=>trivial
    |true=>
     simp only
     cases hz:a1a P asserted with
     |none=>trivial
     |some z=>
      obtain⟨z',z1,z2⟩:=a4T (P:=P) (w:=w) hz φ
      simp only[ROR]
      exact⟨.tuple #[z',.bool false],by cases d<;>simp[a1I]at hd<;>simp[Instr.typeAssert,run_underlying hu,z1],b0o z2 false⟩
   |_=>trivial
def a4h(a:VT):Option Operand→Option (Option VV)
 |none=>some none
 |some o=>match a0C a o with
  |some v=>some (some v)
  |none=>none
theorem a2w{φ:Phi}{a:VT}{act:Act}(ht:TR φ a act.tmps){o:Option Operand}{v:Option VV}(h:a4h a o=some v):OVR φ v (o.map act.eval):=by
 cases o with
 |none=>simp only[a4h,Option.some.injEq]at h;subst h;rfl
 |some x=>
  simp only[a4h]at h
  cases hx:a0C a x with
  |none=>rw[hx]at h;cases h
  |some y=>rw[hx]at h;simp only[Option.some.injEq]at h;subst h;exact⟨_,rfl,a0D ht hx⟩
def a2R(P:Program)(c:Call)(a:VT)(H:VH):RO:=
 match c.callee with
 |.builtin b=>match b,c.args,c.argTypes with
  |.len,⟨[x]⟩,⟨t::_⟩=>match a0C a x with
   |some v=>b6C P H t v
   |none=>.bad
  |.cap,⟨[x]⟩,⟨t::_⟩=>match a0C a x with
   |some v=>b6D P H t v
   |none=>.bad
  |.min,⟨[x,y]⟩,_=>match a0C a x,a0C a y with
   |some x,some y=>b1w H x y
   |_,_=>.bad
  |.max,⟨[x,y]⟩,_=>match a0C a x,a0C a y with
   |some x,some y=>b1y H x y
   |_,_=>.bad
  |_,_,_=>.bad
 |_=>.bad
def evR(P:Program)(o:Op)(a:VT)(H:VH):RO:=
 match o with
 |.move x|.assign x=>RO.of (a0C a x)
 |.pick c x y=>b3G (a0C a c) (a0C a x) (a0C a y)
 |.build t ⟨parts⟩=>match a0z a parts with
  |some ps=>RO.of (a6k P t ps)
  |none=>.bad
 |.load t x=>match a0C a x with
  |some (.ptr (some ad))=>RO.of (loadT P H t ad)
  |_=>.bad
 |.nilCheck x=>match a0C a x with
  |some v=>match a7A v with
   |true=>.val v
   |false=>.bad
  |none=>.bad
 |.binOp op t x y _=>match a0C a x,a0C a y with
  |some u,some v=>b2A P H op t (isC x) (isC y) u v
  |_,_=>.bad
 |.unOp op _ x=>match a0C a x with
  |some v=>b7u op v
  |none=>.bad
 |.convert s d x=>match a0C a x with
  |some v=>b3L P H s d v
  |none=>.bad
 |.makeInterface t x=>match P.underlying t,a0C a x with
  |some d,some v=>match a1I d with
   |true=>.val (.iface t v)
   |false=>.bad
  |_,_=>.bad
 |.makeFunc fn ⟨f⟩ ⟨c⟩=>match a6d fn,a0d a f,a0d a c with
  |true,some f,some c=>.val (.func fn f c)
  |_,_,_=>.bad
 |.slice t x lo hi none=>match a0C a x,a4h a lo,a4h a hi with
  |some v,some l,some h=>b0W P H t v l h
  |_,_,_=>.bad
 |.slice t x lo hi (some m)=>match a0C a x,a4h a lo,a4h a hi,a0C a m with
  |some v,some l,some h,some m=>a8K P H t v l h m
  |_,_,_,_=>.bad
 |.fieldAddr t x f=>match a0C a x with
  |some v=>RO.of (a4M P t v f)
  |none=>.bad
 |.field t x f=>match a0C a x with
  |some v=>RO.of (b0c P t v f)
  |none=>.bad
 |.indexAddr t x i=>match a0C a x,a0C a i with
  |some v,some j=>a1i P H t v j
  |_,_=>.bad
 |.index t x i=>match a0C a x,a0C a i with
  |some v,some j=>b0b P t v j
  |_,_=>.bad
 |.lookup t x k ok=>match a0C a x,a0C a k with
  |some v,some j=>a8L P H t v j ok
  |_,_=>.bad
 |.typeAssert x _ t ok=>match a0C a x with
  |some v=>a8T P v t ok
  |none=>.bad
 |.extract x i=>match a0C a x with
  |some v=>a6i v i
  |none=>.bad
 |.call c=>a2R P c a H
 |_=>.bad
def RNR(φ:Phi)(w:World)(r:Result Next):RO→Prop
 |.val v=> ∃v',r= .ok (.value v') w∧VR φ v v'
 |.chk b o=>b=true→RNR φ w r o
 |.ite b x y=>(b=true→RNR φ w r x)∧(b=false→RNR φ w r y)
 |.bad=>True
theorem a1x{φ:Phi}{w:World}{r:Result Value}{n:Result Next}(e: ∀v',r= .ok v' w→n= .ok (.value v') w): ∀{o:RO},ROR φ w r o→RNR φ w n o
 |.val v,h=>by obtain⟨v',h1,h2⟩:=h;exact⟨v',e v' h1,h2⟩
 |.chk b o,h=>fun hb=>a1x e (h hb)
 |.ite b x y,h=>⟨fun hb=>a1x e (h.1 hb),fun hb=>a1x e (h.2 hb)⟩
 |.bad,_=>trivial
theorem a3T{φ:Phi}{w:World}{n:Result Next}{x:Option VV}(h: ∀v,x=some v→ ∃v',n= .ok (.value v') w∧VR φ v v'):RNR φ w n (RO.of x):=by
 cases x with
 |none=>trivial
 |some v=>exact h v rfl
theorem a0S{P:Program}{w:World}{s:Sem Value}{v':Value}(h:s.run P w= .ok v' w):(do pure (Next.value (←s)):Sem Next).run P w= .ok (.value v') w:=by
 simp[h]
theorem b0L{P:Program}{φ:Phi}{w:World}{v:VV}{v':Value}(hv:VR φ v v')(h:a7A v=true)(ρ:Operand→Value)(x:Operand)(hx:ρ x=v')(o:Oper)(ho:o.op= .nilCheck x):(execOp ρ o).run P w= .ok (.value v') w:=by
 unfold execOp
 rw[ho]
 simp only[hx]
 cases v with
 |ptr p=>cases p with
  |none=>simp[a7A]at h
  |some a=>simp only[VR]at hv;obtain⟨_,_,_,rfl⟩:=hv;rfl
 |slice p l c=>cases p<;>simp only[VR]at hv<;>(first|subst hv|obtain⟨_,_,_,rfl⟩:=hv)<;>rfl
 |map p=>cases p<;>simp only[VR]at hv<;>(first|subst hv|obtain⟨_,_,rfl⟩:=hv)<;>rfl
 |sliceE=>simp only[VR]at hv;obtain⟨_,_,rfl⟩:=hv;rfl
 |any=>simp[a7A]at h
 |one=>simp[a7A]at h
 |sym i=>simp[a7A]at h
 |func fn f c=>
  simp only[VR]at hv
  obtain⟨f',c',_,_,_,rfl⟩:=hv
  cases fn<;>first|rfl|(simp[a7A]at h)
 |yield i=>simp only[VR]at hv;obtain⟨_,_,rfl⟩:=hv;rfl
 |iface t v=>simp only[VR]at hv;obtain⟨_,_,rfl⟩:=hv;rfl
 |tuple ds=>simp only[VR]at hv;obtain⟨_,_,rfl⟩:=hv;rfl
 |agg ds=>simp only[VR]at hv;obtain⟨_,_,rfl⟩:=hv;rfl
 |nilIface=>simp[a7A]at h
 |nilFunc=>simp[a7A]at h
 |_=>simp only[VR]at hv;subst hv;rfl
theorem a9U{P:Program}{φ:Phi}{a:VT}{act:Act}{w:World}(ht:TR φ a act.tmps)(c x y:Operand)(o:Oper)(ho:o.op= .pick c x y):
  RNR φ w ((execOp act.eval o).run P w) (b3G (a0C a c) (a0C a x) (a0C a y)):=by
 unfold b3G
 cases hc:a0C a c with
 |none=>trivial
 |some cv=>cases cv with
  |bool b=>
   have hcr:=a0D ht hc
   simp only[VR]at hcr
   have run:(execOp act.eval o).run P w= .ok (.value (if b then act.eval x else act.eval y)) w:=by
    unfold execOp
    rw[ho]
    simp[hcr,asBool]
   simp only
   rw[run]
   have gen:RNR φ w (.ok (.value (if b then act.eval x else act.eval y)) w) (.ite b (RO.of (a0C a x)) (RO.of (a0C a y))):=by
    refine⟨fun hb=> ?_,fun hb=> ?_⟩
    ·refine a3T fun v hv=>⟨_,rfl, ?_⟩
     rw[if_pos hb];exact a0D ht hv
    ·refine a3T fun v hv=>⟨_,rfl, ?_⟩
     rw[if_neg (by simp[hb])];exact a0D ht hv
   cases hX:a0C a x with
   |none=>rw[hX]at gen;exact gen
   |some u=>cases hY:a0C a y with
    |none=>rw[hX,hY]at gen;cases u<;>exact gen
    |some v=>
     rw[hX,hY]at gen
     cases u with
     |bool p=>cases v with
      |bool q=>
       have hpr:=a0D ht hX
       have hqr:=a0D ht hY
       simp only[VR]at hpr hqr
       refine⟨_,rfl, ?_⟩
       cases b<;>simp[VR,hpr,hqr]
      |_=>exact gen
     |_=>exact gen
  |_=>trivial
theorem a8Q{P:Program}{w0:World}{φ:Phi}{a:VT}{act:Act}{H:VH}{w:World}(ht:TR φ a act.tmps)(hs:HSim w0 φ H w)(c:Call)(o:Oper)(ho:o.op= .call c):
  RNR φ w ((execOp act.eval o).run P w) (a2R P c a H):=by
 obtain⟨cal,args,ts⟩:=c
 unfold a2R
 cases cal with
 |builtin b=>
  simp only
  have run: ∀(args':Array Value),args.map act.eval=args'→(execOp act.eval o).run P w=(builtin b ts o.type (args.map fun|.const _=>true|_=>false) args').run P w:=by
   intro args' h
   unfold execOp
   rw[ho]
   simp[resolve,h,invoke]
   rfl
  split
  ·rename_i x t ts'
   rw[run #[act.eval x] (by simp)]
   cases hx:a0C a x with
   |none=>trivial
   |some v=>
    simp only
    refine a1x (r:=(Builtin.len_ ⟨t::ts'⟩ o.type #[act.eval x]).run P w) ?_ (b0a hs (a0D ht hx))
    intro v' h
    exact a0S h
  ·rename_i x t ts'
   rw[run #[act.eval x] (by simp)]
   cases hx:a0C a x with
   |none=>trivial
   |some v=>
    simp only
    refine a1x (r:=(Builtin.cap_ ⟨t::ts'⟩ o.type #[act.eval x]).run P w) ?_ (b0f hs (a0D ht hx))
    intro v' h
    exact a0S h
  ·rename_i x y
   rw[run #[act.eval x,act.eval y] (by simp)]
   cases hx:a0C a x with
   |none=>trivial
   |some u=>cases hy:a0C a y with
    |none=>trivial
    |some v=>
     simp only
     refine a1x (r:=(Builtin.min_ ts o.type #[act.eval x,act.eval y]).run P w) ?_ (b0Y hs (a0D ht hx) (a0D ht hy))
     intro v' h
     exact a0S h
  ·rename_i x y
   rw[run #[act.eval x,act.eval y] (by simp)]
   cases hx:a0C a x with
   |none=>trivial
   |some u=>cases hy:a0C a y with
    |none=>trivial
    |some v=>
     simp only
     refine a1x (r:=(Builtin.max_ ts o.type #[act.eval x,act.eval y]).run P w) ?_ (b0Z hs (a0D ht hx) (a0D ht hy))
     intro v' h
     exact a0S h
  ·trivial
 |_=>trivial
theorem a4g{P:Program}{w0:World}{φ:Phi}{a:VT}{act:Act}{H:VH}{w:World}(ht:TR φ a act.tmps)(hs:HSim w0 φ H w)(o:Oper):
  RNR φ w ((execOp act.eval o).run P w) (evR P o.op a H):=by
 obtain⟨dst,op,type,pos,after,guard⟩:=o
 simp only
 cases op with
 |move x=>exact a3T fun v h=>⟨act.eval x,rfl,a0D ht h⟩
 |assign x=>exact a3T fun v h=>⟨act.eval x,rfl,a0D ht h⟩
 |pick c x y=>exact a9U ht c x y _ rfl
 |build t parts=>
  obtain⟨parts⟩:=parts
  simp only[evR]
  cases hp:a0z a parts with
  |none=>trivial
  |some ps=>
   simp only
   obtain⟨h1,h2⟩:=a2F ht parts ps hp
   refine a3T fun v h=> ?_
   obtain⟨v',r1,r2⟩:=a4k (a1o parts ps hp) h1 h2 h
   refine⟨v',a0S ?_,r2⟩
   simpa using r1 w
 |load t x=>
  simp only[evR]
  cases hx:a0C a x with
  |none=>trivial
  |some v=>cases v with
   |ptr p=>cases p with
    |none=>trivial
    |some ad=>
     simp only
     refine a3T fun v h=> ?_
     have hv:=a0D ht hx
     simp only[VR]at hv
     obtain⟨a',s,ha,hv⟩:=hv
     obtain⟨v',r1,r2⟩:=a6T (P:=P) hs ha h
     refine⟨v',a0S ?_,r2⟩
     simp[Instr.loadAt,hv,Instr.sureAddr,r1]
   |_=>trivial
 |nilCheck x=>
  simp only[evR]
  cases hx:a0C a x with
  |none=>trivial
  |some v=>
   simp only
   cases hn:a7A v with
   |false=>trivial
   |true=>
    have hv:=a0D ht hx
    exact⟨act.eval x,b0L hv hn act.eval x rfl _ rfl,hv⟩
 |binOp op t x y yt=>
  simp only[evR]
  cases hx:a0C a x with
  |none=>trivial
  |some u=>cases hy:a0C a y with
   |none=>trivial
   |some v=>
    simp only
    refine a1x (r:=a2K P op t x y (act.eval x) (act.eval y) w) ?_ (b0h hs op t x y (a0D ht hx) (a0D ht hy))
    intro v' h
    exact a0S h
 |unOp op t x=>
  simp only[evR]
  cases hx:a0C a x with
  |none=>trivial
  |some u=>
   simp only
   refine a1x (r:=(Op.unary op (act.eval x)).run P w) ?_ (b1u op (a0D ht hx))
   intro v' h
   exact a0S h
 |convert s d x=>
  simp only[evR]
  cases hx:a0C a x with
  |none=>trivial
  |some u=>
   simp only
   refine a1x (r:=(convert s d (act.eval x)).run P w) ?_ (a9Z hs (a0D ht hx))
   intro v' h
   exact a0S h
 |makeInterface t x=>
  simp only[evR]
  cases hu:P.underlying t with
  |none=>trivial
  |some d=>cases hx:a0C a x with
   |none=>trivial
   |some u=>
    simp only
    cases hd:a1I d with
    |false=>trivial
    |true=>
     refine⟨.iface t (act.eval x),a0S ?_,by simp only[VR];exact⟨_,a0D ht hx,rfl⟩⟩
     cases d<;>simp[a1I]at hd<;>simp[Instr.makeInterface,run_underlying hu]
 |makeFunc fn f c=>
  obtain⟨f⟩:=f
  obtain⟨c⟩:=c
  simp only[evR]
  cases hp:a6d fn with
  |false=>trivial
  |true=>cases hf:a0d a f with
   |none=>trivial
   |some f'=>cases hc:a0d a c with
    |none=>trivial
    |some c'=>
     simp only
     refine⟨.func fn ⟨f.map act.eval⟩ ⟨c.map act.eval⟩,a0S ?_,by simp only[VR];exact⟨_,_,hp,a1O ht f f' hf,a1O ht c c' hc,rfl⟩⟩
     simp[Instr.makeFunc]
 |slice t x lo hi mx=>
  cases mx with
  |some m=>
   simp only[evR]
   cases hx:a0C a x with
   |none=>trivial
   |some u=>cases hl:a4h a lo with
    |none=>trivial
    |some l=>cases hh:a4h a hi with
     |none=>trivial
     |some h=>cases hm:a0C a m with
      |none=>trivial
      |some mv=>
       simp only
       refine a1x (r:=(Instr.sliceAt t (act.eval x) (lo.map act.eval) (hi.map act.eval) (some (act.eval m))).run P w) ?_ (a7D hs (a0D ht hx) (a2w ht hl) (a2w ht hh) (a0D ht hm))
       intro v' h
       exact a0S h
  |none=>
   simp only[evR]
   cases hx:a0C a x with
   |none=>trivial
   |some u=>cases hl:a4h a lo with
    |none=>trivial
    |some l=>cases hh:a4h a hi with
     |none=>trivial
     |some h=>
      simp only
      refine a1x (r:=(Instr.sliceAt t (act.eval x) (lo.map act.eval) (hi.map act.eval) none).run P w) ?_ (a8J hs (a0D ht hx) (a2w ht hl) (a2w ht hh))
      intro v' h
      exact a0S h
 |fieldAddr t x f=>
  simp only[evR]
  cases hx:a0C a x with
  |none=>trivial
  |some u=>
   refine a3T fun v h=> ?_
   obtain⟨v',r1,r2⟩:=a5F (w:=w) (a0D ht hx) h
   exact⟨v',a0S r1,r2⟩
 |field t x f=>
  simp only[evR]
  cases hx:a0C a x with
  |none=>trivial
  |some u=>
   refine a3T fun v h=> ?_
   obtain⟨v',r1,r2⟩:=a8N (w:=w) (a0D ht hx) h
   exact⟨v',a0S r1,r2⟩
 |indexAddr t x i=>
  simp only[evR]
  cases hx:a0C a x with
  |none=>trivial
  |some u=>cases hi:a0C a i with
   |none=>trivial
   |some j=>
    simp only
    refine a1x (r:=(Instr.indexAt t (act.eval x) (act.eval i)).run P w) ?_ (a5E hs (a0D ht hx) (a0D ht hi))
    intro v' h
    exact a0S h
 |index t x i=>
  simp only[evR]
  cases hx:a0C a x with
  |none=>trivial
  |some u=>cases hi:a0C a i with
   |none=>trivial
   |some j=>
    simp only
    refine a1x (r:=(Instr.index t (act.eval x) (act.eval i)).run P w) ?_ (a8M (a0D ht hx) (a0D ht hi))
    intro v' h
    exact a0S h
 |lookup t x k ok=>
  simp only[evR]
  cases hx:a0C a x with
  |none=>trivial
  |some u=>cases hk:a0C a k with
   |none=>trivial
   |some j=>
    simp only
    refine a1x (r:=(Instr.lookup t (act.eval x) (act.eval k) ok).run P w) ?_ (a7E hs (a0D ht hx) (a0D ht hk) ok)
    intro v' h
    exact a0S h
 |typeAssert x xt t ok=>
  simp only[evR]
  cases hx:a0C a x with
  |none=>trivial
  |some u=>
   simp only
   refine a1x (r:=(Instr.typeAssert (act.eval x) xt t ok).run P w) ?_ (a7F (a0D ht hx) xt t ok)
   intro v' h
   exact a0S h
 |extract x i=>
  simp only[evR]
  cases hx:a0C a x with
  |none=>trivial
  |some u=>
   simp only
   refine a1x (r:=(Instr.extract (act.eval x) i).run P w) ?_ (a6h (a0D ht hx) i)
   intro v' h
   exact a0S h
 |call c=>exact a8Q ht hs c _ rfl
 |_=>trivial
end
end Go.Ev
namespace Go.Ev
noncomputable section
structure St(φ:Phi)(w:World)(φ₁:Phi)(w₁:World):Prop where
 le:φ.le φ₁
 wk:WK w w₁
 frame: ∀k,k<w.heap.size→(∀i inf,φ i=some inf→inf.blk≠k)→w₁.heap[k]? =w.heap[k]?
 own: ∀i inf,φ₁ i=some inf→(∃j jnf,φ j=some jnf∧jnf.blk=inf.blk)∨w.heap.size≤inf.blk
theorem St.refl(φ:Phi)(w:World):St φ w φ w:=⟨φ.le_refl,.refl w,fun _ _ _=>rfl,fun i inf h=>.inl ⟨i,inf,h,rfl⟩⟩
theorem St.trans{φ ψ χ:Phi}{u v w:World}(h:St φ u ψ v)(k:St ψ v χ w):St φ u χ w:=by
 refine⟨Phi.le_trans h.le k.le,h.wk.trans k.wk,fun b hb hn=> ?_,fun i inf hi=> ?_⟩
 ·rw[k.frame b (Nat.lt_of_lt_of_le hb h.wk.size) ?_]
  ·exact h.frame b hb hn
  ·intro i inf hi e
   rcases h.own i inf hi with⟨j,jnf,h1,h2⟩|h1
   ·exact hn j jnf h1 (h2.trans e)
   ·omega
 ·rcases k.own i inf hi with⟨j,jnf,h1,h2⟩|h1
  ·rcases h.own j jnf h1 with⟨l,lnf,h3,h4⟩|h3
   ·exact .inl ⟨l,lnf,h3,h4.trans h2⟩
   ·exact .inr (by omega)
  ·exact .inr (Nat.le_trans h.wk.size h1)
theorem St.upd{φ:Phi}{w w₁:World}{i:Nat}{inf:Inf}{o:Obj}(hφ:φ i=some inf)(u:Upd w w₁ inf.blk o):St φ w φ w₁:=
 ⟨φ.le_refl,u.wk,fun k _ hn=>u.there k (fun e=>hn i inf hφ e.symm),fun j jnf h=>.inl ⟨j,jnf,h,rfl⟩⟩
theorem St.drew{φ:Phi}{w w₁:World}(h:w₁.heap=w.heap)(h1:w₁.os=w.os)(h2:w₁.tape=w.tape)(h3:w₁.output=w.output):St φ w φ w₁:=
 ⟨φ.le_refl,⟨h1,h2,h3,by rw[h];exact Nat.le_refl _⟩,fun k _ _=>by rw[h],fun j jnf h=>.inl ⟨j,jnf,h,rfl⟩⟩
theorem WK.alloc(w:World)(o:Obj):WK w (w.alloc o):=⟨rfl,rfl,rfl,by rw[World.size_alloc];omega⟩
theorem St.alloc{w0:World}{φ:Phi}{H:VH}{w:World}(h:HSim w0 φ H w)(o:Obj)(s:Nat):St φ w (φ.ext H.next ⟨w.heap.size,0,s⟩) (w.alloc o):=by
 refine⟨Phi.le_ext _ (h.fresh _ (Nat.le_refl _)),WK.alloc w o,fun k hk _=> ?_,fun i inf hi=> ?_⟩
 ·show(w.heap.push o)[k]? =_
  rw[Array.getElem?_push,if_neg (by omega)]
 ·simp only[Phi.ext]at hi
  split at hi
  ·cases hi;exact .inr (Nat.le_refl _)
  ·exact .inl ⟨i,inf,hi,rfl⟩
theorem alloc_old{w:World}{o:Obj}{k:Nat}(hk:k<w.heap.size):(w.alloc o).heap[k]? =w.heap[k]? :=by
 show(w.heap.push o)[k]? =_
 rw[Array.getElem?_push,if_neg (by omega)]
theorem a4n{w:World}{o:Obj}:(w.alloc o).heap[w.heap.size]? =some o:=by
 show(w.heap.push o)[w.heap.size]? =_
 simp
theorem a6c{w:World}{k:Nat}{o:Obj}(h:w.heap[k]? =some o):k<w.heap.size:=(Array.getElem?_eq_some_iff.1 h).1
theorem HSim.grow{w0:World}{φ:Phi}{H:VH}{w:World}(h:HSim w0 φ H w)(o:Obj):HSim w0 φ H (w.alloc o):=by
 have hsz:=h.oldSize
 refine⟨h.env, ?_, ?_,h.own,h.small, ?_,h.inj,h.fresh, ?_⟩
 ·intro r b hb
  obtain⟨x,h1,h2⟩:=h.base r b hb
  exact⟨x,by rw[alloc_old (a6c h1)];exact h1,h2⟩
 ·intro k hk
  rw[alloc_old (by omega)]
  exact h.old k hk
 ·intro i x hx
  obtain⟨inf,x',h1,h2,h3,h4⟩:=h.live i x hx
  exact⟨inf,x',h1,by rw[alloc_old (a6c h2)];exact h2,h3,h4⟩
 ·intro i inf hi
  have:=h.bound i inf hi
  rw[World.size_alloc]
  omega
theorem St.grow(φ:Phi)(w:World)(o:Obj):St φ w φ (w.alloc o):=
 ⟨φ.le_refl,WK.alloc w o,fun _ hk _=>alloc_old hk,fun i inf hi=>.inl ⟨i,inf,hi,rfl⟩⟩
theorem HSim.apart{w0:World}{φ:Phi}{H:VH}{w w₁:World}(h:HSim w0 φ H w){r:Nat}{o:Obj}(u:Upd w w₁ r o)(hun: ∀i inf,φ i=some inf→inf.blk≠r)(h0:w0.heap.size≤r)(hb:H.base.blk r=none):HSim w0 φ H w₁:=by
 refine⟨h.env, ?_, ?_,h.own,h.small, ?_,h.inj,h.fresh, ?_⟩
 ·intro k b hk
  rw[u.there k (fun e=>by rw[e,hb]at hk;cases hk)]
  exact h.base k b hk
 ·intro k hk
  rw[u.there k (by omega)]
  exact h.old k hk
 ·intro i x hx
  obtain⟨inf,x',h1,h2,h3,h4⟩:=h.live i x hx
  exact⟨inf,x',h1,by rw[u.there _ (hun i inf h1)];exact h2,h3,h4⟩
 ·intro i inf hi
  rw[u.size]
  exact h.bound i inf hi
theorem St.apart{φ0:Phi}{ws:World}{φ:Phi}{w w₁:World}(h:St φ0 ws φ w){r:Nat}{o:Obj}(u:Upd w w₁ r o)(hr:ws.heap.size≤r):St φ0 ws φ w₁:=
 ⟨h.le,h.wk.trans u.wk,fun k hk hn=>by rw[u.there k (by omega)];exact h.frame k hk hn,h.own⟩
inductive Out where
 |val (v:VV) (H:VH)
 |skip (H:VH)
 |enter (f:FuncId) (args:List VV)
 |round (i:Nat) (args:List VV)
 |chk (b:Bool) (o:Out)
 |ite (b:Bool) (x y:Out)
 |bad
def a8j(w0:World)(φ:Phi)(H:VH)(w:World)(r:Result Next):Out→Prop
 |.val v H₁=> ∃v' w₁ φ₁,r= .ok (.value v') w₁∧St φ w φ₁ w₁∧VR φ₁ v v'∧HSim w0 φ₁ H₁ w₁∧H₁.base=H.base
 |.skip H₁=> ∃w₁ φ₁,r= .ok .skip w₁∧St φ w φ₁ w₁∧HSim w0 φ₁ H₁ w₁∧H₁.base=H.base
 |.enter f args=> ∃args',r= .ok (.enter f ⟨args'⟩) w∧VRs φ args args'
 |.round i args=> ∃inf L args',φ i=some inf∧w.heap[inf.blk]? =some (.loop L)∧args'.length=L.params.size∧VRs φ args args'∧r= .ok (.round inf.blk L.fn ((L.params.zip ⟨args'⟩).foldl (fun tmps (p:Tmp×Value)=>tmps.setIfInBounds p.1 p.2) L.tmps) L.assign L.body) w
 |.chk b o=>b=true→a8j w0 φ H w r o
 |.ite b x y=>(b=true→a8j w0 φ H w r x)∧(b=false→a8j w0 φ H w r y)
 |.bad=>True
theorem HSim.cells{w0:World}{φ:Phi}{H:VH}{w:World}(h:HSim w0 φ H w)(hn:H.next<top){c:List VV}{c':List Value}(hc:VRs φ c c')(e:TypeId)(g:Option Nat)(s ro:Nat)(rest:List Value)(fr:Nat×Nat)
  (hg:g=none→s=0) (hsz:a5X g s≤rest.length) (hfr: ∀j,j<c.length+a5X g s→ ¬(fr.1≤j∧j<fr.2)):
  HSim w0 (φ.ext H.next ⟨w.heap.size,0,s⟩) (H.alloc (.cells c g ro)) (w.alloc (.cells ⟨c'++rest⟩ e fr)):=by
 have hl:=a0V _ _ hc
 refine h.alloc hn s _ _ ⟨_,e,fr,rfl,⟨by simp;omega,hg, ?_, ?_⟩⟩
 ·intro j x hx
  obtain⟨y,h1,h2⟩:=a1k _ _ hc j x hx
  refine⟨y, ?_,h2.mono (Phi.le_ext _ (h.fresh _ (Nat.le_refl _)))⟩
  have hj:j<c'.length:=by
   rw[List.getElem?_eq_some_iff]at h1;exact h1.1
  simp[List.getElem?_append_left hj,h1]
 ·intro j _ hj
  have:=hfr j hj
  simpa using this
theorem b7Z{φ:Phi}{n b s:Nat}:VR (φ.ext n ⟨b,0,s⟩) (.ptr (some ⟨.loc n,0⟩)) (.pointer (some ⟨b,0,none⟩)):=by
 simp only[VR]
 exact⟨_,s,by unfold AR;exact⟨_,Phi.ext_self _ _ _,rfl,rfl⟩,rfl⟩
theorem a4O{φ:Phi}{n b s l c:Nat}:VR (φ.ext n ⟨b,0,s⟩) (.slice (some ⟨.loc n,0⟩) l c) (.slice (some ⟨b,0,none⟩) l (c+s)):=by
 simp only[VR]
 exact⟨_,s,by unfold AR;exact⟨_,Phi.ext_self _ _ _,rfl,rfl⟩,rfl⟩
theorem a1B{a b:Nat}(h:Nat.blt a b=true):a<b:=by
 have:Nat.ble (a+1) b=true:=h
 exact Nat.le_of_ble_eq_true this
def rep:Nat→List VV→List VV
 |0,_=>[]
 |n+1,z=>z++rep n z
theorem a3Z(z:List VV): ∀n,(rep n z).length=n*z.length
 |0=>by simp[rep]
 |n+1=>by simp only[rep,List.length_append,a3Z z n,Nat.add_mul,Nat.one_mul];omega
theorem b2Y(z:List VV): ∀(n j:Nat),j<n*z.length→(rep n z)[j]? =z[j%z.length]?
 |0,j,h=>by simp at h
 |n+1,j,h=>by
  simp only[rep]
  have hpos:0<z.length:=by
   rcases Nat.eq_zero_or_pos z.length with h0|h0
   ·rw[h0]at h;simp at h
   ·exact h0
  by_cases hj:j<z.length
  ·rw[List.getElem?_append_left hj,Nat.mod_eq_of_lt hj]
  ·rw[List.getElem?_append_right (by omega),b2Y z n (j-z.length) (by rw[Nat.add_mul,Nat.one_mul]at h;omega)]
   rw[Nat.mod_eq_sub_mod (by omega:j≥z.length)]
theorem a4V{φ:Phi}{z:List VV}{z':Array Value}(hz:VRs φ z z'.toList)(n:Nat):VRs φ (rep n z) ((Array.range (n*z.length)).map (fun i=>z'[i%z'.size]!)).toList:=by
 have hl:=a0V _ _ hz
 simp only[Array.length_toList]at hl
 refine a1j _ _ (by simp[a3Z]) fun j x v hx hv=> ?_
 have hj:j<n*z.length:=by
  have:=(List.getElem?_eq_some_iff.1 hx).1
  rwa [a3Z]at this
 rw[b2Y z n j hj]at hx
 obtain⟨y,h1,h2⟩:=a1k _ _ hz _ x hx
 rw[Array.getElem?_toList]at h1 hv
 have hpos:0<z.length:=by
  rcases Nat.eq_zero_or_pos z.length with h0|h0
  ·rw[h0]at hj;simp at hj
  ·exact h0
 have hlt:j%z'.size<z'.size:=by rw[←hl];exact Nat.mod_lt _ hpos
 simp only[Array.getElem?_map,Array.getElem?_range,hj,if_true,Option.map_some,Option.some.injEq]at hv
 subst hv
 rw[hl]at h1
 have:z'[j%z'.size]! =y:=by
  rw[getElem!_pos z' _ hlt]
  have h1':=Array.getElem?_eq_some_iff.1 h1
  exact h1'.2
 rw[this];exact h2
inductive NK where
 |ptr
 |sl (l c:Nat)
 |map
def NK.vv:NK→Nat→VV
 |.ptr,n=>.ptr (some ⟨.loc n,0⟩)
 |.sl l c,n=>.slice (some ⟨.loc n,0⟩) l c
 |.map,n=>.map (some (.loc n))
def NK.real:NK→Nat→Value
 |.ptr,b=>.pointer (some ⟨b,0,none⟩)
 |.sl l c,b=>.slice (some ⟨b,0,none⟩) l c
 |.map,b=>.map (some b)
theorem NK.rel(k:NK)(φ:Phi)(n b:Nat):VR (φ.ext n ⟨b,0,0⟩) (k.vv n) (k.real b):=by
 cases k with
 |ptr=>exact b7Z
 |sl l c=>have:=a4O (φ:=φ) (n:=n) (b:=b) (s:=0) (l:=l) (c:=c);simpa[NK.vv,NK.real]using this
 |map=>simp only[NK.vv,NK.real,VR,BR];exact⟨_,⟨_,Phi.ext_self _ _ _,rfl⟩,rfl⟩
theorem NK.one(k:NK)(b:Nat):(k.real b).oneCell'=true:=by cases k<;>rfl
def b4t(P:Program)(φ:Phi)(s:Sem Next)(k:NK)(o:VO):Prop:=
 ∃obj,(∀w,s.run P w= .ok (.value (k.real w.heap.size)) (w.alloc obj))∧ ∀b,OR φ ⟨b,0,0⟩ o obj
def b1l(H:VH):Option (NK×VO)→Out
 |some (k,o)=>match Nat.blt H.next top with
  |true=>.val (k.vv H.next) (H.alloc o)
  |false=>.bad
 |none=>.bad
theorem a2L{P:Program}{w0:World}{φ:Phi}{H:VH}{w:World}(h:HSim w0 φ H w){s:Sem Next}{x:Option (NK×VO)}(hx: ∀k o,x=some (k,o)→b4t P φ s k o):a8j w0 φ H w (s.run P w) (b1l H x):=by
 cases x with
 |none=>trivial
 |some ko=>
  obtain⟨k,o⟩:=ko
  simp only[b1l]
  cases hn:Nat.blt H.next top with
  |false=>trivial
  |true=>
   obtain⟨obj,h1,h2⟩:=hx k o rfl
   exact⟨_,_,_,h1 w,St.alloc h _ 0,k.rel φ _ _,h.alloc (a1B hn) 0 _ _ ((h2 _).mono (Phi.le_ext _ (h.fresh _ (Nat.le_refl _)))),rfl⟩
theorem a3l{φ:Phi}{c:List VV}{c':Array Value}(hc:VRs φ c c'.toList)(e:TypeId)(b:Nat):OR φ ⟨b,0,0⟩ (.cells c none 0) (.cells c' e):=by
 have hl:=a0V _ _ hc
 refine⟨c',e,(0,0),rfl,⟨?_,fun _=>rfl, ?_, ?_⟩⟩
 ·simp only[a5X]
  have:c'.size=c'.toList.length:=by simp
  omega
 ·intro j x hx
  obtain⟨y,h1,h2⟩:=a1k _ _ hc j x hx
  refine⟨y, ?_,h2⟩
  simpa using h1
 ·intro j _ _ hx
  simp at hx
theorem a6B{P:Program}{t:TypeId}{z:VV}(h:a1a P t=some z)(φ:Phi): ∃z',(∀w,(zeroValue t).run P w= .ok z' w)∧VR φ z z':=by
 unfold a1a at h
 cases hi:P.info? t with
 |none=>rw[hi]at h;simp at h
 |some i=>
  rw[hi]at h
  simp only at h
  cases hz:i.zero with
  |none=>rw[hz]at h;simp at h
  |some z'=>rw[hz]at h;exact⟨z',fun w=>by simp[zeroValue,typeInfo,hi,hz],a5V φ z' z h⟩
def b0l(P:Program)(t:TypeId)(len:Nat)(parts:List (Nat×VV)):Option (NK×VO):=
 match P.underlying t with
 |some (.slice e)=>match P.info? e,a1a P e with
  |some i,some z=>match Nat.ble (len*i.size) 16777216,Nat.beq z.cells.length i.size,Nat.beq (len*i.size) 0 with
   |true,true,false=>match a5C (fun k=>some (k*i.size,i.size)) (rep len z.cells) parts with
    |some cs=>some (.sl len len,.cells cs none 0)
    |none=>none
   |true,_,true=>match a5C (fun k=>some (k*i.size,i.size)) [] parts with
    |some cs=>some (.sl len len,.cells cs none 0)
    |none=>none
   |_,_,_=>none
  |_,_=>none
 |_=>none
theorem a8d{P:Program}{φ:Phi}{t:TypeId}{len:Nat}{parts:List (Nat×VV)}{parts':List (Nat×Value)}(hna: ∀p∈parts,a8B p.2=false)(hp:VRs φ (parts.map (·.2)) (parts'.map (·.2)))(hi:parts.map (·.1)=parts'.map (·.1)){k:NK}{o:VO}(hb:b0l P t len parts=some (k,o)):
  b4t P φ (do pure (Next.value (←Instr.buildSlice t len ⟨parts'⟩)):Sem Next) k o:=by
 unfold b0l at hb
 cases hu:P.underlying t with
 |none=>rw[hu]at hb;cases hb
 |some d=>cases d with
  |slice e=>
   rw[hu]at hb
   simp only at hb
   cases hie:P.info? e with
   |none=>rw[hie]at hb;cases hb
   |some i=>cases hz:a1a P e with
    |none=>rw[hie,hz]at hb;cases hb
    |some z=>
     rw[hie,hz]at hb
     simp only at hb
     obtain⟨z',z1,z2⟩:=a6B (P:=P) hz φ
     have zc:=a1r (a1s hz) z2
     cases h1:Nat.ble (len*i.size) 16777216 with
     |false=>rw[h1]at hb;cases hb
     |true=>
      rw[h1]at hb
      have h1':len*i.size≤16777216:=Nat.le_of_ble_eq_true h1
      have hcap: ¬(len*a2b P e>2^24):=by
       have e24:(2:Nat)^24=16777216:=by decide
       rw[a0t hie,e24]
       omega
      cases h3:Nat.beq (len*i.size) 0 with
      |false=>
       rw[h3]at hb
       have h3':len*i.size≠0:=by intro e0;rw[e0]at h3;simp at h3
       cases h2:Nat.beq z.cells.length i.size with
       |false=>rw[h2]at hb;cases hb
       |true=>
        rw[h2]at hb
        have h2':z.cells.length=i.size:=Nat.eq_of_beq_eq_true h2
        simp only at hb
        cases hf:a5C (fun k=>some (k*i.size,i.size)) (rep len z.cells) parts with
        |none=>rw[hf]at hb;cases hb
        |some cs=>
         rw[hf]at hb
         simp only[Option.some.injEq,Prod.mk.injEq]at hb
         obtain⟨rfl,rfl⟩:=hb
         have hrep:=a4V zc len
         rw[h2']at hrep
         obtain⟨r',r1,r2⟩:=a2P parts parts' _ ((Array.range (len*i.size)).map (fun k=>z'.cells[k%z'.cells.size]!)) cs hna (by simpa using hrep) hp hi hf
         refine⟨_,fun w=> ?_,fun b=>a3l (c':=r') r2 e b⟩
         have hrun:(Instr.buildSlice t len ⟨parts'⟩).run P w= .ok (.slice (some ⟨w.heap.size,0,none⟩) len len) (w.alloc (.cells r' e)):=by
          simp only[Instr.buildSlice,Sem.run_bind,run_underlying hu,Result.andThen_ok,a0H hie]
          rw[if_neg hcap]
          rw[a0t hie,if_neg h3']
          simp[z1,r1,newRow]
         simp[hrun,NK.real]
      |true=>
       rw[h3]at hb
       have h3':len*i.size=0:=Nat.eq_of_beq_eq_true h3
       have hb':(match a5C (fun k=>some (k*i.size,i.size)) [] parts with
         |some cs=>some (NK.sl len len,VO.cells cs none 0)
         |none=>none)=some (k,o):=by
        cases h2:Nat.beq z.cells.length i.size<;>(rw[h2]at hb;exact hb)
       cases hf:a5C (fun k=>some (k*i.size,i.size)) [] parts with
       |none=>rw[hf]at hb';cases hb'
       |some cs=>
        rw[hf]at hb'
        simp only[Option.some.injEq,Prod.mk.injEq]at hb'
        obtain⟨rfl,rfl⟩:=hb'
        obtain⟨r',r1,r2⟩:=a2P parts parts' [] #[] cs hna (by simp[VRs]) hp hi hf
        refine⟨_,fun w=> ?_,fun b=>a3l (c':=r') r2 e b⟩
        have hrun:(Instr.buildSlice t len ⟨parts'⟩).run P w= .ok (.slice (some ⟨w.heap.size,0,none⟩) len len) (w.alloc (.cells r' e)):=by
         simp only[Instr.buildSlice,Sem.run_bind,run_underlying hu,Result.andThen_ok,a0H hie]
         rw[if_neg hcap]
         rw[a0t hie,h3']
         simp[show Array.range 0= #[]from rfl,r1,newRow]
        simp[hrun,NK.real]
  |_=>rw[hu]at hb;cases hb
def b2m(P:Program)(t:TypeId)(l c:VV):Option (NK×VO):=
 match P.underlying t with
 |some (.slice e)=>match P.info? e,a1a P e with
  |some i,some z=>match l,c with
   |.int _ l,.int _ c=>match decide (0≤l),decide (l≤c),decide (c<1099511627776),decide (i.bytes*c≤281474976710656),Nat.beq z.cells.length i.size with
    |true,true,true,true,true=>some (.sl l.toNat c.toNat,.cells (rep c.toNat z.cells) none 0)
    |_,_,_,_,_=>none
   |_,_=>none
  |_,_=>none
 |_=>none
theorem wrap_small{n:Int}(h0:0≤n)(h1:n<1099511627776):IntKind.i64.wrap n=n:=by
 rw[IntKind.wrap_i64]
 omega
theorem a9B{P:Program}{φ:Phi}{t:TypeId}{l c:VV}{l' c':Value}(hl:VR φ l l')(hc:VR φ c c'){k:NK}{o:VO}(hm:b2m P t l c=some (k,o)):
  b4t P φ (do pure (Next.value (←Instr.makeSlice t l' c')):Sem Next) k o:=by
 unfold b2m at hm
 split at hm
 ·rename_i e hu
  split at hm
  ·rename_i i z hie hz
   split at hm
   ·rename_i k1 l k2 c
    split at hm
    ·rename_i h0 h1 h2 h3 hb
     simp only[Option.some.injEq,Prod.mk.injEq]at hm
     obtain⟨rfl,rfl⟩:=hm
     have h0':=of_decide_eq_true h0
     have h1':=of_decide_eq_true h1
     have h2':=of_decide_eq_true h2
     have h3':=of_decide_eq_true h3
     have hb':z.cells.length=i.size:=Nat.eq_of_beq_eq_true hb
     obtain⟨z',z1,z2⟩:=a6B (P:=P) hz φ
     have zc:=a1r (a1s hz) z2
     simp only[VR]at hl hc
     subst hl;subst hc
     have hrep:=a4V zc c.toNat
     rw[hb']at hrep
     have wl:=wrap_small h0' (by omega:l<1099511627776)
     have wc:=wrap_small (by omega:0≤c) h2'
     have hti: ∀w,(typeInfo e).run P w= .ok i w:=fun w=>by simp[typeInfo,hie]
     have hneg: ¬((decide (c<0)||decide (↑i.bytes*c>2^48)||decide (l<0)||decide (l>c))=true):=by
      simp only[Bool.or_eq_true,decide_eq_true_eq,not_or]
      refine⟨⟨⟨by omega,by omega⟩,by omega⟩,by omega⟩
     by_cases h4:c.toNat*i.size=0
     ·have hr: ∀w,(Instr.makeSlice t (.int k1 l) (.int k2 c)).run P w= .ok (.slice (some ⟨w.heap.size,0,none⟩) l.toNat c.toNat) (w.alloc (.cells #[] e)):=by
       intro w
       simp only[Instr.makeSlice,Sem.run_bind,run_underlying hu,Result.andThen_ok,asInt,asIntOf,Sem.run_pure,hti,wl,wc]
       rw[if_neg hneg]
       simp only[Sem.run_bind,run_askRoom,Result.andThen_ok,a0H hie,a0t hie]
       rw[if_pos h4]
       simp[newRow,h4,show Array.range 0= #[]from rfl]
      have hz0:rep c.toNat z.cells= []:=List.eq_nil_of_length_eq_zero (by rw[a3Z,hb',h4])
      refine⟨_,fun w=> ?_,fun b=>a3l (c':= #[]) (by rw[hz0];simp[VRs]) e b⟩
      simp[hr,NK.real]
     ·have hr: ∀w,(Instr.makeSlice t (.int k1 l) (.int k2 c)).run P w= .ok (.slice (some ⟨w.heap.size,0,none⟩) l.toNat c.toNat) (w.alloc (.cells ((Array.range (c.toNat*i.size)).map (fun k=>z'.cells[k%z'.cells.size]!)) e)):=by
       intro w
       simp only[Instr.makeSlice,Sem.run_bind,run_underlying hu,Result.andThen_ok,asInt,asIntOf,Sem.run_pure,hti,wl,wc]
       rw[if_neg hneg]
       simp only[Sem.run_bind,run_askRoom,Result.andThen_ok,a0H hie,a0t hie]
       rw[if_neg h4]
       simp[newRow,z1]
      refine⟨_,fun w=> ?_,fun b=>a3l hrep e b⟩
      simp[hr,NK.real]
    ·cases hm
   ·cases hm
  ·cases hm
 ·cases hm
def a2y(P:Program)(o:Op)(a:VT):Option (NK×VO):=
 match o with
 |.alloc t=>match a1a P t with
  |some z=>some (.ptr,.cells z.cells none 0)
  |none=>none
 |.box _ x=>match a0C a x with
  |some v=>some (.ptr,.cells v.cells none 0)
  |none=>none
 |.buildSlice t len ⟨parts⟩=>match a0z a parts with
  |some ps=>b0l P t len ps
  |none=>none
 |.makeMap t r=>match r with
  |none=>some (.map,.map [] 0)
  |some r=>match P.underlying t,a0C a r with
   |some (.map _ _),some (.int _ _)=>some (.map,.map [] 0)
   |_,_=>none
 |.makeSlice t l c=>match a0C a l,a0C a c with
  |some l,some c=>b2m P t l c
  |_,_=>none
 |_=>none
theorem a1R{P:Program}{φ:Phi}{a:VT}{act:Act}(ht:TR φ a act.tmps)(o:Oper){k:NK}{vo:VO}(h:a2y P o.op a=some (k,vo)):b4t P φ (execOp act.eval o) k vo:=by
 obtain⟨dst,op,type,pos,after,guard⟩:=o
 simp only at h
 cases op with
 |alloc t=>
  simp only[a2y]at h
  cases hz:a1a P t with
  |none=>rw[hz]at h;cases h
  |some z=>
   rw[hz]at h
   simp only[Option.some.injEq,Prod.mk.injEq]at h
   obtain⟨rfl,rfl⟩:=h
   obtain⟨z',z1,z2⟩:=a6B (P:=P) hz φ
   exact⟨_,fun w=>by simp[execOp,Instr.alloc,z1,newVar,newRow,NK.real],fun b=>a3l (a1r (a1s hz) z2) t b⟩
 |box t x=>
  simp only[a2y]at h
  cases hx:a0C a x with
  |none=>rw[hx]at h;cases h
  |some v=>
   rw[hx]at h
   simp only[Option.some.injEq,Prod.mk.injEq]at h
   obtain⟨rfl,rfl⟩:=h
   exact⟨_,fun w=>by simp[execOp,Instr.box,newVar,newRow,NK.real],fun b=>a3l (a1r (a1z hx) (a0D ht hx)) t b⟩
 |buildSlice t len parts=>
  obtain⟨parts⟩:=parts
  simp only[a2y]at h
  cases hp:a0z a parts with
  |none=>rw[hp]at h;cases h
  |some ps=>
   rw[hp]at h
   obtain⟨h1,h2⟩:=a2F ht parts ps hp
   have:=a8d (a1o parts ps hp) h1 h2 h
   simpa[execOp]using this
 |makeMap t r=>
  cases r with
  |none=>
   simp only[a2y,Option.some.injEq,Prod.mk.injEq]at h
   obtain⟨rfl,rfl⟩:=h
   exact⟨.map #[] 0,fun w=>by simp[execOp,Instr.makeMap,NK.real],fun b=>⟨[],rfl,rfl⟩⟩
  |some r=>
   simp only[a2y]at h
   split at h
   ·rename_i k1 e1 kk n hu hr
    simp only[Option.some.injEq,Prod.mk.injEq]at h
    obtain⟨rfl,rfl⟩:=h
    have hv:=a0D ht hr
    simp only[VR]at hv
    exact⟨.map #[] 0,fun w=>by simp[execOp,Instr.makeMap,run_underlying hu,hv,asInt,asIntOf,NK.real],fun b=>⟨[],rfl,rfl⟩⟩
   ·cases h
 |makeSlice t l c=>
  simp only[a2y]at h
  cases hl:a0C a l with
  |none=>rw[hl]at h;cases h
  |some u=>cases hc:a0C a c with
   |none=>rw[hl,hc]at h;cases h
   |some v=>
    rw[hl,hc]at h
    have:=a9B (a0D ht hl) (a0D ht hc) h
    simpa[execOp]using this
 |_=>cases h
end
end Go.Ev
namespace Go.Ev
noncomputable section
def b1b{α:Type}:List α→Nat→α→List α
 | [],_,_=>[]
 |x::l,n,y=>match n with|0=>y::l|m+1=>x::b1b l m y
theorem b1E{E:Env}{k:VV}: ∀(xs:List (VV×VV×Nat)) (i j:Nat) (v:VV),a5b E k xs i=some (some (j,v))→ ∃p e,j=i+p∧xs[p]? =some e∧a2i E k e.1=some true∧e.2.1=v
 | [],i,j,v,h=>by simp[a5b]at h
 |x::xs,i,j,v,h=>by
  simp only[a5b]at h
  cases hq:a2i E k x.1 with
  |none=>rw[hq]at h;cases h
  |some q=>
   rw[hq]at h
   cases q with
   |true=>
    simp only[Option.some.injEq,Prod.mk.injEq]at h
    exact⟨0,x,by omega,rfl,hq,h.2⟩
   |false=>
    obtain⟨p,e,h1,h2,h3,h4⟩:=b1E xs (i+1) j v h
    exact⟨p+1,e,by omega,by simpa using h2,h3,h4⟩
theorem b3k{φ:Phi}: ∀(xs:List (VV×VV×Nat)) (es:List MapEntry),ERs φ xs es→ ∀(i:Nat) (x:VV×VV×Nat),xs[i]? =some x→ ∃e,es[i]? =some e∧VR φ x.1 e.key∧VR φ x.2.1 e.val∧x.2.2=e.born
 | [],_,_,i,x,h=>by simp at h
 |x::xs,es,h,i,y,hy=>by
  obtain⟨z,zs,rfl,h1,h2,h3,h4⟩:=h
  cases i with
  |zero=>simp at hy;subst hy;exact⟨z,rfl,h1,h2,h3⟩
  |succ i=>simp at hy ⊢;exact b3k xs zs h4 i y hy
theorem b3j{φ:Phi}: ∀(xs:List (VV×VV×Nat)) (es:List MapEntry),ERs φ xs es→ ∀(i:Nat) (x:VV×VV×Nat) (e:MapEntry),VR φ x.1 e.key→VR φ x.2.1 e.val→x.2.2=e.born→ERs φ (b1b xs i x) (es.set i e)
 | [],_,h,i,x,e,_,_,_=>by simp only[ERs]at h;subst h;simp[b1b,ERs]
 |y::xs,es,h,i,x,e,h1,h2,h3=>by
  obtain⟨z,zs,rfl,k1,k2,k3,k4⟩:=h
  cases i with
  |zero=>simp only[b1b,List.set_cons_zero,ERs];exact⟨e,zs,rfl,h1,h2,h3,k4⟩
  |succ i=>simp only[b1b,List.set_cons_succ,ERs];exact⟨z,_,rfl,k1,k2,k3,b3j xs zs k4 i x e h1 h2 h3⟩
theorem b1Q{φ:Phi}: ∀(xs:List (VV×VV×Nat)) (es:List MapEntry),ERs φ xs es→ ∀(x:VV×VV×Nat) (e:MapEntry),VR φ x.1 e.key→VR φ x.2.1 e.val→x.2.2=e.born→ERs φ (xs++ [x]) (es++ [e])
 | [],_,h,x,e,h1,h2,h3=>by simp only[ERs]at h;subst h;simp only[List.nil_append,ERs];exact⟨e,[],rfl,h1,h2,h3,rfl⟩
 |y::xs,es,h,x,e,h1,h2,h3=>by
  obtain⟨z,zs,rfl,k1,k2,k3,k4⟩:=h
  simp only[List.cons_append,ERs]
  exact⟨z,_,rfl,k1,k2,k3,b1Q xs zs k4 x e h1 h2 h3⟩
theorem a3X{P:Program}{w:World}{r:Nat}{o o₁:Obj}(h:w.heap[r]? =some o)(hn: ∀c e f,o≠ .cells c e f):(setObj r o₁).run P w= .ok () {w with heap:=w.heap.setIfInBounds r o₁}∧Upd w {w with heap:=w.heap.setIfInBounds r o₁} r o₁:=by
 have hlt:=(Array.getElem?_eq_some_iff.1 h).1
 refine⟨?_,⟨rfl,rfl,rfl,by simp,by simp[hlt],fun k hk=>by simp only[Array.getElem?_setIfInBounds];rw[if_neg (fun e=>hk e.symm)]⟩⟩
 cases o<;>first|exact absurd rfl (hn _ _ _)|simp only[setObj,Sem.run,h]
theorem b0B{E:Env}{w0:World}{φ:Phi}(he:EnvOK E φ w0){k y:VV}{k' y':Value}(h:a2i E k y=some true)(hk:VR φ k k')(hy:VR φ y y')(n:Nat):Instr.sameBits n y' k'=true:=by
 cases k with
 |int kk a=>cases y with
  |int kk' b=>
   simp only[a2i]at h
   cases hq:kEq kk kk' with
   |false=>rw[hq]at h;cases h
   |true=>
    rw[hq]at h
    have e:kk=kk':=of_decide_eq_true hq
    simp only[Option.some.injEq,beq_iff_eq]at h
    simp only[VR]at hk hy;subst hk;subst hy;subst e;subst h
    cases n<;>simp[Instr.sameBits]
  |sint kk' j=>
   obtain⟨kk,u,v,rfl,rfl,e⟩:=a0x he (by simpa only[a2i]using h) hk hy
   have e':u=v:=by simpa using e.symm
   subst e'
   cases n<;>simp[Instr.sameBits]
  |_=>simp[a2i]at h
 |sint kk j=>
  obtain⟨kk,u,v,rfl,rfl,e⟩:=a0x he (by simpa only[a2i]using h) hk hy
  have e':u=v:=by simpa using e.symm
  subst e'
  cases n<;>simp[Instr.sameBits]
 |string s=>cases y with
  |string s'=>
   simp only[a2i,Option.some.injEq]at h
   rw[a5e]at h
   simp only[VR]at hk hy;subst hk;subst hy
   have e:s.toList=s'.toList:=by simpa using h
   cases n<;>simp only[Instr.sameBits,beq_toListBytes,e]<;>simp
  |_=>simp[a2i]at h
 |_=>simp[a2i]at h
def a8I(P:Program)(H:VH)(t:TypeId)(m k v:VV):Out:=
 match P.underlying t,m with
 |some (.map kt _),.map (some (.loc i))=>match P.underlying kt,H.locs.get i with
  |some kd,some (.map es c)=>match b0x kd k,a5b H.base k es 0 with
   |true,some (some (j,_))=>match a0k es j with
    |some e=>.skip {H with locs:=H.locs.put i (.map (b1b es j (k,v,e.2.2)) c)}
    |none=>.bad
   |true,some none=>.skip {H with locs:=H.locs.put i (.map (es++ [(k,v,c)]) (c+1))}
   |_,_=>.bad
  |_,_=>.bad
 |_,_=>.bad
theorem a3x{P:Program}{w0:World}{φ:Phi}{H:VH}{w:World}(h:HSim w0 φ H w){t:TypeId}{m k v:VV}{m' k' v':Value}(hm:VR φ m m')(hk:VR φ k k')(hv:VR φ v v'):
  a8j w0 φ H w ((do Instr.mapUpdate t m' k' v';pure Next.skip:Sem Next).run P w) (a8I P H t m k v):=by
 unfold a8I
 cases hu:P.underlying t with
 |none=>trivial
 |some d=>cases d with
  |map kt et=>cases m with
   |map b=>cases b with
    |none=>trivial
    |some b=>cases b with
     |base r=>trivial
     |sym r=>trivial
     |loc i=>
      simp only
      cases hkt:P.underlying kt with
      |none=>trivial
      |some kd=>cases hg:H.locs.get i with
       |none=>trivial
       |some o=>cases o with
        |map es c=>
         simp only
         cases hkd:b0x kd k with
         |false=>trivial
         |true=>
          simp only[VR,BR]at hm
          obtain⟨r,⟨inf,hφ,rfl⟩,rfl⟩:=hm
          obtain⟨inf',o',hφ',hw,⟨es',rfl,hes⟩,_⟩:=h.live i _ hg
          rw[hφ]at hφ';cases hφ'
          have hck: ∀e:Bool,(Instr.checkKey e 10000 kt k').run P w= .ok () w:=fun e=>run_checkKey (P:=P) (w:=w) hkt hkd hk e 9999
          cases hf:a5b H.base k es 0 with
          |none=>trivial
          |some rr=>
           obtain⟨r',k1,k2⟩:=a4K h.env hkd hk es es' 0 rr hes hf
           have hfk:(Instr.findKey kt k' es').run P w= .ok r' w:=by simp[Instr.findKey,run_underlying hkt,k1]
           cases rr with
           |none=>
            simp only at k2
            subst k2
            simp only
            obtain⟨s1,s2⟩:=a3X (P:=P) (o₁:=.map ((⟨es'⟩:Array MapEntry).push {key:=k',val:=v',born:=c}) (c+1)) hw (by simp)
            refine⟨_,φ, ?_,St.upd hφ s2,h.put hg hφ s2 ⟨es'++ [{key:=k',val:=v',born:=c}],by simp,b1Q _ _ hes _ _ hk hv rfl⟩,rfl⟩
            simp only[Instr.mapUpdate,Sem.run_bind,run_underlying hu,Result.andThen_ok,run_getObj_map hw,hck,hfk,s1,Sem.run_pure]
           |some jv=>
            obtain⟨j,v0⟩:=jv
            simp only at k2
            obtain⟨v0',rfl,_⟩:=k2
            obtain⟨p,e,rfl,e1,e2,_⟩:=b1E es 0 j v0 hf
            simp only[Nat.zero_add]at*
            rw[a1H,e1]
            simp only
            obtain⟨e',g1,g2,g3,g4⟩:=b3k _ _ hes p e e1
            have hsb:=b0B h.env e2 hk g2 10000
            have hlt:p<es'.length:=(List.getElem?_eq_some_iff.1 g1).1
            obtain⟨s1,s2⟩:=a3X (P:=P) (o₁:=.map ((⟨es'⟩:Array MapEntry).modify p fun e=>{e with key:=k',val:=v'}) c) hw (by simp)
            refine⟨_,φ, ?_,St.upd hφ s2,h.put hg hφ s2 ⟨es'.set p {e' with key:=k',val:=v'}, ?_,b3j _ _ hes _ _ _ hk hv g4⟩,rfl⟩
            ·have hks:(Instr.keyThatStays (((⟨es'⟩:Array MapEntry)[p]?).map (·.key)|>.getD k') k').run P w= .ok k' w:=by
              simp[Instr.keyThatStays,g1,hsb]
             simp only[Instr.mapUpdate,Sem.run_bind,run_underlying hu,Result.andThen_ok,run_getObj_map hw,hck,hfk,hks,s1,Sem.run_pure]
            ·congr 1
             apply Array.ext'
             simp only[Array.toList_modify]
             apply List.ext_getElem?
             intro q
             rw[List.getElem?_modify,List.getElem?_set]
             by_cases hq:p=q
             ·subst hq;rw[g1];simp[hlt]
             ·simp[hq]
        |_=>trivial
   |_=>trivial
  |_=>cases m<;>trivial
def a2A:VV→Option Nat
 |.slice none 0 _=>some 0
 |.slice (some _) n _=>some n
 |.sliceE=>some 0
 |.string s=>some s.size
 |_=>none
def strCells:List UInt8→List VV
 | []=>[]
 |b::l=>.int .u8 b.toNat::strCells l
def a0U(H:VH)(size n:Nat):VV→Option (List VV)
 |.slice none 0 _=>some []
 |.slice (some a) _ _=>a5a H a (n*size)
 |.sliceE=>match n with|0=>some []|_=>none
 |.string s=>match Nat.beq n s.size,Nat.beq size 1 with|true,true=>some (strCells s.data.toList)|_,_=>none
 |_=>none
theorem a3q{φ:Phi}: ∀(l:List UInt8),VRs φ (strCells l) (l.map fun b=>Value.int .u8 b.toNat)
 | []=>by simp[strCells,VRs]
 |b::l=>by simp only[strCells,List.map_cons,VRs];exact⟨_,_,rfl,by simp[VR],a3q l⟩
theorem a5O{P:Program}{φ:Phi}{w:World}{x:VV}{x':Value}(hx:VR φ x x'){n:Nat}(h:a2A x=some n):(Builtin.lenOf x').run P w= .ok n w:=by
 cases x with
 |slice p l c=>cases p with
  |none=>
   simp only[VR]at hx;subst hx
   cases l with
   |zero=>simp only[a2A,Option.some.injEq]at h;subst h;rfl
   |succ l=>simp[a2A]at h
  |some a=>simp only[VR]at hx;obtain⟨_,_,_,rfl⟩:=hx;simp only[a2A,Option.some.injEq]at h;subst h;rfl
 |sliceE=>simp only[VR]at hx;obtain⟨_,_,rfl⟩:=hx;simp only[a2A,Option.some.injEq]at h;subst h;rfl
 |string s=>simp only[VR]at hx;subst hx;simp only[a2A,Option.some.injEq]at h;subst h;rfl
 |_=>simp[a2A]at h
theorem a0r{P:Program}{w0:World}{φ:Phi}{H:VH}{w:World}(h:HSim w0 φ H w){x:VV}{x':Value}(hx:VR φ x x'){size n:Nat}{l:List VV}(hl:a0U H size n x=some l):
  ∃l',(Builtin.firstCells size n x').run P w= .ok ⟨l'⟩ w∧VRs φ l l':=by
 cases x with
 |slice p k c=>cases p with
  |none=>
   simp only[VR]at hx;subst hx
   cases k with
   |zero=>simp only[a0U,Option.some.injEq]at hl;subst hl;exact⟨[],rfl,by simp[VRs]⟩
   |succ k=>simp[a0U]at hl
  |some a=>
   simp only[VR]at hx
   obtain⟨a',s,ha,rfl⟩:=hx
   obtain⟨vs,h1,h2,_,h4⟩:=a2N h ha hl
   refine⟨vs, ?_,h1⟩
   have hrun:=run_loadCells_list (P:=P) w a' vs h4
   rw[h2]at hrun
   exact hrun
 |sliceE=>
  simp only[VR]at hx
  obtain⟨a',c,rfl⟩:=hx
  cases n with
  |zero=>simp only[a0U,Option.some.injEq]at hl;subst hl;exact⟨[],by simp[Builtin.firstCells,loadCells,loadCellsFrom],by simp[VRs]⟩
  |succ n=>simp[a0U]at hl
 |string s=>
  simp only[VR]at hx;subst hx
  simp only[a0U]at hl
  cases hb:Nat.beq n s.size with
  |false=>rw[hb]at hl;cases hl
  |true=>
   cases hb1:Nat.beq size 1 with
   |false=>rw[hb,hb1]at hl;cases hl
   |true=>
   rw[hb,hb1]at hl
   simp only[Option.some.injEq]at hl
   subst hl
   have e:n=s.size:=Nat.eq_of_beq_eq_true hb
   subst e
   refine⟨s.data.toList.map fun b=>Value.int .u8 b.toNat, ?_,a3q _⟩
   simp only[Builtin.firstCells,Sem.run_pure]
   congr 1
   apply Array.ext'
   have:s.extract 0 s.size=s:=by
    apply ByteArray.ext
    simp
   rw[this]
   simp
 |_=>simp[a0U]at hl
theorem strCells_length: ∀(l:List UInt8),(strCells l).length=l.length
 | []=>rfl
 |b::l=>by simp[strCells,strCells_length l]
theorem a9L{w0:World}{φ:Phi}{H:VH}{w:World}(h:HSim w0 φ H w){a:VA}{a':Addr}{s n:Nat}(ha:AR φ a a' s){xs:List VV}(hl:a5a H a n=some xs):xs.length=n:=by
 obtain⟨vs,h1,h2,_,_⟩:=a2N h ha hl
 rw[a0V _ _ h1,h2]
theorem a5x{w0:World}{φ:Phi}{H:VH}{w:World}(h:HSim w0 φ H w){x:VV}{x':Value}(hx:VR φ x x'){size n:Nat}(hn:a2A x=some n){l:List VV}(hl:a0U H size n x=some l):l.length=n*size:=by
 cases x with
 |slice p k c=>cases p with
  |none=>cases k with
   |zero=>simp only[a2A,Option.some.injEq]at hn;subst hn;simp only[a0U,Option.some.injEq]at hl;subst hl;simp
   |succ k=>simp[a0U]at hl
  |some a=>
   simp only[VR]at hx
   obtain⟨a',s,ha,rfl⟩:=hx
   exact a9L h ha hl
 |sliceE=>simp only[a2A,Option.some.injEq]at hn;subst hn;simp only[a0U,Option.some.injEq]at hl;subst hl;simp
 |string s=>
  simp only[a0U]at hl
  cases hb:Nat.beq n s.size with
  |false=>rw[hb]at hl;cases hl
  |true=>cases hb1:Nat.beq size 1 with
   |false=>rw[hb,hb1]at hl;cases hl
   |true=>
    rw[hb,hb1]at hl
    simp only[Option.some.injEq]at hl
    subst hl
    rw[strCells_length,Nat.eq_of_beq_eq_true hb1,Nat.eq_of_beq_eq_true hb]
    simp
 |_=>simp[a0U]at hl
def a1l(P:Program):Option TypeId→Bool
 |none=>true
 |some t=>match P.underlying t with
  |some (.int _)=>false
  |some _=>true
  |none=>false
def a8U(P:Program)(H:VH)(t:TypeId)(xt:Option TypeId)(s x:VV):Out:=
 match P.underlying t with
 |some (.slice e)=>match a1l P xt,P.info? e,a1a P e,a2A x with
  |true,some i,some z,some n=>match s with
   |.slice base len cap=>.ite (Nat.ble (len+n) cap)
     (match n with
      |0=>.val (.slice base len cap) H
      |n+1=>match base with
       |none=>.bad
       |some a=>match a0U H i.size (n+1) x with
        |none=>.bad
        |some new=>match a3v H (a.add (len*i.size)) new with
         |some H₁=>.val (.slice (some a) (len+(n+1)) cap) H₁
         |none=>.bad)
     (.chk (Nat.ble ((len+n)*i.bytes) 140737488355328) (.chk (Nat.blt (len+n) 1099511627776) (match Nat.beq z.cells.length i.size,Nat.blt H.next top with
      |true,true=>match a0U H i.size len (.slice base len cap),a0U H i.size n x with
       |some old,some new=>match base with
        |none=>.val (.slice (some ⟨.loc H.next,0⟩) (len+n) (len+n)) (H.alloc (.cells (old++new) (some i.size) 0))
        |some a=>match a.b with
         |.base _=>.val (.slice (some ⟨.loc H.next,0⟩) (len+n) (len+n)) (H.alloc (.cells (old++new) (some i.size) 0))
         |.sym _=>.bad
         |.loc b=>match H.locs.get b with
          |some (.cells _ none _)=>.val (.slice (some ⟨.loc H.next,0⟩) (len+n) (len+n)) (H.alloc (.cells (old++new) (some i.size) 0))
          |some (.cells c (some sz) ro)=>match Nat.beq sz i.size,Nat.beq (a.o+cap*i.size) c.length,Nat.ble ro (a.o+len*i.size),flat new with
           |true,true,true,true=>.val (.slice (some ⟨.loc H.next,0⟩) (len+n) (len+n)) {H with locs:=(H.locs.del b).put H.next (.cells (old++new) (some i.size) (ro-a.o)),next:=H.next+1}
           |_,_,_,_=>.bad
          |_=>.bad
       |_,_=>.bad
      |_,_=>.bad)))
   |.sliceE=>match n with
    |0=>.val .sliceE H
    |_+1=>.bad
   |_=>.bad
  |_,_,_,_=>.bad
 |_=>.bad
theorem a7I{P:Program}{φ:Phi}{w:World}{x:VV}{x':Value}(hx:VR φ x x')(h:a2A x=some 0)(size:Nat):(Builtin.firstCells size 0 x').run P w= .ok #[] w:=by
 cases x with
 |slice p l c=>cases p with
  |none=>simp only[VR]at hx;subst hx;rfl
  |some a=>simp only[VR]at hx;obtain⟨_,_,_,rfl⟩:=hx;simp[Builtin.firstCells,loadCells,loadCellsFrom]
 |sliceE=>simp only[VR]at hx;obtain⟨_,_,rfl⟩:=hx;simp[Builtin.firstCells,loadCells,loadCellsFrom]
 |string s=>
  simp only[VR]at hx;subst hx
  simp only[Builtin.firstCells,Sem.run_pure]
  congr 1
  apply Array.ext'
  simp
 |_=>simp[a2A]at h
def b7O:TypeDesc→Bool
 |.int _=>true
 |_=>false
theorem a5q{P:Program}{xt:Option TypeId}(h:a1l P xt=true):xt=none∨ ∃t2 d,xt=some t2∧P.underlying t2=some d∧b7O d=false:=by
 cases xt with
 |none=>exact .inl rfl
 |some t=>
  simp only[a1l]at h
  cases hu:P.underlying t with
  |none=>rw[hu]at h;cases h
  |some d=>
   rw[hu]at h
   refine .inr ⟨t,d,rfl,hu, ?_⟩
   cases d<;>first|rfl|(cases h)
section
variable{P:Program}{w:World}{t e ty:TypeId}{ts:List TypeId}{i:TypeInfo}{z':Value}
set_option maxHeartbeats 4000000 in
theorem a2B(hu:P.underlying t=some (.slice e))(hi:P.info? e=some i)(hp:a1l P ts.head? =true){base:Option Addr}{len cap n:Nat}{x':Value}(hn:(Builtin.lenOf x').run P w= .ok n w)(hle:len+n≤cap)
  {new:List Value} (hnew:(Builtin.firstCells i.size n x').run P w= .ok ⟨new⟩ w) {w₁:World} (hst:(match base with|some a=>storeCells (a.add (len*i.size)) new|none=>pure ()).run P w= .ok () w₁):
  (Builtin.append_ ⟨t::ts⟩ ty #[.slice base len cap,x']).run P w= .ok (.slice base (len+n) cap) w₁:=by
 have h0:(⟨t::ts⟩:Array TypeId)[0]? =some t:=by simp
 have hget:(⟨t::ts⟩:Array TypeId)[1]? =ts.head? :=by cases ts<;>simp
 rcases a5q hp with hz|⟨t2,d,hz,hu2,hd⟩
 ·cases base with
  |none=>simp at hst;subst hst;simp[Builtin.append_,hz,run_underlying hu,a0H hi,a0t hi,hn,hle,hnew,hget]
  |some a=>simp at hst;simp[Builtin.append_,hz,run_underlying hu,a0H hi,a0t hi,hn,hle,hnew,hst,hget]
 ·cases d<;>(try (cases hd;done))<;>(cases base with
   |none=>simp at hst;subst hst;simp[Builtin.append_,hz,run_underlying hu,a0H hi,a0t hi,hn,hle,hnew,run_underlying hu2,hget]
   |some a=>simp at hst;simp[Builtin.append_,hz,run_underlying hu,a0H hi,a0t hi,hn,hle,hnew,hst,run_underlying hu2,hget])
set_option maxHeartbeats 4000000 in
theorem a6y(hu:P.underlying t=some (.slice e))(hi:P.info? e=some i)(hz':i.zero=some z')(hp:a1l P ts.head? =true){base:Option Addr}{len cap n:Nat}{x':Value}(hn:(Builtin.lenOf x').run P w= .ok n w)(hlt:cap<len+n)
  (hb:(len+n)*i.bytes≤140737488355328) (hs:len+n<1099511627776)
  {old new:List Value} (hold:(Builtin.firstCells i.size len (.slice base len cap)).run P w.drew= .ok ⟨old⟩ w.drew) (hnew:(Builtin.firstCells i.size n x').run P w.drew= .ok ⟨new⟩ w.drew):
  (Builtin.append_ ⟨t::ts⟩ ty #[.slice base len cap,x']).run P w= .ok (.slice (some ⟨w.heap.size,0,none⟩) (len+n) (grownCap w (len+n) cap e)) (w.drew.alloc (.cells ⟨old++(new++(Builtin.zeroCells z'.cells (grownCap w (len+n) cap e-(len+n))).toList)⟩ e)):=by
 have h0:(⟨t::ts⟩:Array TypeId)[0]? =some t:=by simp
 have hget:(⟨t::ts⟩:Array TypeId)[1]? =ts.head? :=by cases ts<;>simp
 have hfit:=growslice_fits hlt hb
 have hti: ∀w,(typeInfo e).run P w= .ok i w:=fun w=>by simp[typeInfo,hi]
 have hzv: ∀w,(zeroValue e).run P w= .ok z' w:=fun w=>by simp[zeroValue,typeInfo,hi,hz']
 have n1: ¬(len+n≤cap):=by omega
 have n2: ¬(9223372036854775807<(len:Int)+(n:Int)):=by omega
 have n3: ¬(281474976710656<Builtin.nextslicecap (len+n) cap*i.bytes):=by omega
 have nf:(Question.appendCap (len+n) cap e).forced=false:=rfl
 have arr: ∀(a b:List Value) (c:Array Value),(⟨a⟩:Array Value)++((⟨b⟩:Array Value)++c)=⟨a++(b++c.toList)⟩:=fun a b c=>by apply Array.ext';simp
 rcases a5q hp with hz|⟨t2,d,hz,hu2,hd⟩
 ·simp[Builtin.append_,hz,run_underlying hu,a0H hi,a0t hi,hn,n1,n2,n3,nf,hti,hzv,hold,hnew,hget,newRow,grownCap,arr]
 ·cases d<;>(try (cases hd;done))<;>simp[Builtin.append_,hz,run_underlying hu,run_underlying hu2,a0H hi,a0t hi,hn,n1,n2,n3,nf,hti,hzv,hold,hnew,hget,newRow,grownCap,arr]
end
end
end Go.Ev
