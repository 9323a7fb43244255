/- Engine, part Tg: states at heads of loops: data, and blocks of the code's own; what a leaf says of them. -/
import Derived.Test.YtmmmknhdigapkaaEvTf
namespace Go.Ev
set_option linter.unusedVariables false
noncomputable section
open Go.RowKit
inductive SV where
 |d (j:Nat)
 |st (js:List Nat)
 |p (q o:Nat)
 |k (x:VV)
 |own (q j jn:Nat)
 |tu (sh:List Sh) (j:Nat)
 |fp (f:FuncId) (q:Nat)
inductive BlS where
 |cells (c:List SV) (g:Option Nat) (ro:Nat) (et:Option TypeId)
 |lst (j jn:Nat) (ts:List Ty) (et:Option TypeId) (n:Nat)
structure Sig where
 tys:List Ty
 tm:List (Nat×SV)
 bl:List BlS
def c3d(bs:List (Nat×Bool))(tys:List Ty)(j:Nat):VV:=match a0H tys j with
 |some t=>tvv bs j t|none=>.any
def c8W(bs:List (Nat×Bool))(tys:List Ty):SV→VV
 |.d j=>c3d bs tys j|.st js=>.agg (js.map (c3d bs tys))|.p q o=>.ptr (some ⟨.loc q,o⟩)|.k x=>x
 |.own q j jn=>match a0s jn bs with
  |some true=>.slice none 0 0|some false=>.lsl q j 0|none=>.any
 |.tu sh j=>.tuple (vvS sh ((List.range' j (a0F sh).length).map (c3d bs tys)))|.fp f q=>.func (.func f) [.ptr (some ⟨.loc q,0⟩)] []
def a3w(infs:List (Option Inf))(i:Nat):Option Inf:=match infs[i]? with
 |some (some inf)=>some inf|_=>none
def svR(σ:List G)(infs:List (Option Inf)):SV→Value→Prop
 |.d j,v=>v=(σ.getD j .d).val|.st js,v=>v= .agg ⟨js.map fun j=>(σ.getD j .d).val⟩|.p q o,v=> ∃inf,a3w infs q=some inf∧v= .pointer (some ⟨inf.blk,inf.off+o,none⟩)|.k x,v=> ∀φ,VR φ x v|.own q j jn,v=>(σ.getD jn .d= .b true∧v= .slice none 0 0)∨(σ.getD jn .d= .b false∧ ∃inf es,a3w infs q=some inf∧σ.getD j .d= .w es∧v= .slice (some ⟨inf.blk,inf.off,none⟩) es.length (es.length+inf.slack))|.tu sh j,v=>TyL (a0F sh) ((List.range' j (a0F sh).length).map fun i=>σ.getD i .d)∧v= .tuple ⟨a3e sh ((List.range' j (a0F sh).length).map fun i=>σ.getD i .d)⟩|.fp f q,v=> ∃inf,a3w infs q=some inf∧v= .func (.func f) ⟨[.pointer (some ⟨inf.blk,inf.off,none⟩)]⟩ ⟨[]⟩
def d1p(bs:List (Nat×Bool))(tys:List Ty):BlS→Option VO
 |.cells c g ro et=>some (.cells (c.map (c8W bs tys)) g ro et)
 |.lst j jn ts et _=>match a0s jn bs with
  |some false=>some (.list j j ts.length [] et)|_=>none
def c8S(σ:List G)(infs:List (Option Inf))(w:World)(c:List SV)(g:Option Nat)(ro:Nat)(et:Option TypeId)(inf:Inf):Prop:=
 ∃c' e fr,w.heap[inf.blk]? =some (.cells c' e fr)∧inf.off+c.length+a7R g inf.slack≤c'.size∧(g=none→inf.slack=0)∧(∀j sv,c[j]? =some sv→ ∃y,c'[inf.off+j]? =some y∧svR σ infs sv y)∧fr.2≤inf.off+ro∧(∀t,et=some t→e=t∧(g=none→inf.off=0∧c'.size=c.length))
def d5K(w:World)(ts:List Ty)(et:Option TypeId)(es:List (List G))(inf:Inf):Prop:=
 ∃c' e fr cs,w.heap[inf.blk]? =some (.cells c' e fr)∧c4V es=some cs∧cs.length=es.length*ts.length∧inf.off+cs.length+inf.slack*ts.length≤c'.size∧(∀j y,cs[j]? =some y→ ∃v,c'[inf.off+j]? =some v∧ ∀φ,VR φ y v)∧fr.2≤inf.off∧(∀t,et=some t→e=t)
def e3U(σ:List G)(infs:List (Option Inf))(w:World)(b:BlS)(oi:Option Inf):Prop:=match b with
 |.cells c g ro et=> ∃inf,oi=some inf∧c8S σ infs w c g ro et inf|.lst j jn ts et n=>(σ.getD jn .d= .b true∧oi=none∧σ.getD j .d= .w [])∨(σ.getD jn .d= .b false∧ ∃inf es,oi=some inf∧σ.getD j .d= .w es∧es.length≤n∧d5K w ts et es inf)
def a1Y(infs:List (Option Inf)):List Nat:=infs.filterMap fun o=>o.map Inf.blk
theorem c0h{infs:List (Option Inf)}{i:Nat}{inf:Inf}(h:a3w infs i=some inf):infs[i]? =some (some inf):=by
 unfold a3w at h;split at h
 ·rename_i inf' hi;cases h;exact hi
 ·cases h
theorem c7K{infs:List (Option Inf)}{i:Nat}{inf:Inf}(h:infs[i]? =some (some inf)):a3w infs i=some inf:=by unfold a3w;rw[h]
theorem a1V{infs:List (Option Inf)}{b:Nat}:b∈a1Y infs↔ ∃i inf,a3w infs i=some inf∧inf.blk=b:=by
 unfold a1Y;rw[List.mem_filterMap];constructor
 ·rintro⟨o,h1,h2⟩;cases o with
  |none=>cases h2
  |some inf=>obtain⟨i,hi,h3⟩:=List.getElem_of_mem h1;refine⟨i,inf,c7K (by rw[List.getElem?_eq_getElem hi,h3]),by simpa using h2⟩
 ·rintro⟨i,inf,h1,rfl⟩;exact⟨some inf,List.mem_of_getElem? (c0h h1),rfl⟩
def a0W(w:World):List Nat→World
 | []=>w|b::l=>less (a0W w l) b
theorem a1m(w:World): ∀l,(a0W w l).heap.size=w.heap.size
 | []=>rfl
 |b::l=>by rw[a0W,c6s,a1m w l]
theorem a7X{w:World}{k:Nat}: ∀{l:List Nat},k∉l→(a0W w l).heap[k]? =w.heap[k]?
 | [],_=>rfl
 |b::l,h=>by rw[a0W,b4B (fun e=>h (by rw[e];exact List.mem_cons_self)),a7X fun hk=>h (List.mem_cons_of_mem _ hk)]
theorem a4L{w:World}{a:Addr}{v:Value}: ∀{l:List Nat},(∀b∈l,b<w.heap.size)→(a0W w l).cell? a=some v→a.block∉l∧w.cell? a=some v
 | [],_,h=>⟨by simp,h⟩
 |b::l,hl,h=>by
  obtain⟨h1,h2⟩:=c6t (by rw[a1m];exact hl b List.mem_cons_self) h;obtain⟨g1,g2⟩:=a4L (fun b hb=>hl b (List.mem_cons_of_mem _ hb)) h2
  exact⟨fun hm=>by
   rcases List.mem_cons.1 hm with e|hm
   ·exact h1 e
   ·exact g1 hm,g2⟩
theorem a9a{w:World}{a:Addr}{v:Value}{l:List Nat}(h:w.cell? a=some v)(hl:a.block∉l):(a0W w l).cell? a=some v:=by rw[←h];unfold World.cell?;rw[a7X hl]
structure AncO(O:List Inf)(w0 w:World):Prop where
 wk:WK w0 w
 old: ∀k,k<w0.heap.size→(∀o∈O,o.blk≠k)→w.heap[k]? =w0.heap[k]?
theorem AncO.refl(O:List Inf)(w:World):AncO O w w:=⟨.refl w,fun _ _ _=>rfl⟩
structure HeadSt(O:List Inf)(L:List Nat)(nt:Nat)(sg:Sig)(σ:List G)(infs:List (Option Inf))(we:World)(act:Act)(w:World):Prop where
 sz:act.tmps.size=nt
 df:act.defers= []
 tm: ∀q∈sg.tm,svR σ infs q.2 (act.tmps.getD q.1 undef)
 il:infs.length=sg.bl.length
 bl: ∀(q:Nat) (b:BlS),sg.bl[q]? =some b→e3U σ infs w b (a3w infs q)
 nd: ∀i j inf jnf,a3w infs i=some inf→a3w infs j=some jnf→inf.blk=jnf.blk→i=j
 ge: ∀i inf,a3w infs i=some inf→(∃(q:Nat) (o:Inf),O[q]? =some o∧o.blk=inf.blk)∨we.heap.size≤inf.blk
 lt: ∀i inf,a3w infs i=some inf→inf.blk<w.heap.size
 ty:TyL sg.tys σ
 mem:GML (a0W w (L++a1Y infs)) σ
 an:AncO O we w
 pin: ∀(q:Nat) (o:Inf),O[q]? =some o→a3w infs q=some o
def b3O:List (Option VO)→Nat→TT VO→TT VO
 | [],_,t=>t
 |o::l,i,t=>match o with
  |some x=>b3O l (i+1) (t.put i x)|none=>b3O l (i+1) t
theorem b6o: ∀(l:List (Option VO)) (i:Nat) (t:TT VO) (k:Nat) (x:VO),i+l.length≤top→(b3O l i t).get k=some x→(i≤k∧l[k-i]? =some (some x))∨t.get k=some x
 | [],i,t,k,x,_,h=>.inr h
 |o::l,i,t,k,x,hl,h=>by
  simp only[List.length_cons]at hl;have up: ∀{u:TT VO},(b3O l (i+1) u).get k=some x→(i+1≤k∧l[k-(i+1)]? =some (some x))∨u.get k=some x:=fun{u} hu=>b6o l (i+1) u k x (by omega) hu;have sh:i+1≤k→l[k-(i+1)]? =some (some x)→i≤k∧(o::l)[k-i]? =some (some x):=fun h1 h2=>⟨by omega,by rw[show k-i=(k-(i+1))+1 by omega];simpa using h2⟩;simp only[b3O]at h;split at h
  ·rename_i y;rcases up h with⟨h1,h2⟩|h
   ·exact .inl (sh h1 h2)
   ·by_cases e:k=i
    ·subst e;rw[TT.get_put_same _ _ _ (by omega)]at h;cases h;exact .inl ⟨Nat.le_refl _,by simp⟩
    ·rw[TT.get_put_other _ _ _ _ e]at h;exact .inr h
  ·rcases up h with⟨h1,h2⟩|h
   ·exact .inl (sh h1 h2)
   ·exact .inr h
section
variable{L:List Nat}{P:Program}{S:Nat→Prop}{nt:Nat}{sg:Sig}{σ τ:List G}{β:List (Nat×Nat)}{infs:List (Option Inf)}{we:World}{act:Act}{w:World}{p:PI}{us:List Ty}
theorem b6a(h:PIok P S (a0W w (L++a1Y infs)) (σ++τ) β p)(ht:p.tys=sg.tys++us)(hs:TyL sg.tys σ){j:Nat}(f:Nat→Option Inf):VR ⟨f,a1s (σ++τ) β⟩ (c3d p.bs sg.tys j) (σ.getD j .d).val:=by
 unfold c3d;split
 ·rename_i t hj;have hlt:=c2N hj;have:=c5J h (j:=j) (t:=t) (by rw[ht,List.getElem?_append_left hlt,←a0K];exact hj) f;rw[a0N (by rw[hs.len];exact hlt)]at this;exact this
 ·simp only[VR]
theorem a9A(h:PIok P S (a0W w (L++a1Y infs)) (σ++τ) β p)(ht:p.tys=sg.tys++us)(hs:TyL sg.tys σ)(f:Nat→Option Inf): ∀js:List Nat,VRs ⟨f,a1s (σ++τ) β⟩ (js.map (c3d p.bs sg.tys)) (js.map fun j=>(σ.getD j .d).val)
 | []=>by simp[VRs]
 |j::js=>by simp only[List.map_cons,VRs];exact⟨_,_,rfl,b6a h ht hs f,a9A h ht hs f js⟩
theorem getD_lt{σ:List G}{j:Nat}{g:G}(h:σ.getD j .d=g)(hg:g≠ .d):j<σ.length:=by
 rcases Nat.lt_or_ge j σ.length with hl|hl
 ·exact hl
 ·rw[List.getD_eq_getElem?_getD,List.getElem?_eq_none hl]at h;exact absurd h.symm hg
theorem c0m(h:PIok P S (a0W w (L++a1Y infs)) (σ++τ) β p){jn:Nat}{b c:Bool}(hb:a0s jn p.bs=some b)(hc:σ.getD jn .d= .b c):b=c:=by have hlt:=getD_lt hc (fun e=>by cases e);have:=h.bs _ (a0h hb);rw[List.getElem?_append_left hlt]at this;rw[getD_of this]at hc;cases hc;rfl
theorem d0i{φ:Phi}:VRs φ [] []:=by simp only[VRs]
theorem b1M(h:PIok P S (a0W w (L++a1Y infs)) (σ++τ) β p)(ht:p.tys=sg.tys++us)(hs:TyL sg.tys σ){sv:SV}{v:Value}(k:svR σ infs sv v):VR ⟨a3w infs,a1s (σ++τ) β⟩ (c8W p.bs sg.tys sv) v:=by
 cases sv with
 |d j=>simp only[svR]at k;subst k;exact b6a h ht hs _
 |st js=>simp only[svR]at k;subst k;show VR _ (.agg _) _;rw[VR];exact⟨_,a9A h ht hs _ js,rfl⟩
 |p q o=>obtain⟨inf,h1,rfl⟩:=k;simp only[c8W,VR,AR];exact⟨_,inf.slack,⟨inf,h1,rfl,rfl⟩,rfl⟩
 |k x=>exact k _
 |own q j jn=>
  simp only[c8W];split
  ·rename_i hb;rcases k with⟨_,rfl⟩|⟨k1,_⟩
   ·simp only[VR]
   ·cases c0m h hb k1
  ·rename_i hb;rcases k with⟨k1,_⟩|⟨k1,inf,es,k2,k3,rfl⟩
   ·cases c0m h hb k1
   ·have hlt:=getD_lt k3 (fun e=>by cases e);simp only[VR];refine⟨inf,k2, ?_⟩;show _=Value.slice _ (((σ++τ).getD j .d).int.toNat+0) (((σ++τ).getD j .d).int.toNat+0+inf.slack);rw[a0N hlt,k3];rfl
  ·simp only[VR]
 |tu sh j=>obtain⟨k1,rfl⟩:=k;show VR _ (.tuple _) _;rw[VR];refine⟨_,b1O k1 ?_,rfl⟩;have:=a9A h ht hs (a3w infs) (List.range' j (a0F sh).length);rw[List.map_map];exact this
 |fp f q=>obtain⟨inf,h1,rfl⟩:=k;simp only[c8W];rw[VR];refine⟨_,_,rfl, ?_,d0i,rfl⟩;simp only[VRs];refine⟨_,_,rfl, ?_,rfl⟩;simp only[VR,AR];exact⟨_,inf.slack,⟨inf,h1,rfl,rfl⟩,rfl⟩
theorem HeadSt.start{O:List Inf}(k:HeadSt O L nt sg σ infs we act w)(hL: ∀b∈L,b<we.heap.size)(hS: ∀b,S b↔b∈L++a1Y infs)(hm:sg.bl.length≤top)(h:PIok P S (a0W w (L++a1Y infs)) (σ++τ) β p)(ht:p.tys=sg.tys++us):
  @HSim (XK P p.ke S) (a0W w (L++a1Y infs)) ⟨a3w infs,a1s (σ++τ) β⟩ ⟨p.env,b3O (sg.bl.map (d1p p.bs sg.tys)) 0 .lf,sg.bl.length⟩ w:=by
 have hlt: ∀b∈L++a1Y infs,b<w.heap.size:=fun b hb=>by
  rcases List.mem_append.1 hb with hb|hb
  ·exact Nat.lt_of_lt_of_le (hL b hb) k.an.wk.size
  ·obtain⟨i,inf,hi,rfl⟩:=a1V.1 hb;exact k.lt i inf hi
 have gets: ∀i o,(b3O (sg.bl.map (d1p p.bs sg.tys)) 0 .lf).get i=some o→ ∃b,sg.bl[i]? =some b∧d1p p.bs sg.tys b=some o:=fun i o hi=>by
  rcases b6o _ _ _ _ _ (by rw[List.length_map];omega) hi with⟨_,h2⟩|h2
  ·simp only[Nat.sub_zero,List.getElem?_map,Option.map_eq_some_iff]at h2;exact h2
  ·rw[TT.get_lf]at h2;cases h2
 have live: ∀i o,(b3O (sg.bl.map (d1p p.bs sg.tys)) 0 .lf).get i=some o→ ∃inf o',a3w infs i=some inf∧w.heap[inf.blk]? =some o'∧OR ⟨a3w infs,a1s (σ++τ) β⟩ inf o o':=fun i o hi=>by
  obtain⟨b,h1,h2⟩:=gets i o hi;have hb:=k.bl i b h1;cases b with
  |cells c g ro et=>
   simp only[d1p,Option.some.injEq]at h2;subst h2;obtain⟨inf,e,c',et',fr,g1,g2,g3,g4,g5,g6⟩:=hb;refine⟨inf,_,e,g1,c',et',fr,rfl, ?_,g3,fun j x hx=> ?_,g5, ?_⟩
   ·rw[List.length_map];exact g2
   ·simp only[List.getElem?_map,Option.map_eq_some_iff]at hx;obtain⟨sv,s1,rfl⟩:=hx;obtain⟨y,y1,y2⟩:=g4 j sv s1;exact⟨y,y1,b1M h ht k.ty y2⟩
   ·rw[List.length_map];exact g6
  |lst j jn ts et n=>
   simp only[d1p]at h2;split at h2
   ·rename_i hb2;cases h2;rcases hb with⟨k1,_⟩|⟨k1,inf,es,e1,e2,e3,c',e,fr,cs,g1,g2,g3,g4,g5,g6,g7⟩
    ·cases c0m h hb2 k1
    ·have hjl:=getD_lt e2 (fun e=>by cases e);have ei:(a1s (σ++τ) β).int j=es.length:=by show((σ++τ).getD j .d).int=_;rw[a0N hjl,e2];rfl
     have el:(a1s (σ++τ) β).lst j=cs:=by show c9j ((σ++τ).getD j .d).es=_;rw[a0N hjl,e2];show c9j es=cs;unfold c9j;rw[g2]
     refine⟨inf,_,e1,g1, ?_, ?_,c',e,fr,rfl, ?_,(fun h=>by cases h),fun q x hx=> ?_,g6,fun t ht=>⟨g7 t ht,fun h=>by cases h⟩⟩
     ·show 0≤(a1s (σ++τ) β).int j;rw[ei];omega
     ·show((a1s (σ++τ) β).lst j).length=((a1s (σ++τ) β).int j).toNat*ts.length;rw[ei,el];exact g3
     ·show inf.off+((a1s (σ++τ) β).lst j++ []).length+_≤_;rw[el,List.append_nil];exact g4
     ·have hx:cs[q]? =some x:=by
       have:((a1s (σ++τ) β).lst j++ [])[q]? =some x:=hx
       rwa [el,List.append_nil]at this
      obtain⟨v,v1,v2⟩:=g5 q x hx;exact⟨v,v1,v2 _⟩
   ·cases h2
 refine @HSim.mk (XK P p.ke S) _ _ _ _ (h.envOK _) (fun r b hb=>by cases hb) ?_ ?_ hm ?_ ?_ ?_ ?_
 ·refine @Old.mk (XK P p.ke S) _ _ (by rw[a1m];exact Nat.le_refl _) (fun q _ hn=> ?_) fun a v hv hs=> ?_
  ·exact(a7X fun hq=>hn ((hS q).2 hq)).symm
  ·exact(a4L hlt hv).1 ((hS _).1 hs)
 ·intro i inf hi;exact .inr ((hS _).2 (List.mem_append_right _ (a1V.2 ⟨i,inf,hi,rfl⟩)))
 ·intro i o hi;obtain⟨inf,o',h1,h2,h3⟩:=live i o hi;exact⟨inf,o',h1,h2,h3,rfl⟩
 ·intro i j oi oj inf jnf _ _ hi hj he;exact k.nd i j inf jnf hi hj he
 ·intro i hi;show a3w infs i=none;unfold a3w;rw[List.getElem?_eq_none (by rw[k.il];exact hi)]
 ·intro i inf hi;exact k.lt i inf hi
end
def GE.vv:GE→VV
 |.v x=>x|.sl x _=>x|.app x _ _=>x|.ow x _ _=>x
mutual
def Den(σ:List G):GE→G→Prop
 |.v x,g=>g=gG σ x|.sl _ es,.l v es'=>DenLL σ es es'|.app _ j es,.l v es'=> ∃us,es'=(σ.getD j .d).es++us∧DenLL σ es us|.ow _ j es,.w es'=> ∃us,es'=d3M σ j++us∧DenLL σ es us|_,_=>False
def b6I(σ:List G):List GE→List G→Prop
 | [],[]=>True|x::l,g::m=>Den σ x g∧b6I σ l m|_,_=>False
def DenLL(σ:List G):List (List GE)→List (List G)→Prop
 | [],[]=>True|x::l,g::m=>b6I σ x g∧DenLL σ l m|_,_=>False
end
mutual
theorem a8t{σ:List G}: ∀(l:List GE) {m:List G} {Q:List G→Prop},a7q σ l Q→b6I σ l m→Q m
 | [],[],Q,h,_=>by simpa only[a7q]using h
 | [],_::_,_,_,k=>by simp only[b6I]at k
 |_::_,[],_,_,k=>by simp only[b6I]at k
 |x::l,g::m,Q,h,k=>by simp only[a7q]at h;simp only[b6I]at k;have:=allG1_den (Q:=fun u=>a7q σ l fun us=>Q (u::us)) x h k.1;exact a8t (Q:=fun us=>Q (g::us)) l this k.2
theorem allG1_den{σ:List G}: ∀(x:GE) {g:G} {Q:G→Prop},allG1 σ x Q→Den σ x g→Q g
 |.v x,g,Q,h,k=>by simp only[allG1]at h;simp only[Den]at k;rw[k];exact h
 |.sl x es,g,Q,h,k=>by cases g<;>simp only[Den]at k;rename_i v es';simp only[allG1]at h;have:=allGG_den (Q:=fun us=> ∀v,Q (.l v us)) es h k;exact this v
 |.app x j es,g,Q,h,k=>by cases g<;>simp only[Den]at k;rename_i v es';obtain⟨us,rfl,k⟩:=k;simp only[allG1]at h;have:=allGG_den (Q:=fun us=> ∀v,Q (.l v ((σ.getD j .d).es++us))) es h k;exact this v
 |.ow x j es,g,Q,h,k=>by cases g<;>simp only[Den]at k;rename_i es';obtain⟨us,rfl,k⟩:=k;simp only[allG1]at h;exact allGG_den (Q:=fun us=>Q (.w (d3M σ j++us))) es h k
theorem allGG_den{σ:List G}: ∀(l:List (List GE)) {m:List (List G)} {Q:List (List G)→Prop},allGG σ l Q→DenLL σ l m→Q m
 | [],[],Q,h,_=>by simpa only[allGG]using h
 | [],_::_,_,_,k=>by simp only[DenLL]at k
 |_::_,[],_,_,k=>by simp only[DenLL]at k
 |x::l,g::m,Q,h,k=>by simp only[allGG]at h;simp only[DenLL]at k;have:=a8t (Q:=fun u=>allGG σ l fun us=>Q (u::us)) x h k.1;exact allGG_den (Q:=fun us=>Q (g::us)) l this k.2
end
def tyW(tys:List Ty)(j:Nat)(ts:List Ty):Bool:=match a0H tys j with
 |some (.w ts')=>tyEqs ts' ts|_=>false
def d9p(bd:List (Nat×Int))(j:Nat):Bool:=match a0s j bd with
 |some n=>decide (n≤1000000)
 |none=>false
def c0P:Ty→Bool
 |.w _=>false|_=>true
mutual
def c4B(tys:List Ty)(bd:List (Nat×Int))(H:VH)(m:List Nat):Ty→GE→Bool
 |t,.v x=>okY tys t x
 |t,.sl x es=>match t,x with
  |.l ts,.slice (some ⟨.loc b,o⟩) len cap=>match a9z b m,Nat.beq es.length len,Nat.ble len cap,Nat.ble len 1000000,H.locs.get b with
   |false,true,true,true,some (.cells c _ _ _)=>geEs tys bd H m ts es (b1C o c)|_,_,_,_,_=>false
  |_,_=>false
 |t,.app x j es=>match t,x with
  |.l ts,.lsl b n mm=>match a9z b m,Nat.beq n j,Nat.beq es.length mm,Nat.ble mm 1000000,H.locs.get b with
   |false,true,true,true,some (.list i n' sz tail _)=>match Nat.beq i j,Nat.beq n' j,Nat.beq sz ts.length,tyW tys j ts,d9p bd j with
    |true,true,true,true,true=>match Nat.beq tail.length (es.length*ts.length)with
     |true=>geEs tys bd H m ts es tail|false=>false
    |_,_,_,_,_=>false
   |_,_,_,_,_=>false
  |_,_=>false
 |t,.ow x j es=>match t,x,j with
  |.w ts,.slice none l c,none=>match b5r ts,Nat.beq l 0,Nat.beq c 0,Nat.beq es.length 0 with
   |true,true,true,true=>geEs tys bd H m ts es []|_,_,_,_=>false
  |.w ts,.slice (some ⟨.loc b,o⟩) len cap,none=>match b5r ts,Nat.beq o 0,Nat.beq es.length len,Nat.beq len cap,Nat.ble len 1000000 with
   |true,true,true,true,true=>match H.locs.get b with
    |some (.cells c (some sz) ro _)=>match Nat.beq sz ts.length,Nat.beq ro 0,Nat.beq c.length (es.length*ts.length)with
     |true,true,true=>geEs tys bd H m ts es c|_,_,_=>false
    |_=>false
   |_,_,_,_,_=>false
  |.w ts,.lsl b n mm,some j=>match Nat.beq n j,Nat.beq es.length mm,Nat.ble mm 1000000,H.locs.get b with
   |true,true,true,some (.list i n' sz tail _)=>match Nat.beq i j,Nat.beq n' j,Nat.beq sz ts.length,tyW tys j ts,d9p bd j with
    |true,true,true,true,true=>match Nat.beq tail.length (es.length*ts.length)with
     |true=>geEs tys bd H m ts es tail|false=>false
    |_,_,_,_,_=>false
   |_,_,_,_=>false
  |_,_,_=>false
def geEs(tys:List Ty)(bd:List (Nat×Int))(H:VH)(m:List Nat)(ts:List Ty):List (List GE)→List VV→Bool
 | [],_=>true
 |x::es,cs=>match geCs tys bd H m ts x cs with
  |some cs'=>geEs tys bd H m ts es cs'|none=>false
def geCs(tys:List Ty)(bd:List (Nat×Int))(H:VH)(m:List Nat):List Ty→List GE→List VV→Option (List VV)
 | [],[],cs=>some cs
 |t::ts,g::x,y::cs=>match c0P t,a1E g.vv y,c4B tys bd H m t g with
  |true,true,true=>geCs tys bd H m ts x cs|_,_,_=>none
 |_,_,_=>none
end
theorem c6h{b:Nat}: ∀{m:List Nat},a9z b m=false→b∉m
 | [],_=>by simp
 |y::m,h=>by
  simp only[a9z]at h;split at h
  ·cases h
  ·rename_i h1
   have h2:b≠y:=fun e=>by subst e;rw[Nat.beq_refl]at h1;cases h1
   exact fun hm=>by
    rcases List.mem_cons.1 hm with e|hm
    ·exact h2 e
    ·exact c6h h hm
theorem d1w{w:World}{B:Nat}: ∀{x:List G} {O:Nat},GMX w x→(∀(k:Nat) g,x[k]? =some g→w.cell? ⟨B,O+k,none⟩=some g.val)→GMC w B O x
 | [],O,_,_=>by simp only[GMC]
 |g::x,O,h,hc=>by simp only[GMX]at h;simp only[GMC];refine⟨by simpa using hc 0 g rfl,h.1,d1w h.2 fun k u hu=> ?_⟩;have:=hc (k+1) u (by simpa using hu);rw[show O+(k+1)=O+1+k by omega]at this;exact this
theorem c8N{w:World}{B:Nat}: ∀{es:List (List G)} {O:Nat},GMR w es→(∀(k:Nat) g,es.flatten[k]? =some g→w.cell? ⟨B,O+k,none⟩=some g.val)→GME w B O es
 | [],O,_,_=>by simp only[GME]
 |x::es,O,h,hc=>by
  simp only[GMR]at h;simp only[GME];refine⟨d1w h.1 fun k g hk=> ?_,c8N h.2 fun k g hk=> ?_⟩
  ·have hlt:=(List.getElem?_eq_some_iff.1 hk).1;exact hc k g (by rw[List.flatten_cons,List.getElem?_append_left hlt];exact hk)
  ·have:=hc (x.length+k) g (by rw[List.flatten_cons,List.getElem?_append_right (Nat.le_add_right _ _),Nat.add_sub_cancel_left];exact hk);rw[show O+x.length+k=O+(x.length+k)by omega];exact this
theorem d1d: ∀{x:List G} {l:List VV},clL x=some l→l.length=x.length∧ ∀(k:Nat) g,x[k]? =some g→ ∃y,l[k]? =some y∧clV g=some y
 | [],l,h=>by simp only[clL,Option.some.injEq]at h;subst h;exact⟨rfl,fun k g hk=>by simp at hk⟩
 |u::x,l,h=>by
  simp only[clL]at h;split at h
  ·rename_i a b h1 h2;cases h;obtain⟨e,f⟩:=d1d h2;refine⟨by simp[e],fun k g hk=> ?_⟩;cases k with
   |zero=>simp only[List.getElem?_cons_zero,Option.some.injEq]at hk;subst hk;exact⟨a,rfl,h1⟩
   |succ k=>simpa using f k g (by simpa using hk)
  ·cases h
theorem b5s: ∀{es:List (List G)} {l:List VV},c4V es=some l→l.length=es.flatten.length∧ ∀(k:Nat) g,es.flatten[k]? =some g→ ∃y,l[k]? =some y∧clV g=some y
 | [],l,h=>by simp only[c4V,Option.some.injEq]at h;subst h;exact⟨rfl,fun k g hk=>by simp at hk⟩
 |x::es,l,h=>by
  simp only[c4V]at h;split at h
  ·rename_i a b h1 h2;cases h;obtain⟨e1,f1⟩:=d1d h1;obtain⟨e2,f2⟩:=b5s h2;refine⟨by rw[List.length_append,List.flatten_cons,List.length_append,e1,e2],fun k g hk=> ?_⟩;rw[List.flatten_cons]at hk
   by_cases hlt:k<x.length
   ·rw[List.getElem?_append_left hlt]at hk;rw[List.getElem?_append_left (by omega)];exact f1 k g hk
   ·rw[List.getElem?_append_right (by omega)]at hk;rw[List.getElem?_append_right (by omega),e1];exact f2 _ g hk
  ·cases h
section
variable[X:Ext]{w0 w W:World}{σ:List G}{β:List (Nat×Nat)}{tys:List Ty}{bd:List (Nat×Int)}{φ:Phi}{H:VH}{m:List Nat}
structure RdM(w0 w W:World)(σ:List G)(β:List (Nat×Nat))(tys:List Ty)(bd:List (Nat×Int))(φ:Phi)(H:VH)(m:List Nat):Prop where
 sim:HSim w0 φ H w
 rho:φ.ρ=a1s σ β
 ty:TyL tys σ
 mem:GML W σ
 size:W.heap.size=w.heap.size
 cell: ∀b inf,φ b=some inf→b∉m→(H.locs.get b).isSome=true→ ∀o v,w.cell? ⟨inf.blk,o,none⟩=some v→W.cell? ⟨inf.blk,o,none⟩=some v
 bd: ∀q∈bd,(σ.getD q.1 .d).int≤q.2
theorem RdM.own(h:RdM w0 w W σ β tys bd φ H m){j:Nat}{ts:List Ty}(h1:tyW tys j ts=true)(h2:d9p bd j=true): ∃es cs,σ.getD j .d= .w es∧TyLL ts es∧GMR W es∧b5r ts=true∧(es.length:Int)≤1000000∧φ.ρ.int j=es.length∧φ.ρ.lst j=cs∧c4V es=some cs∧cs.length=es.length*ts.length:=by
 unfold tyW at h1;split at h1
 ·rename_i ts' ht;rw[tyEqs_eq h1,a0K]at ht;obtain⟨g,g1,g2⟩:=h.ty.at ht;cases g<;>simp only[TyOK]at g2<;>try exact g2.elim
  rename_i es;obtain⟨a1,a2,a3⟩:=g2;have gm:=h.mem.at g1;simp only[GM]at gm;obtain⟨cs,c1,c2⟩:=a8i a3 a1 gm
  have hb:(es.length:Int)≤1000000:=by
   unfold d9p at h2;split at h2
   ·rename_i n hn;have:=h.bd _ (a0h hn);simp only[getD_of g1,G.int]at this;have:=of_decide_eq_true h2;omega
   ·cases h2
  refine⟨es,cs,getD_of g1,a1,gm,a3,hb, ?_, ?_,c1,c2⟩
  ·rw[h.rho];show(σ.getD j .d).int=_;rw[getD_of g1];rfl
  ·rw[h.rho];show c9j (σ.getD j .d).es=_;rw[getD_of g1];show c9j es=cs;unfold c9j;rw[c1]
 ·cases h1
end
section
variable{w0 w W:World}{σ:List G}{β:List (Nat×Nat)}{tys:List Ty}{bd:List (Nat×Int)}{φ:Phi}{H:VH}{m:List Nat}
theorem b9B{es us:List (List G)}{cs tail:List VV}(h1:c4V es=some cs)(hu: ∀(k:Nat) g,us.flatten[k]? =some g→ ∃y,tail[k]? =some y∧ ∀u,VR φ y u→u=g.val): ∀(k:Nat) g,(es++us).flatten[k]? =some g→ ∃y,(cs++tail)[k]? =some y∧ ∀u,VR φ y u→u=g.val:=by
 intro k g hk;obtain⟨e1,e2⟩:=b5s h1;rw[List.flatten_append]at hk
 by_cases hlt:k<es.flatten.length
 ·rw[List.getElem?_append_left hlt]at hk;obtain⟨y,y1,y2⟩:=e2 k g hk;exact⟨y,by rw[List.getElem?_append_left (by omega)];exact y1,fun u hv=>(c2p y2).2.2 φ u hv⟩
 ·rw[List.getElem?_append_right (by omega)]at hk;obtain⟨y,y1,y2⟩:=hu _ g hk;exact⟨y,by rw[List.getElem?_append_right (by omega),e1];exact y1,y2⟩
end
section
variable[X:Ext]{w0 w W:World}{σ:List G}{β:List (Nat×Nat)}{tys:List Ty}{bd:List (Nat×Int)}{φ:Phi}{H:VH}{m:List Nat}
mutual
theorem c7O(h:RdM w0 w W σ β tys bd φ H m): ∀(g:GE) {t:Ty},c4B tys bd H m t g=true→ ∃u,Den σ g u∧(c0P t=true→ ∀v,VR φ g.vv v→v=u.val)∧TyOK t u∧GM W u
 |.v x,t,hg=>by simp only[c4B]at hg;obtain⟨h1,h2,h3⟩:=a3k h.ty hg;have h3:=h3 [] β;rw[List.append_nil]at h3;exact⟨gG σ x,by simp only[Den],fun _ v hv=>a0q (by rw[h.rho];exact h3) hv,h1,h2 W h.mem⟩
 |.sl x es,t,hg=>by
  simp only[c4B]at hg;split at hg
  ·rename_i ts b o len cap;split at hg
   ·rename_i c g' ro et h1 h2 h3 h4 h5;have e2:=Nat.eq_of_beq_eq_true h2;have e3:=Nat.le_of_ble_eq_true h3;have e4:=Nat.le_of_ble_eq_true h4;obtain⟨inf,o',i1,j2,⟨c',e,fr,rfl,hc⟩,_⟩:=h.sim.live b _ h5;obtain⟨es',d1,d2,d3,d4,d5⟩:=geEs_ok h es hg;refine⟨.l (.slice (some ⟨inf.blk,inf.off+o,none⟩) len (cap+inf.slack)) es',by simp only[Den];exact d1,fun _ v hv=> ?_, ?_, ?_⟩
    ·simp only[GE.vv,VR,AR]at hv;obtain⟨a',s,⟨inf',i2,rfl,rfl⟩,rfl⟩:=hv;rw[i1]at i2;cases i2;rfl
    ·simp only[TyOK];refine⟨d2,by omega,_,_,by rw[d4,e2],by omega⟩
    ·simp only[GM];refine⟨_,_,by rw[d4,e2],.inr ⟨_,_,rfl,.inr ⟨?_,c8N d3 fun k g hk=> ?_⟩⟩⟩
     ·rw[h.size];exact h.sim.bound b inf i1
     ·obtain⟨y,y1,y2⟩:=d5 k g hk;rw[a1p,List.getElem?_drop]at y1;obtain⟨u,u1,u2⟩:=hc.cell _ y y1;rw[←y2 u u2];refine h.cell b inf i1 (c6h h1) (by rw[h5];rfl) _ _ ?_;unfold World.cell?;simp only[j2];rw[show inf.off+o+k=inf.off+(o+k)by omega,u1];rfl
   ·cases hg
  ·cases hg
 |.app x j es,t,hg=>by
  simp only[c4B]at hg;split at hg
  ·rename_i ts b n mm;split at hg
   ·rename_i i n' sz tail et h1 h2 h3 h4 h5;split at hg
    ·rename_i f1 f2 f3 f4 f5;split at hg
     ·rename_i f6;have a1:=Nat.eq_of_beq_eq_true h2;have a2:=Nat.eq_of_beq_eq_true h3;have a3:=Nat.le_of_ble_eq_true h4;have a4:=Nat.eq_of_beq_eq_true f1;have a5:=Nat.eq_of_beq_eq_true f2;have a6:=Nat.eq_of_beq_eq_true f3;have a7:=Nat.eq_of_beq_eq_true f6;subst a1 a4 a6;obtain⟨old,cs,o1,o2,o3,o4,o5,o6,o7,o8,o9⟩:=h.own f4 f5;obtain⟨inf,o',i1,j2,⟨_,_,c',e,fr,rfl,hc⟩,_⟩:=h.sim.live b _ h5;obtain⟨us,d1,d2,d3,d4,d5⟩:=geEs_ok h es hg;have all:=b9B (φ:=φ) o8 d5;rw[o7]at hc;refine⟨.l (.slice (some ⟨inf.blk,inf.off,none⟩) (old++us).length ((old++us).length+inf.slack)) (old++us), ?_,fun _ v hv=> ?_, ?_, ?_⟩
      ·simp only[Den];exact⟨us,by rw[o1];rfl,d1⟩
      ·simp only[GE.vv,VR]at hv;obtain⟨inf',i2,rfl⟩:=hv;rw[i1]at i2;cases i2;rw[o6,List.length_append,d4,a2];rfl
      ·simp only[TyOK];exact⟨o2.app d2,by rw[List.length_append,d4];omega,_,_,rfl,Nat.le_add_right _ _⟩
      ·simp only[GM];refine⟨_,_,rfl,.inr ⟨_,_,rfl,.inr ⟨?_,c8N (o3.app d3) fun k g hk=> ?_⟩⟩⟩
       ·rw[h.size];exact h.sim.bound b inf i1
       ·obtain⟨y,y1,y2⟩:=all k g hk;obtain⟨u,u1,u2⟩:=hc.cell _ y y1;rw[←y2 u u2];refine h.cell b inf i1 (c6h h1) (by rw[h5];rfl) _ _ ?_;unfold World.cell?;simp only[j2];rw[u1];rfl
     ·cases hg
    ·cases hg
   ·cases hg
  ·cases hg
 |.ow x j es,t,hg=>by
  simp only[c4B]at hg;split at hg
  ·rename_i ts l c;split at hg
   ·rename_i f1 f2 f3 f4;obtain⟨us,d1,d2,d3,d4,_⟩:=geEs_ok h es hg;have f4:=Nat.eq_of_beq_eq_true f4;refine⟨.w us,by simp only[Den];exact⟨us,rfl,d1⟩,(fun hn=>by simp[c0P]at hn), ?_,by simp only[GM];exact d3⟩;simp only[TyOK];exact⟨d2,by rw[d4,f4];decide,f1⟩
   ·cases hg
  ·rename_i ts b o len cap;split at hg
   ·rename_i f1 f2 f3 f4 f5;have f3:=Nat.eq_of_beq_eq_true f3;have f5:=Nat.le_of_ble_eq_true f5;split at hg
    ·split at hg
     ·obtain⟨us,d1,d2,d3,d4,_⟩:=geEs_ok h es hg;refine⟨.w us,by simp only[Den];exact⟨us,rfl,d1⟩,(fun hn=>by simp[c0P]at hn), ?_,by simp only[GM];exact d3⟩;simp only[TyOK];exact⟨d2,by rw[d4];omega,f1⟩
     ·cases hg
    ·cases hg
   ·cases hg
  ·rename_i ts b n mm j';split at hg
   ·rename_i i n' sz tail et h2 h3 h4 h5;split at hg
    ·rename_i f1 f2 f3 f4 f5;split at hg
     ·have a2:=Nat.eq_of_beq_eq_true h3;have a3:=Nat.le_of_ble_eq_true h4;obtain⟨old,cs,o1,o2,o3,o4,o5,_⟩:=h.own f4 f5;obtain⟨us,d1,d2,d3,d4,_⟩:=geEs_ok h es hg;refine⟨.w (old++us),by simp only[Den];exact⟨us,by simp only[d3M,o1];rfl,d1⟩,(fun hn=>by simp[c0P]at hn), ?_,by simp only[GM];exact o3.app d3⟩;simp only[TyOK];exact⟨o2.app d2,by rw[List.length_append,d4];omega,o4⟩
     ·cases hg
    ·cases hg
   ·cases hg
  ·cases hg
theorem geEs_ok(h:RdM w0 w W σ β tys bd φ H m){ts:List Ty}: ∀(es:List (List GE)) {cs:List VV},geEs tys bd H m ts es cs=true→ ∃es',DenLL σ es es'∧TyLL ts es'∧GMR W es'∧es'.length=es.length∧ ∀(k:Nat) g,es'.flatten[k]? =some g→ ∃y,cs[k]? =some y∧ ∀u,VR φ y u→u=g.val
 | [],cs,_=>⟨[],by simp only[DenLL],by simp only[TyLL],by simp only[GMR],rfl,fun k g hk=>by simp at hk⟩
 |x::es,cs,hg=>by
  simp only[geEs]at hg;split at hg
  ·rename_i cs' h1;obtain⟨x',a1,a2,a3,a4,a5⟩:=geCs_ok h x h1;have hl:=a2.len;obtain⟨es',b1,b2,b3,b4,b5⟩:=geEs_ok h es hg;refine⟨x'::es',by simp only[DenLL];exact⟨a1,b1⟩,by simp only[TyLL];exact⟨a2,b2⟩,by simp only[GMR];exact⟨a3,b3⟩,by simp[b4],fun k g hk=> ?_⟩;rw[List.flatten_cons]at hk
   by_cases hlt:k<x'.length
   ·rw[List.getElem?_append_left hlt]at hk;exact a5 k g hk
   ·rw[List.getElem?_append_right (by omega)]at hk;obtain⟨y,y1,y2⟩:=b5 _ g hk;rw[a4,List.getElem?_drop,←hl]at y1;exact⟨y,by rw[show k=x'.length+(k-x'.length)by omega];exact y1,y2⟩
  ·cases hg
theorem geCs_ok(h:RdM w0 w W σ β tys bd φ H m): ∀(x:List GE) {ts:List Ty} {cs cs':List VV},geCs tys bd H m ts x cs=some cs'→ ∃x',b6I σ x x'∧TyL ts x'∧GMX W x'∧cs'=cs.drop ts.length∧ ∀(k:Nat) g,x'[k]? =some g→ ∃y,cs[k]? =some y∧ ∀u,VR φ y u→u=g.val
 | [],[],cs,cs',hg=>by simp only[geCs,Option.some.injEq]at hg;exact⟨[],by simp only[b6I],by simp only[TyL],by simp only[GMX],by simp[hg],fun k g hk=>by simp at hk⟩
 | [],_::_,cs,cs',hg=>by simp[geCs]at hg
 |_::_,[],cs,cs',hg=>by simp[geCs]at hg
 |g::x,t::ts,[],cs',hg=>by simp[geCs]at hg
 |g::x,t::ts,y::cs,cs',hg=>by
  simp only[geCs]at hg;split at hg
  ·rename_i h0 h1 h2;obtain⟨g',a1,a2,a3,a4⟩:=c7O h g h2;obtain⟨x',b1,b2,b3,b4,b5⟩:=geCs_ok h x hg;refine⟨g'::x',by simp only[b6I];exact⟨a1,b1⟩,by simp only[TyL];exact⟨a3,b2⟩,by simp only[GMX];exact⟨a4,b3⟩,by simpa using b4,fun k u hk=> ?_⟩;cases k with
   |zero=>simp only[List.getElem?_cons_zero,Option.some.injEq]at hk;subst hk;exact⟨y,rfl,fun v hv=>a2 h0 v (by rw[a0f _ _ h1];exact hv)⟩
   |succ k=>simpa using b5 k u (by simpa using hk)
  ·cases hg
end
def owB:VV→Option Nat
 |.slice (some ⟨.loc b,_⟩) _ _=>some b|.lsl b _ _=>some b|_=>none
def d7Z(H:VH)(b:Nat):Option TypeId:=match H.locs.get b with
 |some (.cells _ _ _ et)=>et|some (.list _ _ _ _ et)=>et|_=>none
theorem e1E(h:RdM w0 w W σ β tys bd φ H m){x:VV}{j:Option Nat}{es:List (List GE)}{ts:List Ty}(hg:c4B tys bd H m (.w ts) (.ow x j es)=true): ∃es',Den σ (.ow x j es) (.w es')∧TyLL ts es'∧GMR W es'∧(es'.length:Int)≤2000000∧b5r ts=true∧
  ((owB x=none∧es'= []∧x= .slice none 0 0)∨ ∃b inf,owB x=some b∧φ b=some inf∧d5K w ts (d7Z H b) es' inf∧ ∀v,VR φ x v→v= .slice (some ⟨inf.blk,inf.off,none⟩) es'.length (es'.length+inf.slack)):=by
 simp only[c4B]at hg;split at hg
 ·rename_i ts l c e1;cases e1;split at hg
  ·rename_i f1 f2 f3 f4;obtain⟨us,d1,d2,d3,d4,_⟩:=geEs_ok h es hg;have f4:=Nat.eq_of_beq_eq_true f4;have e0:us= []:=List.length_eq_zero_iff.1 (by rw[d4,f4]);refine⟨us,by simp only[Den];exact⟨us,rfl,d1⟩,d2,d3,by rw[d4,f4];decide,f1,.inl ⟨rfl,e0, ?_⟩⟩;rw[Nat.eq_of_beq_eq_true f2,Nat.eq_of_beq_eq_true f3]
  ·cases hg
 ·rename_i ts b o len cap e1;cases e1;split at hg
  ·rename_i f1 f2 f3 f4 f5;have f2:=Nat.eq_of_beq_eq_true f2;have f3:=Nat.eq_of_beq_eq_true f3;have f4:=Nat.eq_of_beq_eq_true f4;have f5:=Nat.le_of_ble_eq_true f5;subst f2 f4;split at hg
   ·rename_i c sz ro et hl;split at hg
    ·rename_i q1 q2 q3;have q1:=Nat.eq_of_beq_eq_true q1;have q2:=Nat.eq_of_beq_eq_true q2;have q3:=Nat.eq_of_beq_eq_true q3;subst q1 q2;obtain⟨us,d1,d2,d3,d4,d5⟩:=geEs_ok h es hg;obtain⟨inf,o',i1,j2,⟨c',e,fr,rfl,hc⟩,_⟩:=h.sim.live b _ hl;obtain⟨cs,c1,c2⟩:=a8i f1 d2 d3;obtain⟨c3,c4⟩:=b5s c1;refine⟨us,by simp only[Den];exact⟨us,rfl,d1⟩,d2,d3,by rw[d4];omega,f1,.inr ⟨b,inf,rfl,i1,⟨c',e,fr,cs,j2,c1,c2, ?_,fun k y hk=> ?_, ?_,fun t ht=> ?_⟩,fun v hv=> ?_⟩⟩
     ·have:=hc.size;simp only[a7R]at this;rw[c2,d4,←q3];exact this
     ·have hlt:=(List.getElem?_eq_some_iff.1 hk).1;have hg2:=List.getElem?_eq_getElem (l:=us.flatten) (i:=k) (by omega);obtain⟨y',y1,y2⟩:=d5 k _ hg2;obtain⟨y'',z1,z2⟩:=c4 k _ hg2;rw[hk]at z1;cases z1;obtain⟨u,u1,u2⟩:=hc.cell k y' y1;refine⟨u,u1,fun ψ=> ?_⟩;rw[y2 u u2];exact(c2p z2).2.1 ψ
     ·have:=hc.low;omega
     ·unfold d7Z at ht;rw[hl]at ht;exact(hc.typ t ht).1
     ·simp only[VR,AR]at hv;obtain⟨a',s,⟨inf',i2,rfl,rfl⟩,rfl⟩:=hv;rw[i1]at i2;cases i2;rw[d4,f3];rfl
    ·cases hg
   ·cases hg
  ·cases hg
 ·rename_i ts b n mm j' e1;cases e1;split at hg
  ·rename_i i n' sz tail et h2 h3 h4 h5;split at hg
   ·rename_i f1 f2 f3 f4 f5;split at hg
    ·rename_i f6;have a1:=Nat.eq_of_beq_eq_true h2;have a2:=Nat.eq_of_beq_eq_true h3;have a3:=Nat.le_of_ble_eq_true h4;have a4:=Nat.eq_of_beq_eq_true f1;have a5:=Nat.eq_of_beq_eq_true f2;have a6:=Nat.eq_of_beq_eq_true f3;have a7:=Nat.eq_of_beq_eq_true f6;subst a1 a4 a6;obtain⟨old,cs,o1,o2,o3,o4,o5,o6,o7,o8,o9⟩:=h.own f4 f5;obtain⟨inf,o',i1,j2,⟨_,_,c',e,fr,rfl,hc⟩,_⟩:=h.sim.live b _ h5;obtain⟨us,d1,d2,d3,d4,d5⟩:=geEs_ok h es hg;have all:=b9B (φ:=φ) o8 d5;rw[o7]at hc;obtain⟨cs2,c1,c2⟩:=a8i o4 (o2.app d2) (o3.app d3);obtain⟨c3,c4⟩:=b5s c1;refine⟨old++us,by simp only[Den];exact⟨us,by simp only[d3M,o1];rfl,d1⟩,o2.app d2,o3.app d3,by rw[List.length_append,d4];omega,o4,.inr ⟨b,inf,rfl,i1,⟨c',e,fr,cs2,j2,c1,c2, ?_,fun k y hk=> ?_, ?_,fun t ht=> ?_⟩,fun v hv=> ?_⟩⟩
     ·have:=hc.size;simp only[a7R,List.length_append]at this;rw[c2,List.length_append,d4,Nat.add_mul,←a7,←o9];exact this
     ·have hlt:=(List.getElem?_eq_some_iff.1 hk).1;have hg2:=List.getElem?_eq_getElem (l:=(old++us).flatten) (i:=k) (by omega);obtain⟨y',y1,y2⟩:=all k _ hg2;obtain⟨y'',z1,z2⟩:=c4 k _ hg2;rw[hk]at z1;cases z1;obtain⟨u,u1,u2⟩:=hc.cell k y' y1;refine⟨u,u1,fun ψ=> ?_⟩;rw[y2 u u2];exact(c2p z2).2.1 ψ
     ·have:=hc.low;omega
     ·unfold d7Z at ht;rw[h5]at ht;exact(hc.typ t ht).1
     ·simp only[VR]at hv;obtain⟨inf',i2,rfl⟩:=hv;rw[i1]at i2;cases i2;rw[o6,List.length_append,d4,a2];rfl
    ·cases hg
   ·cases hg
  ·cases hg
 ·cases hg
def OwP(w:World)(φ:Phi)(H:VH)(ts:List Ty)(x:VV)(u:G):Prop:= ∃es',u= .w es'∧((owB x=none∧es'= []∧x= .slice none 0 0)∨ ∃b inf,owB x=some b∧φ b=some inf∧d5K w ts (d7Z H b) es' inf∧ ∀v,VR φ x v→v= .slice (some ⟨inf.blk,inf.off,none⟩) es'.length (es'.length+inf.slack))
theorem e1d(h:RdM w0 w W σ β tys bd φ H m)(g:GE){t:Ty}(hg:c4B tys bd H m t g=true): ∃u,Den σ g u∧(c0P t=true→ ∀v,VR φ g.vv v→v=u.val)∧TyOK t u∧GM W u∧ ∀ts,t= .w ts→OwP w φ H ts g.vv u:=by
 by_cases hw: ∃ts,t= .w ts
 ·obtain⟨ts,rfl⟩:=hw;cases g with
  |v x=>simp only[c4B]at hg;cases x<;>simp[okY]at hg
  |sl x es=>simp[c4B]at hg
  |app x j es=>simp[c4B]at hg
  |ow x j es=>
   obtain⟨es',a1,a2,a3,a4,a5,a6⟩:=e1E h hg;refine⟨.w es',a1,(fun hn=>by simp[c0P]at hn), ?_,by simp only[GM];exact a3,fun ts' e=> ?_⟩
   ·simp only[TyOK];exact⟨a2,by omega,a5⟩
   ·cases e;exact⟨es',rfl,a6⟩
 ·obtain⟨u,a1,a2,a3,a4⟩:=c7O h g hg;exact⟨u,a1,a2,a3,a4,fun ts e=>absurd ⟨ts,e⟩ hw⟩
end
def vvJ(xs:List GE):List Nat→Option (List VV)
 | []=>some []
 |j::l=>match a0H xs j,vvJ xs l with
  |some g,some r=>some (g.vv::r)|_,_=>none
def d3J(a b:Option Nat):Bool:=match a,b with
 |none,none=>true|some x,some y=>Nat.beq x y|_,_=>false
def d9U(xs:List GE)(m:List (Option Nat))(q j jn:Nat):Option VV:=match a0H xs j,a0H xs jn,a0H m q with
 |some (.ow y _ _),some (.v (.bool f)),some mb=>match d3J (owB y) mb,mb,f with
  |true,none,true=>some y|true,some _,false=>some y|_,_,_=>none
 |_,_,_=>none
def c6S(sty:List Ty)(j:Nat):Bool:=match a0H sty j with
 |some t=>c0P t|none=>false
def a7H(sty:List Ty):List Nat→Bool
 | []=>true
 |j::l=>match c6S sty j with
  |true=>a7H sty l|false=>false
def e3B(sty:List Ty)(j:Nat):Bool:=match a0H sty j with
 |some (.w _)=>true|_=>false
def d9B(sty:List Ty):List Ty→Nat→Bool
 | [],_=>true
 |t::ts,j=>match a0H sty j with
  |some t'=>match a4A t' t with
   |true=>d9B sty ts (j+1)|false=>false
  |none=>false
def d5M(sty:List Ty)(xs:List GE)(m:List (Option Nat))(sv:SV)(x:VV):Bool:=match sv with
 |.d j=>match a0H xs j,c6S sty j with
  |some g,true=>a1E g.vv x|_,_=>false
 |.st js=>match vvJ xs js,a7H sty js with
  |some r,true=>a1E (.agg r) x|_,_=>false
 |.p q o=>match x,a0H m q with
  |.ptr (some ⟨.loc b,o'⟩),some (some b')=>match Nat.beq b b' with
   |true=>Nat.beq o o'|false=>false
  |_,_=>false
 |.k y=>match a1E y x with
  |true=>a6j 0 0 y|false=>false
 |.own q j jn=>match d9U xs m q j jn,e3B sty j with
  |some y,true=>a1E y x|_,_=>false
 |.tu sh j=>match vvJ xs (List.range' j (a0F sh).length),a7H sty (List.range' j (a0F sh).length),d9B sty (a0F sh) j with
  |some r,true,true=>a1E (.tuple (vvS sh r)) x|_,_,_=>false
 |.fp f q=>match x,a0H m q with
  |.func (.func f') [.ptr (some ⟨.loc b,o'⟩)] [],some (some b')=>match Nat.beq b b',Nat.beq f f' with
   |true,true=>Nat.beq o' 0|_,_=>false
  |_,_=>false
def c3e(sty:List Ty)(xs:List GE)(m:List (Option Nat)):List SV→List VV→Bool
 | [],[]=>true
 |s::l,x::xs'=>match d5M sty xs m s x with
  |true=>c3e sty xs m l xs'|false=>false
 |_,_=>false
def d9C(sty:List Ty)(xs:List GE)(m:List (Option Nat))(a:VT):List (Nat×SV)→Bool
 | []=>true
 |q::l=>match d5M sty xs m q.2 (a1I a q.1)with
  |true=>d9C sty xs m a l|false=>false
def d4w(sty:List Ty)(xs:List GE)(m:List (Option Nat))(H:VH)(q:Nat):BlS→Option Nat→Bool
 |.cells c g ro et,some i=>match H.locs.get i with
  |some (.cells c' g' ro' et')=>match a5Z g' g,Nat.ble ro' ro,c8a et' et,c3e sty xs m c c' with
   |true,true,true,true=>true|_,_,_,_=>false
  |_=>false
 |.lst j jn ts et _,oi=>match d9U xs m q j jn,tyW sty j ts with
  |some _,true=>match oi with
   |some b=>match H.locs.get b with
    |some _=>c8a (d7Z H b) et|none=>false
   |none=>true
  |_,_=>false
 |_,_=>false
def c4b(sty:List Ty)(xs:List GE)(m:List (Option Nat))(H:VH):Nat→List BlS→List (Option Nat)→Bool
 |_,[],[]=>true
 |q,b::l,i::is=>match d4w sty xs m H q b i with
  |true=>c4b sty xs m H (q+1) l is|false=>false
 |_,_,_=>false
def c4A(tys:List Ty)(bd:List (Nat×Int))(H:VH)(m:List Nat):List Ty→List GE→Bool
 | [],[]=>true
 |t::ts,g::l=>match c4B tys bd H m t g with
  |true=>c4A tys bd H m ts l|false=>false
 |_,_=>false
def b6c:List (Option Nat)→List Nat
 | []=>[]|none::l=>b6c l|some x::l=>x::b6c l
def b7K(tys:List Ty)(bd:List (Nat×Int))(sg:Sig)(m:List (Option Nat))(xs:List GE)(a:VT)(H:VH):Bool:=
 match c4A tys bd H (b6c m) sg.tys xs,d9C sg.tys xs m a sg.tm,c4b sg.tys xs m H 0 sg.bl m,a5b (b6c m)with
 |true,true,true,true=>true|_,_,_,_=>false
theorem a8H: ∀{l:List Nat},a5b l=true→l.Nodup
 | [],_=>List.nodup_nil
 |x::l,h=>by
  simp only[a5b]at h;split at h
  ·cases h
  ·rename_i h1;refine List.nodup_cons.2 ⟨fun hm=> ?_,a8H h⟩;rw[b5K hm]at h1;cases h1
theorem a5R: ∀{m:List (Option Nat)} {q b:Nat},m[q]? =some (some b)→b∈b6c m
 | [],q,b,h=>by simp at h
 |o::m,0,b,h=>by simp only[List.getElem?_cons_zero,Option.some.injEq]at h;subst h;exact List.mem_cons_self
 |o::m,q+1,b,h=>by
  have:=a5R (m:=m) (q:=q) (by simpa using h);cases o with
  |none=>exact this
  |some x=>exact List.mem_cons_of_mem _ this
theorem b6b: ∀{m:List (Option Nat)},(b6c m).Nodup→ ∀{i j b:Nat},m[i]? =some (some b)→m[j]? =some (some b)→i=j
 | [],_,i,j,b,hi,_=>by simp at hi
 |o::m,hn,i,j,b,hi,hj=>by
  have sub:(b6c m).Nodup:=by
   cases o with
   |none=>exact hn
   |some x=>exact(List.nodup_cons.1 hn).2
  cases i with
  |zero=>
   simp only[List.getElem?_cons_zero,Option.some.injEq]at hi;subst hi;cases j with
   |zero=>rfl
   |succ j=>exact absurd (a5R (m:=m) (q:=j) (by simpa using hj)) (List.nodup_cons.1 hn).1
  |succ i=>
   cases j with
   |zero=>simp only[List.getElem?_cons_zero,Option.some.injEq]at hj;subst hj;exact absurd (a5R (m:=m) (q:=i) (by simpa using hi)) (List.nodup_cons.1 hn).1
   |succ j=>rw[b6b sub (i:=i) (j:=j) (by simpa using hi) (by simpa using hj)]
theorem c6n{φ:Phi}{x:VV}{v:Value}(h:a6j 0 0 x=true)(k:VR φ x v)(ψ:Phi):VR ψ x v:=by have:=b3y (m:=.lf) (ρ':=ψ.ρ) h k;refine VR.mono ?_ x v this;refine⟨fun i inf hi=> ?_,rfl⟩;obtain⟨j,h1,_⟩:=Phi.mv_of hi;rw[TT.get_lf]at h1;cases h1
section
variable[X:Ext]{w0 w W:World}{σ:List G}{β:List (Nat×Nat)}{tys:List Ty}{bd:List (Nat×Int)}{φ:Phi}{H:VH}{mm:List Nat}{m:List (Option Nat)}{xs:List GE}{gs:List G}{infs:List (Option Inf)}{sty:List Ty}
def Kn(w:World)(φ:Phi)(H:VH)(σ:List G)(xs:List GE)(gs:List G)(sty:List Ty):Prop:=
 ∀(j:Nat) g,a0H xs j=some g→ ∃u t,gs[j]? =some u∧sty[j]? =some t∧Den σ g u∧(c0P t=true→ ∀v,VR φ g.vv v→v=u.val)∧ ∀ts,t= .w ts→OwP w φ H ts g.vv u
theorem c2a(h:RdM w0 w W σ β tys bd φ H mm): ∀{ts:List Ty} {xs:List GE},c4A tys bd H mm ts xs=true→ ∃gs,b6I σ xs gs∧TyL ts gs∧GML W gs∧Kn w φ H σ xs gs ts
 | [],[],_=>⟨[],by simp only[b6I],by simp only[TyL],trivial,fun j g hj=>by cases hj⟩
 | [],_::_,hg=>by simp[c4A]at hg
 |_::_,[],hg=>by simp[c4A]at hg
 |t::ts,x::xs,hg=>by
  simp only[c4A]at hg;split at hg
  ·rename_i h1;obtain⟨u,a1,a2,a3,a4,a5⟩:=e1d h x h1;obtain⟨gs,b1,b2,b3,b4⟩:=c2a h hg;refine⟨u::gs,by simp only[b6I];exact⟨a1,b1⟩,by simp only[TyL];exact⟨a3,b2⟩,⟨a4,b3⟩,fun j g hj=> ?_⟩;cases j with
   |zero=>simp only[a0H,Option.some.injEq]at hj;subst hj;exact⟨u,t,rfl,rfl,a1,a2,a5⟩
   |succ j=>obtain⟨u',t',c1,c2,c3⟩:=b4 j g hj;exact⟨u',t',by simpa using c1,by simpa using c2,c3⟩
  ·cases hg
end
section
variable{w0 w W:World}{σ:List G}{β:List (Nat×Nat)}{tys:List Ty}{bd:List (Nat×Int)}{φ:Phi}{H:VH}{mm:List Nat}{m:List (Option Nat)}{xs:List GE}{gs:List G}{infs:List (Option Inf)}{sty:List Ty}
theorem c4t(hx:Kn w φ H σ xs gs sty): ∀{js:List Nat} {r:List VV} {vs:List Value},vvJ xs js=some r→a7H sty js=true→VRs φ r vs→vs=js.map fun j=>(gs.getD j .d).val
 | [],r,vs,h,_,k=>by simp only[vvJ,Option.some.injEq]at h;subst h;simp only[VRs]at k;rw[k];rfl
 |j::js,r,vs,h,hn,k=>by
  simp only[vvJ]at h;simp only[a7H]at hn;split at h
  ·rename_i g r' h1 h2;simp only[Option.some.injEq]at h;subst h;split at hn
   ·rename_i hn1;obtain⟨v,us,rfl,k1,k2⟩:=a1A k;obtain⟨u,t,u1,u2,_,u4,_⟩:=hx j g h1
    have hnt:c0P t=true:=by unfold c6S at hn1;rw[a0K,u2]at hn1;exact hn1
    rw[c4t hx h2 hn k2,List.map_cons,getD_of u1,u4 hnt v k1]
   ·cases hn
  ·cases h
end
section
variable[X:Ext]{w0 w W:World}{σ:List G}{β:List (Nat×Nat)}{tys:List Ty}{bd:List (Nat×Int)}{φ:Phi}{H:VH}{mm:List Nat}{m:List (Option Nat)}{xs:List GE}{gs:List G}{infs:List (Option Inf)}{sty:List Ty}
def e3V(φ:Phi)(m:List (Option Nat))(infs:List (Option Inf)):Prop:= ∀(q:Nat) b,m[q]? =some (some b)→ ∃inf,φ b=some inf∧a3w infs q=some inf
end
section
variable{w0 w W:World}{σ:List G}{β:List (Nat×Nat)}{tys:List Ty}{bd:List (Nat×Int)}{φ:Phi}{H:VH}{mm:List Nat}{m:List (Option Nat)}{xs:List GE}{gs:List G}{infs:List (Option Inf)}{sty:List Ty}
theorem c6G{q j jn:Nat}{y:VV}(h:d9U xs m q j jn=some y)(hx:Kn w φ H σ xs gs sty): ∃jo es,a0H xs j=some (.ow y jo es)∧((m[q]? =some none∧owB y=none∧gs.getD jn .d= .b true)∨ ∃b,m[q]? =some (some b)∧owB y=some b∧gs.getD jn .d= .b false):=by
 unfold d9U at h;split at h
 ·rename_i y' jo es f mb h1 h2 h3;rw[a0K]at h3
  have hf:gs.getD jn .d= .b f:=by obtain⟨u,t,u1,_,u3,_⟩:=hx jn _ h2;simp only[Den,gG]at u3;rw[getD_of u1,u3]
  split at h
  ·rename_i e1;cases h;refine⟨jo,es,h1,.inl ⟨h3, ?_,hf⟩⟩;unfold d3J at e1;split at e1<;>first|assumption|(cases e1;done)|skip
   rename_i a b _ hb;cases hb
  ·rename_i b e1;cases h;refine⟨jo,es,h1,.inr ⟨b,h3, ?_,hf⟩⟩;unfold d3J at e1;split at e1
   ·rename_i a2;cases a2
   ·rename_i x z ha hb;cases hb;rw[ha,Nat.eq_of_beq_eq_true e1]
   ·cases e1
  ·cases h
 ·cases h
end
section
variable[X:Ext]{w0 w W:World}{σ:List G}{β:List (Nat×Nat)}{tys:List Ty}{bd:List (Nat×Int)}{φ:Phi}{H:VH}{mm:List Nat}{m:List (Option Nat)}{xs:List GE}{gs:List G}{infs:List (Option Inf)}{sty:List Ty}
end
section
variable{w0 w W:World}{σ:List G}{β:List (Nat×Nat)}{tys:List Ty}{bd:List (Nat×Int)}{φ:Phi}{H:VH}{mm:List Nat}{m:List (Option Nat)}{xs:List GE}{gs:List G}{infs:List (Option Inf)}{sty:List Ty}
theorem b1r{gs:List G}: ∀{sh:List Sh} {js:List Nat} {r:List VV} {vs:List Value},js.length=(a0F sh).length→(∀{js':List Nat} {r':List VV} {vs':List Value},(∀j∈js',j∈js)→vvJ xs js'=some r'→VRs φ r' vs'→vs'=js'.map fun j=>(gs.getD j .d).val)→vvJ xs js=some r→VRs φ (vvS sh r) vs→vs=a3e sh (js.map fun j=>gs.getD j .d)
 | [],js,r,vs,_,_,_,k=>by simp only[vvS,VRs]at k;rw[k];rfl
 |.d t::sh,js,r,vs,hl,hu,hr,k=>by
  cases js with
  |nil=>simp[a0F]at hl
  |cons j js=>
   simp only[vvJ]at hr;split at hr
   ·rename_i g r' h1 h2;cases hr;simp only[vvS,List.headD_cons,List.tail_cons]at k;obtain⟨v,us,rfl,k1,k2⟩:=a1A k;have e:=hu (js':=[j]) (r':=[g.vv]) (vs':=[v]) (fun i hi=>by simp at hi;simp[hi]) (by simp[vvJ,h1]) (by simp only[VRs];exact⟨v,[],rfl,k1,rfl⟩);simp only[List.map_cons,List.map_nil,List.cons.injEq,and_true]at e;rw[b1r (sh:=sh) (by simpa[a0F]using hl) (fun hs=>hu fun i hi=>List.mem_cons_of_mem _ (hs i hi)) h2 k2,e];rfl
   ·cases hr
 |.st ts::sh,js,r,vs,hl,hu,hr,k=>by
  have spl: ∀(n:Nat) {js:List Nat} {r:List VV},vvJ xs js=some r→vvJ xs (js.take n)=some (r.take n)∧vvJ xs (js.drop n)=some (r.drop n):=by
   intro n
   induction n with
   |zero=>intro js r h;exact⟨rfl,by simpa using h⟩
   |succ n ih=>
    intro js r h;cases js with
    |nil=>simp only[vvJ,Option.some.injEq]at h;subst h;exact⟨rfl,rfl⟩
    |cons j js=>
     simp only[vvJ]at h;split at h
     ·rename_i g r' h1 h2;cases h;obtain⟨a,b⟩:=ih h2;exact⟨by simp only[List.take_succ_cons,vvJ,h1,a],by simpa using b⟩
     ·cases h
  obtain⟨a,b⟩:=spl ts.length hr;simp only[vvS]at k;obtain⟨v,us,rfl,k1,k2⟩:=a1A k;rw[VR]at k1;obtain⟨cs,c1,rfl⟩:=k1;have e:=hu (fun i hi=>List.mem_of_mem_take hi) a c1;rw[b1r (sh:=sh) (js:=js.drop ts.length) (by simp only[a0F,List.length_append]at hl;rw[List.length_drop];omega) (fun hs=>hu fun i hi=>List.mem_of_mem_drop (hs i hi)) b k2,e];simp only[a3e,List.map_take,List.map_drop,List.map_map];rfl
end
section
variable[X:Ext]{w0 w W:World}{σ:List G}{β:List (Nat×Nat)}{tys:List Ty}{bd:List (Nat×Int)}{φ:Phi}{H:VH}{mm:List Nat}{m:List (Option Nat)}{xs:List GE}{gs:List G}{infs:List (Option Inf)}{sty:List Ty}
end
section
variable{w0 w W:World}{σ:List G}{β:List (Nat×Nat)}{tys:List Ty}{bd:List (Nat×Int)}{φ:Phi}{H:VH}{mm:List Nat}{m:List (Option Nat)}{xs:List GE}{gs:List G}{infs:List (Option Inf)}{sty:List Ty}
theorem c5H{gs:List G}{sty:List Ty}(ht:TyL sty gs): ∀{ts:List Ty} {j:Nat},d9B sty ts j=true→TyL ts ((List.range' j ts.length).map fun i=>gs.getD i .d)
 | [],_,_=>by simp[TyL]
 |t::ts,j,h=>by
  simp only[d9B]at h;split at h
  ·rename_i t' h1;split at h
   ·rename_i h2;rw[c5I h2,a0K]at h1;obtain⟨g,g1,g2⟩:=ht.at h1;simp only[List.length_cons,List.range'_succ,List.map_cons,TyL];exact⟨by rw[getD_of g1];exact g2,c5H ht h⟩
   ·cases h
  ·cases h
end
section
variable[X:Ext]{w0 w W:World}{σ:List G}{β:List (Nat×Nat)}{tys:List Ty}{bd:List (Nat×Int)}{φ:Phi}{H:VH}{mm:List Nat}{m:List (Option Nat)}{xs:List GE}{gs:List G}{infs:List (Option Inf)}{sty:List Ty}
end
section
variable{w0 w W:World}{σ:List G}{β:List (Nat×Nat)}{tys:List Ty}{bd:List (Nat×Int)}{φ:Phi}{H:VH}{mm:List Nat}{m:List (Option Nat)}{xs:List GE}{gs:List G}{infs:List (Option Inf)}{sty:List Ty}
theorem c5R(ht:TyL sty gs)(hx:Kn w φ H σ xs gs sty)(hi:e3V φ m infs){sv:SV}{x:VV}{v:Value}(h:d5M sty xs m sv x=true)(k:VR φ x v):svR gs infs sv v:=by
 unfold d5M at h;cases sv with
 |d j=>
  simp only at h;split at h
  ·rename_i g hg hn;obtain⟨u,t,u1,u2,_,u4,_⟩:=hx j g hg
   have hnt:c0P t=true:=by unfold c6S at hn;rw[a0K,u2]at hn;exact hn
   rw[←a0f _ _ h]at k;simp only[svR];rw[getD_of u1,u4 hnt v k]
  ·cases h
 |st js=>
  simp only at h;split at h
  ·rename_i r hr hn;rw[←a0f _ _ h,VR]at k;obtain⟨cs,c1,rfl⟩:=k;simp only[svR];rw[c4t hx hr hn c1]
  ·cases h
 |fp f q=>
  simp only at h;split at h
  ·rename_i f' b o' b' hb;split at h
   ·rename_i h1 h2;have e1:=Nat.eq_of_beq_eq_true h1;have e2:=Nat.eq_of_beq_eq_true h2;have e3:=Nat.eq_of_beq_eq_true h;subst e1 e2 e3;rw[VR]at k;obtain⟨fs,cs,_,k1,k2,rfl⟩:=k;simp only[VRs]at k1 k2;obtain⟨v,vs,rfl,k3,rfl⟩:=k1;subst k2;simp only[VR,AR]at k3;obtain⟨a',s,⟨inf,i1,rfl,_⟩,rfl⟩:=k3;rw[a0K]at hb;obtain⟨inf',j1,j2⟩:=hi q b hb;rw[i1]at j1;cases j1;exact⟨inf,j2,rfl⟩
   ·cases h
  ·cases h
 |p q o=>
  simp only at h;split at h
  ·rename_i b o' b' hb;split at h
   ·rename_i h1;have e1:=Nat.eq_of_beq_eq_true h1;have e2:=Nat.eq_of_beq_eq_true h;subst e1 e2;simp only[VR,AR]at k;obtain⟨a',s,⟨inf,i1,rfl,_⟩,rfl⟩:=k;rw[a0K]at hb;obtain⟨inf',j1,j2⟩:=hi q b hb;rw[i1]at j1;cases j1;exact⟨inf,j2,rfl⟩
   ·cases h
  ·cases h
 |k y=>
  simp only at h;split at h
  ·rename_i h1;rw[←a0f _ _ h1]at k;exact fun ψ=>c6n h k ψ
  ·cases h
 |own q j jn=>
  simp only at h;split at h
  ·rename_i y hy hw;obtain⟨jo,es,h1,h2⟩:=c6G hy hx;obtain⟨u,t,u1,u2,_,_,u5⟩:=hx j _ h1;unfold e3B at hw;rw[a0K,u2]at hw;split at hw
   ·rename_i ts ht;cases ht;obtain⟨es',rfl,u6⟩:=u5 ts rfl;rw[←a0f _ _ h]at k;rcases u6 with⟨a1,rfl,a3⟩|⟨b,inf,a1,a2,a3,a4⟩
    ·rcases h2 with⟨m1,m2,m3⟩|⟨b,m1,m2,m3⟩
     ·have a3:y= .slice none 0 0:=a3;subst a3;simp only[VR]at k;exact .inl ⟨m3,k⟩
     ·have a1:owB y=none:=a1;rw[m2]at a1;cases a1
    ·have a1:owB y=some b:=a1;rcases h2 with⟨m1,m2,m3⟩|⟨b',m1,m2,m3⟩
     ·rw[m2]at a1;cases a1
     ·rw[m2]at a1;cases a1;obtain⟨inf',j1,j2⟩:=hi q _ m1;rw[a2]at j1;cases j1;exact .inr ⟨m3,inf,es',j2,getD_of u1,a4 v k⟩
   ·cases hw
  ·cases h
 |tu sh j=>
  simp only at h;split at h
  ·rename_i r hr hn hty;rw[←a0f _ _ h,VR]at k;obtain⟨cs,c1,rfl⟩:=k;refine⟨c5H ht hty, ?_⟩
   have nw: ∀{js js':List Nat},(∀i∈js',i∈js)→a7H sty js=true→a7H sty js'=true:=by
    intro js js'
    have mem: ∀{js:List Nat},a7H sty js=true→ ∀i∈js,c6S sty i=true:=by
     intro js
     induction js with
     |nil=>intro _ i hi;cases hi
     |cons a js ih=>
      intro h i hi;simp only[a7H]at h;split at h
      ·rename_i h1;rcases List.mem_cons.1 hi with rfl|hi
       ·exact h1
       ·exact ih h i hi
      ·cases h
    intro hs h;have hm:=mem h
    induction js' with
    |nil=>rfl
    |cons a js' ih=>simp only[a7H,hm a (hs a List.mem_cons_self)];exact ih fun i hi=>hs i (List.mem_cons_of_mem _ hi)
   rw[b1r (gs:=gs) (by rw[List.length_range']) (fun hs hr' hv'=>c4t hx hr' (nw hs hn) hv') hr c1]
  ·cases h
end
section
variable[X:Ext]{w0 w W:World}{σ:List G}{β:List (Nat×Nat)}{tys:List Ty}{bd:List (Nat×Int)}{φ:Phi}{H:VH}{mm:List Nat}{m:List (Option Nat)}{xs:List GE}{gs:List G}{infs:List (Option Inf)}{sty:List Ty}
end
section
variable{H:VH}{m:List (Option Nat)}{xs:List GE}{sty:List Ty}
theorem c1d: ∀{l:List SV} {c:List VV},c3e sty xs m l c=true→l.length=c.length∧ ∀(j:Nat) sv,l[j]? =some sv→ ∃x,c[j]? =some x∧d5M sty xs m sv x=true
 | [],[],_=>⟨rfl,fun j sv h=>by simp at h⟩
 | [],_::_,h=>by simp[c3e]at h
 |_::_,[],h=>by simp[c3e]at h
 |s::l,x::c,h=>by
  simp only[c3e]at h;split at h
  ·rename_i h1;obtain⟨a,b⟩:=c1d h;refine⟨by simp[a],fun j sv hj=> ?_⟩;cases j with
   |zero=>simp only[List.getElem?_cons_zero,Option.some.injEq]at hj;subst hj;exact⟨x,rfl,h1⟩
   |succ j=>simpa using b j sv (by simpa using hj)
  ·cases h
theorem c5K{a:VT}: ∀{l:List (Nat×SV)},d9C sty xs m a l=true→ ∀q∈l,d5M sty xs m q.2 (a1I a q.1)=true
 | [],_,q,hq=>by cases hq
 |p::l,h,q,hq=>by
  simp only[d9C]at h;split at h
  ·rename_i h1;rcases List.mem_cons.1 hq with rfl|hq
   ·exact h1
   ·exact c5K h q hq
  ·cases h
theorem c3D: ∀{q0:Nat} {l:List BlS} {is:List (Option Nat)},c4b sty xs m H q0 l is=true→is.length=l.length∧ ∀(q:Nat) b i,l[q]? =some b→is[q]? =some i→d4w sty xs m H (q0+q) b i=true
 |_,[],[],_=>⟨rfl,fun q b i h=>by simp at h⟩
 |_,[],_::_,h=>by simp[c4b]at h
 |_,_::_,[],h=>by simp[c4b]at h
 |q0,b::l,i::is,h=>by
  simp only[c4b]at h;split at h
  ·rename_i h1;obtain⟨a1,a2⟩:=c3D h;refine⟨by simp[a1],fun q b' i' hb hi=> ?_⟩;cases q with
   |zero=>simp only[List.getElem?_cons_zero,Option.some.injEq]at hb hi;subst hb hi;exact h1
   |succ q=>have:=a2 q b' i' (by simpa using hb) (by simpa using hi);rw[show q0+(q+1)=q0+1+q by omega];exact this
  ·cases h
end
theorem a4W{w w':World}{S:Nat→Prop}{l l':List Nat}(hl: ∀b∈l,b<w.heap.size)(hS: ∀b,S b↔b∈l)(hsz:w.heap.size≤w'.heap.size)(same: ∀k,k<w.heap.size→ ¬S k→w'.heap[k]? =w.heap[k]?)(hl': ∀b∈l',b∈l∨w.heap.size≤b):Sub (a0W w l) (a0W w' l'):=by
 refine⟨by rw[a1m,a1m];exact hsz,fun a v hv=> ?_⟩;obtain⟨h1,h2⟩:=a4L hl hv
 have hlt:a.block<w.heap.size:=by
  rcases Nat.lt_or_ge a.block w.heap.size with h|h
  ·exact h
  ·unfold World.cell? at h2;rw[Array.getElem?_eq_none h]at h2;cases h2
 refine a9a ?_ fun hm=> ?_
 ·rw[←h2];unfold World.cell?;rw[same _ hlt fun hs=>h1 ((hS _).1 hs)]
 ·rcases hl' _ hm with h|h
  ·exact h1 h
  ·omega
section
variable{L:List Nat}{P:Program}{S:Nat→Prop}{nt:Nat}{sg sg':Sig}{σ τ:List G}{β:List (Nat×Nat)}{infs:List (Option Inf)}{we w w':World}{act act':Act}{p:PI}{us:List Ty}{a:VT}{H:VH}{φ:Phi}{m:List (Option Nat)}{xs:List GE}
abbrev e2e(L:List Nat)(P:Program)(p:PI)(S:Nat→Prop)(infs:List (Option Inf))(ρ:Rho)(nt:Nat)(w:World)(a:VT)(H:VH)(act':Act)(w':World)(φ:Phi):Prop:= @Beh (XK P p.ke S) (a0W w (L++a1Y infs)) (a3w infs) (fun k=> ∃i inf,a3w infs i=some inf∧inf.blk=k) ρ nt w a H act' w' φ
theorem c6F(b:Nat):(∃i inf,a3w infs i=some inf∧inf.blk=b)↔b∈a1Y infs:=a1V.symm
def b1a(sg:Sig)(σ:List G):Prop:= ∀(q:Nat) j jn ts et n,sg.bl[q]? =some (.lst j jn ts et n)→(σ.getD j .d).int≤(n:Int)
theorem c0j{O:List Inf}(k:HeadSt O L nt sg σ infs we act w)(hL: ∀b∈L,b<we.heap.size)(h:PIok P S (a0W w (L++a1Y infs)) (σ++τ) β p)(b:e2e L P p S infs (a1s (σ++τ) β) nt w a H act' w' φ)(hp: ∀q,q<O.length→m[q]? =some (some q))(hg:b7K p.tys p.bd sg' m xs a H=true):
  ∃gs infs',b6I (σ++τ) xs gs∧TyL sg'.tys gs∧Kn w' φ H (σ++τ) xs gs sg'.tys∧(b1a sg' gs→HeadSt O L nt sg' gs infs' we act' w'):=by
 letI:Ext:=XK P p.ke S
 unfold b7K at hg;split at hg
 ·rename_i g1 g2 g3 g4;obtain⟨b1,b2⟩:=c3D g3;have g4:=a8H g4
  have live: ∀(q:Nat) i,m[q]? =some (some i)→ ∃inf o',φ i=some inf∧(H.locs.get i).isSome=true∧w'.heap[inf.blk]? =some o':=fun q i hi=>by
   have hlt:=(List.getElem?_eq_some_iff.1 hi).1;have hb:=b2 q _ (some i) (List.getElem?_eq_getElem (l:=sg'.bl) (i:=q) (by omega)) hi
   have: ∃o,H.locs.get i=some o:=by
    generalize sg'.bl[q]=bb at hb;cases bb with
    |cells c g ro et=>
     simp only[d4w]at hb;split at hb
     ·rename_i h1;exact⟨_,h1⟩
     ·cases hb
    |lst j jn ts et n=>
     simp only[d4w]at hb;split at hb
     ·split at hb
      ·rename_i ho;exact⟨_,ho⟩
      ·cases hb
     ·cases hb
   obtain⟨o,ho⟩:=this;obtain⟨inf,o',h2,h3,_,_⟩:=b.sim.live i o ho;exact⟨inf,o',h2,by rw[ho];rfl,h3⟩
  let infs':List (Option Inf):=m.map fun o=>match o with
   |some i=>φ i|none=>none
  have inf_at:e3V φ m infs':=fun q i hi=>by obtain⟨inf,_,h2,_⟩:=live q i hi;refine⟨inf,h2,c7K ?_⟩;show(m.map _)[q]? =_;rw[List.getElem?_map,hi];simp[h2]
  have inf_of: ∀(q:Nat) inf,a3w infs' q=some inf→ ∃i,m[q]? =some (some i)∧φ i=some inf:=fun q inf hi=>by
   have h1:=c0h hi;have h1:(m.map _)[q]? =some (some inf):=h1;rw[List.getElem?_map,Option.map_eq_some_iff]at h1;obtain⟨o,h2,h3⟩:=h1;cases o with
   |none=>cases h3
   |some i=>exact⟨i,h2,h3⟩
  have hLw: ∀b∈L,b<w.heap.size:=fun b hb=>Nat.lt_of_lt_of_le (hL b hb) k.an.wk.size
  have hk: ∀b∈L++a1Y infs,b<w.heap.size:=fun b hb=>by
   rcases List.mem_append.1 hb with hb|hb
   ·exact hLw b hb
   ·obtain⟨i,inf,hi,rfl⟩:=a1V.1 hb;exact k.lt i inf hi
  have own: ∀i inf,φ i=some inf→inf.blk∈a1Y infs∨w.heap.size≤inf.blk:=fun i inf hi=>(b.own i inf hi).imp (c6F _).1 id;have same: ∀k,k<w.heap.size→ ¬k∈a1Y infs→w'.heap[k]? =w.heap[k]? :=fun q hq hn=>b.same q hq fun hs=>hn ((c6F _).1 hs)
  have sub:Sub (a0W w (L++a1Y infs)) (a0W w' (L++a1Y infs')):=a4W (S:=fun b=>b∈L++a1Y infs) hk (fun _=>Iff.rfl) b.wk.size (fun q hq hn=>same q hq fun h=>hn (List.mem_append_right _ h)) fun q hq=>by
   rcases List.mem_append.1 hq with hq|hq
   ·exact .inl (List.mem_append_left _ hq)
   ·obtain⟨q',inf,hi,rfl⟩:=a1V.1 hq;obtain⟨i,_,h2⟩:=inf_of q' inf hi;exact(own i inf h2).imp (fun h=>List.mem_append_right _ h) id
  have rd:RdM (a0W w (L++a1Y infs)) w' (a0W w' (L++a1Y infs')) (σ++τ) β p.tys p.bd φ H (b6c m):=⟨b.sim,b.rho,h.ty,h.mem.sub sub,a1m _ _,fun q inf hq hn hl o v hv=>a9a hv fun hm=>by
   rcases List.mem_append.1 hm with hm|hm
   ·rcases own q inf hq with hs|hs
    ·obtain⟨q3,inf3,h3,h4⟩:=a1V.1 hs;have h5:inf.blk<we.heap.size:=hL _ hm;rcases k.ge q3 inf3 h3 with⟨q4,o4,e4,e5⟩|hge
     ·have p2:=b.pin q4 o4 (k.pin q4 o4 e4);have p3:=hp q4 (List.getElem?_eq_some_iff.1 e4).1;obtain⟨inf5,o5',l1,l2,l3⟩:=live q4 q4 p3;obtain⟨oq,hoq⟩:=Option.isSome_iff_exists.1 hl;obtain⟨o5,ho5⟩:=Option.isSome_iff_exists.1 l2;have:=b.sim.inj q q4 oq o5 inf o4 hoq ho5 hq p2 (h4.symm.trans e5.symm);subst this;exact hn (a5R p3)
     ·omega
    ·have h5:inf.blk<w.heap.size:=hLw _ hm;omega
   obtain⟨q2,inf2,hi,he⟩:=a1V.1 hm;obtain⟨i2,h1,h2⟩:=inf_of q2 inf2 hi;obtain⟨inf3,o3',l1,l2,l3⟩:=live q2 i2 h1;rw[h2]at l1;cases l1;obtain⟨oq,hoq⟩:=Option.isSome_iff_exists.1 hl;obtain⟨o3,ho3⟩:=Option.isSome_iff_exists.1 l2;have:=b.sim.inj q i2 oq o3 inf inf2 hoq ho3 hq h2 he.symm;subst this
   exact hn (a5R h1),fun q hq=>(h.bd q hq).2⟩
  obtain⟨gs,d1,d2,d3,d4⟩:=c2a rd g1;refine⟨gs,infs',d1,d2,d4,fun hbd=>⟨b.sz,b.df,fun q hq=>c5R d2 d4 inf_at (c5K g2 q hq) (b.tr q.1), ?_,fun q bl hq=> ?_, ?_,fun q inf hf=> ?_,fun q inf hf=> ?_,d2,d3, ?_,fun q o hq=> ?_⟩⟩
  ·show(m.map _).length=_;rw[List.length_map];exact b1
  ·have hlt:=(List.getElem?_eq_some_iff.1 hq).1;have hm:=List.getElem?_eq_getElem (l:=m) (i:=q) (by omega);have hbl:=b2 q bl _ hq hm;rw[Nat.zero_add]at hbl;generalize m[q]=oi at hm hbl;cases bl with
   |cells c g ro et=>
    cases oi with
    |none=>simp[d4w]at hbl
    |some i=>
     simp only[d4w]at hbl;split at hbl
     ·rename_i c2 g2 ro2 et2 h1;split at hbl
      ·rename_i f1 f2 f3 f4;obtain⟨inf,i1,i2⟩:=inf_at q i hm;obtain⟨inf3,o',l1,l2,⟨c',e,fr,rfl,hc⟩,_⟩:=b.sim.live _ _ h1;rw[i1]at l1;cases l1;obtain⟨s1,s2⟩:=c1d f4;have eg:=a2O f1;subst eg;refine⟨inf,i2,c',e,fr,l2,by rw[s1];exact hc.size,hc.fixed,fun j sv hj=> ?_, ?_,fun t ht=> ?_⟩
       ·obtain⟨x,x1,x2⟩:=s2 j sv hj;obtain⟨y,y1,y2⟩:=hc.cell j x x1;exact⟨y,y1,c5R d2 d4 inf_at x2 y2⟩
       ·have:=hc.low;have:=Nat.le_of_ble_eq_true f2;omega
       ·obtain⟨t1,t2⟩:=hc.typ t (a6F f3 t ht);exact⟨t1,by rw[s1];exact t2⟩
      ·cases hbl
     ·cases hbl
   |lst j jn ts et n=>
    simp only[d4w]at hbl;split at hbl
    ·rename_i y hy hty;obtain⟨jo,es,h1,h2⟩:=c6G hy d4;obtain⟨u,t,u1,u2,_,_,u5⟩:=d4 j _ h1
     have et':t= .w ts:=by
      unfold tyW at hty;rw[a0K,u2]at hty;split at hty
      ·rename_i ts' e1;cases e1;rw[tyEqs_eq hty]
      ·cases hty
     obtain⟨es',rfl,u6⟩:=u5 ts et';rcases h2 with⟨m1,m2,m3⟩|⟨bb,m1,m2,m3⟩
     ·rcases u6 with⟨_,e2,_⟩|⟨bb,inf,a1,_⟩
      ·left;refine⟨m3, ?_,by rw[getD_of u1,e2]⟩
       have e3:infs'[q]? =some none:=by show(m.map _)[q]? =_;rw[List.getElem?_map,m1];rfl
       unfold a3w;rw[e3]
      ·have a1:owB y=some bb:=a1;rw[m2]at a1;cases a1
     ·rcases u6 with⟨e1,_,_⟩|⟨bb',inf,a1,a2,a3,a4⟩
      ·have e1:owB y=none:=e1;rw[m2]at e1;cases e1
      ·have a1:owB y=some bb':=a1;rw[m2]at a1;cases a1;rw[m1]at hm;cases hm;simp only at hbl;split at hbl
       case h_2=>cases hbl
       obtain⟨inf',i1,i2⟩:=inf_at q _ m1;rw[a2]at i1;cases i1;right;refine⟨m3,inf,es',i2,getD_of u1, ?_, ?_⟩
       ·have:=hbd q j jn ts et n hq;rw[getD_of u1]at this;simp only[G.int]at this;omega
       ·obtain⟨c',e,fr,cs,q1,q2,q3,q4,q5,q6,q7⟩:=a3;exact⟨c',e,fr,cs,q1,q2,q3,q4,q5,q6,fun t ht=>q7 t (a6F hbl t ht)⟩
    ·cases hbl
  ·intro q1 q2 f1 f2 e1 e2 he;obtain⟨i1,m1,p1⟩:=inf_of q1 f1 e1;obtain⟨i2,m2,p2⟩:=inf_of q2 f2 e2;obtain⟨_,_,l1,l2,_⟩:=live q1 i1 m1;obtain⟨_,_,k1,k2,_⟩:=live q2 i2 m2;obtain⟨o1,ho1⟩:=Option.isSome_iff_exists.1 l2;obtain⟨o2,ho2⟩:=Option.isSome_iff_exists.1 k2;have:=b.sim.inj i1 i2 o1 o2 f1 f2 ho1 ho2 p1 p2 he;subst this;exact b6b g4 m1 m2
  ·obtain⟨i,h1,h2⟩:=inf_of q inf hf;rcases own i inf h2 with hs|hs
   ·obtain⟨q3,inf2,h3,h4⟩:=a1V.1 hs;rw[←h4];exact k.ge q3 inf2 h3
   ·exact .inr (Nat.le_trans k.an.wk.size hs)
  ·obtain⟨i,h1,h2⟩:=inf_of q inf hf;exact b.sim.bound i inf h2
  ·refine⟨k.an.wk.trans b.wk,fun q hq ho=> ?_⟩;have hlt:=Nat.lt_of_lt_of_le hq k.an.wk.size;rw[same q hlt fun hs=> ?_,k.an.old q hq ho];obtain⟨q3,inf2,h3,h4⟩:=a1V.1 hs;rcases k.ge q3 inf2 h3 with⟨q4,o4,e4,e5⟩|hge
   ·exact ho o4 (List.mem_of_getElem? e4) (e5.trans h4)
   ·omega
  ·obtain⟨inf,i1,i2⟩:=inf_at q q (hp q (List.getElem?_eq_some_iff.1 hq).1);rw[b.pin q o (k.pin q o hq)]at i1;cases i1;exact i2
 ·cases hg
theorem d2n(b:e2e L P p S infs (a1s (σ++τ) β) nt w a H act' w' φ){fn:Func}{rs:List Sh}{oty:List Ty}{l:List VV}{gs:List G}(hr:a8E P a H fn.results.toList=some l)(hl:vvsEq l (vvS rs (xs.map GE.vv))=true)(hnw: ∀t∈a0F rs,c0P t=true)(d1:b6I (σ++τ) xs gs)(d2:TyL (a0F rs++oty) gs)(hk:Kn w' φ H (σ++τ) xs gs (a0F rs++oty)):
  (results fn act'.tmps).run P w'= .ok (a8w rs gs) w':=by
 letI:Ext:=XK P p.ke S
 have d4: ∀(j:Nat) g,j<(a0F rs).length→a0H xs j=some g→ ∃u,gs[j]? =some u∧ ∀v,VR φ g.vv v→v=u.val:=fun j g hlt hj=>by obtain⟨u,t,u1,u2,_,u4,_⟩:=hk j g hj;rw[List.getElem?_append_left hlt]at u2;exact⟨u,u1,u4 (hnw t (List.mem_of_getElem? u2))⟩
 suffices hh: ∃v,(results fn act'.tmps).run P w'= .ok v w'∧v=a8w rs gs by
  obtain⟨v,h1,rfl⟩:=hh;exact h1
 ·obtain⟨v,r1,r2⟩:=a1j (P:=P) b.tr b.sim (fn:=fn) hr;refine⟨v,r1, ?_⟩;rw[vvsEq_eq _ _ hl]at r2
  have key: ∀{ys:List GE} {us:List G} {vs:List Value},(∀(j:Nat) g,a0H ys j=some g→ ∃u,us[j]? =some u∧ ∀v,VR φ g.vv v→v=u.val)→ys.length=us.length→VRs φ (ys.map GE.vv) vs→vs=us.map G.val:=by
   intro ys
   induction ys with
   |nil=>
    intro us vs hd he hv;cases us with
    |nil=>simpa only[List.map_nil,VRs]using hv
    |cons u us=>simp at he
   |cons y ys ih=>
    intro us vs hd he hv;cases us with
    |nil=>simp at he
    |cons u us=>
     obtain⟨v,vs',rfl,h1,h2⟩:=a1A (by simpa only[List.map_cons]using hv);obtain⟨u',e1,e2⟩:=hd 0 y rfl;simp only[List.getElem?_cons_zero,Option.some.injEq]at e1;subst e1
     rw[e2 v h1,ih (us:=us) (fun j g hj=>by
      obtain⟨u',f1,f2⟩:=hd (j+1) g hj
      exact⟨u',by simpa using f1,f2⟩) (by simpa using he) h2]
     rfl
  have dl: ∀{ys:List GE} {us:List G},b6I (σ++τ) ys us→ys.length=us.length:=by
   intro ys
   induction ys with
   |nil=>
    intro us h;cases us with
    |nil=>rfl
    |cons u us=>simp only[b6I]at h
   |cons y ys ih=>
    intro us h;cases us with
    |nil=>simp only[b6I]at h
    |cons u us=>simp only[b6I]at h;simp[ih h.2]
  have hlen:=dl d1
  have shp: ∀{sh:List Sh} {ot:List Ty} {ys:List GE} {us:List G} {vs:List Value},(∀(j:Nat) g,j<(a0F sh).length→a0H ys j=some g→ ∃u,us[j]? =some u∧ ∀v,VR φ g.vv v→v=u.val)→ys.length=us.length→TyL (a0F sh++ot) us→VRs φ (vvS sh (ys.map GE.vv)) vs→vs=a3e sh us:=by
   intro sh
   induction sh with
   |nil=>intro ot ys us vs _ _ _ hv;simp only[vvS,VRs]at hv;rw[hv];rfl
   |cons s sh ih=>
    intro ot ys us vs hd he ht hv;cases s with
    |d t=>
     cases us with
     |nil=>simp[a0F,TyL]at ht
     |cons u us=>cases ys with
      |nil=>simp at he
      |cons y ys=>
       simp only[a0F,List.cons_append,TyL]at ht;simp only[vvS,List.map_cons,List.headD_cons,List.tail_cons]at hv;obtain⟨v,vs',rfl,h1,h2⟩:=a1A hv;obtain⟨u',e1,e2⟩:=hd 0 y (by simp[a0F]) rfl;simp only[List.getElem?_cons_zero,Option.some.injEq]at e1;subst e1;simp only[a3e,List.headD_cons,List.tail_cons]
       rw[e2 v h1,ih (ot:=ot) (fun j g hlt hj=>by
        obtain⟨u',f1,f2⟩:=hd (j+1) g (by simp only[a0F,List.length_cons];omega) hj
        exact⟨u',by simpa using f1,f2⟩) (by simpa using he) ht.2 h2]
    |st ts=>
     simp only[a0F,List.append_assoc]at ht;simp only[vvS]at hv;obtain⟨v,vs',rfl,h1,h2⟩:=a1A hv;rw[VR]at h1;obtain⟨cs,c1,rfl⟩:=h1;rw[←List.map_take]at c1;rw[←List.map_drop]at h2
     have tl: ∀{ts us:List Ty} {gs:List G},TyL (ts++us) gs→TyL us (gs.drop ts.length):=by
      intro ts
      induction ts with
      |nil=>intro us gs h;simpa using h
      |cons t ts ih=>
       intro us gs h;cases gs with
       |nil=>simp[TyL]at h
       |cons g gs=>simp only[List.cons_append,TyL]at h;simpa using ih h.2
     have k1:=key (ys:=ys.take ts.length) (us:=us.take ts.length) (fun j g hj=>by
      rw[a0K,List.getElem?_take]at hj;split at hj
      ·rename_i hlt;obtain⟨u,f1,f2⟩:=hd j g (by simp only[a0F,List.length_append];omega) (by rw[a0K];exact hj);exact⟨u,by rw[List.getElem?_take,if_pos hlt];exact f1,f2⟩
      ·cases hj) (by rw[List.length_take,List.length_take,he]) c1
     have k2:=ih (ot:=ot) (ys:=ys.drop ts.length) (us:=us.drop ts.length) (fun j g hlt hj=>by
      rw[a0K,List.getElem?_drop]at hj;obtain⟨u,f1,f2⟩:=hd (ts.length+j) g (by simp only[a0F,List.length_append];omega) (by rw[a0K];exact hj)
      exact⟨u,by rw[List.getElem?_drop];exact f1,f2⟩) (by rw[List.length_drop,List.length_drop,he]) (tl ht) h2
     simp only[a3e];rw[k1,k2]
  unfold a8w
  have fin: ∀{zs:List VV},VR φ (c9V zs) v→ ∃vs,VRs φ zs vs∧v=e1G vs:=fun{zs} hz=>by
   match zs,hz with
   | [],hz=>have hz:VR φ (.tuple []) v:=hz;rw[VR]at hz;obtain⟨cs,c1,rfl⟩:=hz;refine⟨cs,c1, ?_⟩;simp only[VRs]at c1;rw[c1];rfl
   | [x],hz=>exact⟨[v],by simp only[VRs];exact⟨v,[],rfl,hz,rfl⟩,rfl⟩
   |x::y::l,hz=>have hz:VR φ (.tuple (x::y::l)) v:=hz;rw[VR]at hz;obtain⟨cs,c1,rfl⟩:=hz;refine⟨cs,c1, ?_⟩;obtain⟨a1,as1,rfl,_,c2⟩:=a1A c1;obtain⟨a2,as2,rfl,_,_⟩:=a1A c2;rfl
  obtain⟨vs,v1,rfl⟩:=fin r2;rw[shp (ot:=oty) d4 hlen d2 v1]
end
end
end Go.Ev
