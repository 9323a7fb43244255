/-
  Chapter 28: laws that hang on no program.
-/
import Derived.Test.YtcblehiddfnafaaTxC
import Derived.WalkKit
import Derived.Handy
import Derived.Deep.RegionWith
import Derived.Deep.Cut
import Derived.Shelf.SlSortCmp.QuietGrown
import Derived.Laws.EntriesVeiled
import Derived.Lib.SliceRun
import Derived.Shelf.RegionOpenPlain
import Derived.Laws.AppendOwn
import Derived.Laws.OwnMore
import Derived.StillTailTactics
import Derived.Deep.RegionHeld
import Derived.Deep.CutBlock
import Derived.Deep.CutRange
import Derived.Deep.DeepBigQuietO
import Derived.Laws.StructEq
import Derived.Maps.Own
namespace Go.Proofs.Ytcblehiddfnafaa.canonSame
open Go.Shelf Go.RowKit Go.Lib Go.Sort
section
variable{P:Program}
def Gr(w W:World):Prop:= ∃n os,W=grow (w.drewN n) os
theorem a6b{w W:World}:Gr w W↔SWK (fun _:Unit=>([]:List Value)) 0 w 0 0 #[] W:=by
 have e: ∀n,putRowK (fun _:Unit=>([]:List Value)) 0 (Sort.ahead w n) 0 0 #[]=w.drewN n:=fun n=>by
  have h:HoldsK (fun _:Unit=>([]:List Value)) 0 (w.drewN n) 0 0 #[]:=by
   intro i hi
   simp[flatK]at hi
  exact putRowK_self _ 0 (w.drewN n) 0 0 #[] h
 constructor
 ·rintro⟨n,os,rfl⟩
  exact⟨n,os,by unfold sortWorldK;rw[e]⟩
 ·rintro⟨n,os,rfl⟩
  exact⟨n,os,by unfold sortWorldK;rw[e]⟩
theorem Gr.refl(w:World):Gr w w:=⟨0, #[],by simp[grow,World.drewN]⟩
theorem Gr.alloc{w W:World}(h:Gr w W)(o:Obj):Gr w (W.alloc o):=a6b.2 ((a6b.1 h).alloc o)
theorem Gr.drewN{w W:World}(h:Gr w W)(q:Nat):Gr w (W.drewN q):=a6b.2 ((a6b.1 h).drewN q)
theorem Gr.drew{w W:World}(h:Gr w W):Gr w W.drew:=h.drewN 1
theorem Gr.le{w W:World}(h:Gr w W):w.heap.size≤W.heap.size:=(a6b.1 h).le
theorem Gr.set{w W:World}(h:Gr w W)(b o:Nat)(v:Value)(hb:w.heap.size≤b):Gr w (W.setCell ⟨b,o,none⟩ v):=a6b.2 ((a6b.1 h).setCell_new b o v hb)
theorem Gr.sets{w W:World}(b:Nat)(hb:w.heap.size≤b): ∀(vs:List Value) (o:Nat) {W:World},Gr w W→Gr w (W.setCells b o vs)
 | [],_,_,h=>h
 |v::vs,o,_,h=>Gr.sets (W:=W) b hb vs (o+1) (h.set b o v hb)
theorem Gr.trans{w W X:World}(h:Gr w W)(k:Gr W X):Gr w X:=by
 obtain⟨n,os,rfl⟩:=k
 have:=h.drewN n
 obtain⟨m,os',e⟩:=this
 refine⟨m,os'++os, ?_⟩
 rw[e,grow_grow]
theorem Gr.cell{w W:World}(h:Gr w W){a:Addr}(ha:a.block<w.heap.size):W.cell? a=w.cell? a:=by
 obtain⟨n,os,rfl⟩:=h
 rw[cell?_grow _ _ _ (by exact ha)]
 rfl
def Rows(w:World)(a:Option Addr)(k:Nat)(l:List (Array Value)):Prop:=l= []∨ ∃B O,a=some ⟨B,O,none⟩∧B<w.heap.size∧ ∀i x,l[i]? =some x→ ∀j v,x[j]? =some v→w.cell? ⟨B,O+i*k+j,none⟩=some v
theorem Rows.later{w w':World}{a:Option Addr}{k:Nat}{l:List (Array Value)}(h:Rows w a k l)(hs:w.heap.size≤w'.heap.size)(hc: ∀p:Addr,p.block<w.heap.size→w'.cell? p=w.cell? p):Rows w' a k l:=by
 rcases h with h|⟨B,O,e,hb,h⟩
 ·exact .inl h
 ·exact .inr ⟨B,O,e,by omega,fun i x hx j v hv=>by rw[hc _ hb];exact h i x hx j v hv⟩
theorem Rows.gr{w w':World}{a:Option Addr}{k:Nat}{l:List (Array Value)}(h:Rows w a k l)(g:Gr w w'):Rows w' a k l:=h.later g.le fun _ hp=>g.cell hp
theorem a0I(P:Program){W:World}{b:Nat}{l:List Value}(h:Holds id W b 0 l.toArray){k:Nat}(hk:l.length=k):Sem.run P (loadCellsFrom ⟨b,0,none⟩ 0 k #[]) W= .ok l.toArray W:=
 run_loadCellsFrom_list P _ _ _ k hk fun j v hv=>by
  have hj:=(List.getElem?_eq_some_iff.1 hv).1
  have:=(h j (by simpa using hj)).1
  rw[Nat.zero_add,getElem!_pos _ j (by simpa using hj)]at this
  rw[Addr.add_lit,Nat.zero_add,this,←hv,List.getElem?_eq_getElem hj]
  rfl
theorem a0P(P:Program){W:World}{b:Nat}{l:List Value}(h:Holds id W b 0 l.toArray)(m:List Value)(hk:m.length=l.length)(h1: ∀v∈m,v.oneCell'=true):Sem.run P (storeCells ⟨b,0,none⟩ m 0) W= .ok () (W.setCells b 0 m):=by
 have:=stores_of_holds P h 0 m (by simp[hk]) h1
 simpa using this
theorem a0B{W:World}{b:Nat}{l:List Value}(h:Holds id W b 0 l.toArray){j:Nat}{v:Value}(hv:l[j]? =some v):W.cell? ⟨b,j,none⟩=some v:=by
 have hj:=(List.getElem?_eq_some_iff.1 hv).1
 have:=(h j (by simpa using hj)).1
 rw[Nat.zero_add,getElem!_pos _ j (by simpa using hj)]at this
 rw[this,←hv,List.getElem?_eq_getElem hj]
 rfl
theorem a0q(w:World)(l:List Value)(t:TypeId):Holds id (w.alloc (.cells l.toArray t)) w.heap.size 0 l.toArray:=fun j hj=>by
 have e:(w.alloc (.cells l.toArray t)).heap[w.heap.size]? =some (.cells l.toArray t):=by
  show(w.heap.push _)[w.heap.size]? =_
  simp
 rw[Nat.zero_add]
 constructor
 ·unfold World.cell?
  rw[e]
  simp only[id]
  rw[getElem!_pos l.toArray j hj]
  simp
 ·unfold World.frozen?
  rw[e]
  simp
theorem a0l{B b:Nat}(hb:B≤b){w:World}: ∀(vs:List Value) (o:Nat) {W:World},Below B w W→Below B w (W.setCells b o vs)
 | [],_,_,h=>h
 |v::vs,o,W,h=>by
  rw[World.setCells]
  exact a0l hb vs (o+1) (h.setCell (p:=⟨b,o,none⟩) hb v)
theorem a0A{W:World}{b:Nat}{l:List Value}{t:TypeId}(h:W.heap[b]? =some (.cells l.toArray t)):Holds id W b 0 l.toArray:=fun j hj=>by
 rw[Nat.zero_add]
 constructor
 ·unfold World.cell?
  rw[h]
  simp only[id]
  rw[getElem!_pos l.toArray j hj]
  simp
 ·unfold World.frozen?
  rw[h]
  simp
theorem a0L{W:World}{b:Nat}{o:Obj}(h:W.heap[b]? =some o):b<W.heap.size:=(Array.getElem?_eq_some_iff.1 h).1
theorem a0i{w W:World}(h:Gr w W):w.grownBy W none:=by
 obtain⟨n,os,rfl⟩:=h
 refine⟨rfl,rfl,rfl,by simp[grow,World.drewN],fun k hk _=> ?_⟩
 show(w.heap++os)[k]? =_
 rw[Array.getElem?_append_left hk]
theorem b3z{t tx ty e e':TypeId}(ht:P.underlying t=some (.slice e))(htx:P.underlying tx=some (.slice e'))(b:Option Addr)(l k:Nat)(a:Option Addr)(m c:Nat){i:TypeInfo}(hi:P.info? e=some i)(w:World):
  (Builtin.append_ #[t,tx] ty #[.slice b l k,.slice a m c]).run P w=(Builtin.append_ #[t,t] ty #[.slice b l k,.slice a m c]).run P w:=by
 unfold Builtin.append_
 simp[run_underlying ht,run_underlying htx,sizeOf,typeInfo,hi]
theorem b4A{t ty e:TypeId}{i:TypeInfo}(ht:P.underlying t=some (.slice e))(hi:P.info? e=some i){base n:Nat}{v:Value}{xs:List Value}{w:World}(ho:w.ownsRow base e i.size v n xs)(c:Nat):
  (Builtin.append_ #[t,t] ty #[v,.slice none 0 c]).run P w= .ok v w:=by
 rcases ho.2 with⟨rfl,rfl⟩|⟨g,cap,cur,rfl,_,_,hc,_⟩
 ·simp[Builtin.append_,run_underlying ht,sizeOf,typeInfo,hi,Builtin.lenOf,Builtin.firstCells]
 ·simp[Builtin.append_,run_underlying ht,sizeOf,typeInfo,hi,Builtin.lenOf,Builtin.firstCells,hc,storeCells]
theorem a2J{t tx ty e:TypeId}{i:TypeInfo}{z:Value}(ht:P.underlying t=some (.slice e))(htx:P.underlying tx=some (.slice e))(hi:P.info? e=some i)(hz:i.zero=some z)(hzs:z.cells.size=i.size)(hsz:0<i.size)
  {base n:Nat} {v:Value} {xs:List Value} {w:World} (ho:w.ownsRow base e i.size v n xs) (a:Option Addr) (m c:Nat) (news:List Value) (hl:news.length=m*i.size) (ha:a=none→m=0) (hnews: ∀ad,a=some ad→ ∀j u,news[j]? =some u→w.cell? (ad.add j)=some u) (h1: ∀u∈news,u.oneCell'=true)
  (h63:n+m≤maxLen) (hbytes:(n+m)*i.bytes≤140737488355328) (hbase:base≤w.heap.size):
  ∃v' w',(Builtin.append_ #[t,tx] ty #[v,.slice a m c]).run P w= .ok v' w'∧w'.ownsRow base e i.size v' (n+m) (xs++news)∧w.grownBy w' v.ownBlock:=by
 obtain⟨b,l,k,hv⟩: ∃b l k,v= .slice b l k:=by
  rcases ho.2 with⟨rfl,_⟩|⟨g,cap,cur,rfl,_⟩
  ·exact⟨_,_,_,rfl⟩
  ·exact⟨_,_,_,rfl⟩
 have e0:(Builtin.append_ #[t,tx] ty #[v,.slice a m c]).run P w=(Builtin.append_ #[t,t] ty #[v,.slice a m c]).run P w:=by
  rw[hv]
  exact b3z ht htx b l k a m c hi w
 rw[e0]
 clear e0 hv
 cases a with
 |none=>
  obtain rfl:=ha rfl
  have:news= []:=List.eq_nil_of_length_eq_zero (by simpa using hl)
  subst this
  refine⟨v,w,b4A ht hi ho c,by simpa using ho,⟨rfl,rfl,rfl,Nat.le_refl _,fun _ _ _=>rfl⟩⟩
 |some ad=>
  obtain⟨v',w',h1,h2,h3,_⟩:=run_append_own (P:=P) w base t ty e i z i.size i.bytes ht hi hz rfl rfl hzs hsz v n xs ho ad m c news hl (hnews ad rfl) h1 h63 hbytes hbase
  exact⟨v',w',h1,h2,h3⟩
theorem a0E{ops:Array Oper}{rest:List Oper}{o:Oper}{a:Act}{w:World}{Q:Exit→Act→World→Prop}(hgd:o.guard=none)(s x:Operand)(ats:Array TypeId)
  (ho:o.op= .call {callee:=.builtin .append,args:= #[s,x],argTypes:=ats}) (v xv:Value) (hs:a.eval s=v) (hx:a.eval x=xv) (v':Value) (w':World) (hr:(Builtin.append_ ats o.type #[v,xv]).run P w= .ok v' w')
  (h:wpList P ops Q rest (a.put o.dst v') w'):wpList P ops Q (o::rest) a w:=
 wpList_plain hgd fun _ hK=>by
  unfold Oper.wp execOp
  simp only[ho,resolve,invoke,builtin,Sem.run_bind,Sem.run_pure,Result.andThen_ok,List.map_toArray,List.map_cons,List.map_nil,hs,hx,hr]
  exact hK _ _ h
theorem b1L(b:Nat)(t:TypeId): ∀(vs:List Value) (o:Nat) {W:World} {F:Array Value},W.heap[b]? =some (.cells F t)→(W.setCells b o vs).heap[b]? =some (.cells (setMany F o vs) t)
 | [],_,_,_,h=>h
 |v::vs,o,W,F,h=>by
  rw[World.setCells,setMany]
  refine b1L b t vs (o+1) ?_
  simp only[World.setCell,Array.getElem?_modify,h]
  simp
theorem a9z{l m:List Value}(hk:m.length=l.length):setMany l.toArray 0 m=m.toArray:=by
 refine ext_get! (by simp[hk]) fun t ht=> ?_
 rw[get_setMany _ _ _ t (by simpa using ht),if_pos ⟨Nat.zero_le _,by simp[hk];simpa using ht⟩]
 simp
theorem a0Y{W:World}{b:Nat}{l:List Value}{t:TypeId}(h:W.heap[b]? =some (.cells l.toArray t))(m:List Value)(hk:m.length=l.length):(W.setCells b 0 m).heap[b]? =some (.cells m.toArray t):=by
 have:=b1L b t m 0 h
 rwa [a9z hk]at this
theorem a0R{b c:Nat}(hn:b≠c): ∀(vs:List Value) (o:Nat) {W:World},(W.setCells c o vs).heap[b]? =W.heap[b]?
 | [],_,_=>rfl
 |v::vs,o,W=>by
  rw[World.setCells,a0R hn vs (o+1)]
  exact Below.heap_setCell _ _ _ _ hn
theorem a0T(W:World)(o:Obj):(W.alloc o).heap[W.heap.size]? =some o:=by
 show(W.heap.push _)[W.heap.size]? =_
 simp
theorem a4N{W:World}{b:Nat}{o:Obj}(h:W.heap[b]? =some o)(o':Obj):(W.alloc o').heap[b]? =some o:=by
 rw[←h]
 exact Below.heap_alloc _ _ _ (a0L h)
theorem a0M{W W':World}{b:Nat}{o:Obj}(h:W.heap[b]? =some o)(g:Gr W W'):W'.heap[b]? =some o:=by
 rw[(a0i g).block b (a0L h) (by simp)]
 exact h
theorem a0N{w W W':World}{N:Nat}(h:Below N w W)(hN:N≤W.heap.size)(g:Gr W W'):Below N w W':=h.grown (a0i g) hN fun k hk=>by cases hk
theorem Rows.ld(P:Program){w:World}{a:Addr}{k:Nat}{l:List (Array Value)}(h:Rows w (some a) k l){i:Nat}{x:Array Value}(hx:l[i]? =some x)(hk:x.size=k):Sem.run P (loadCellsFrom (a.add (i*k)) 0 k #[]) w= .ok x w:=by
 rcases h with h|⟨B,O,e,hb,h⟩
 ·rw[h]at hx
  simp at hx
 ·injection e with e
  subst e
  have:=run_loadCellsFrom_list P w (Addr.add ⟨B,O,none⟩ (i*k)) x.toList k (by simpa using hk) fun j v hv=>by
   rw[Addr.add_lit,Addr.add_lit]
   exact h i x hx j v (by simpa using hv)
  simpa using this
theorem a0W(w:World)(A B:List Value)(t u:TypeId):Gr w ((w.alloc (.cells A.toArray t)).alloc (.cells B.toArray u))∧((w.alloc (.cells A.toArray t)).alloc (.cells B.toArray u)).heap[w.heap.size]? =some (.cells A.toArray t)∧((w.alloc (.cells A.toArray t)).alloc (.cells B.toArray u)).heap[w.heap.size+1]? =some (.cells B.toArray u):=by
 refine⟨(Gr.refl _).alloc _|>.alloc _,a4N (a0T _ _) _, ?_⟩
 have:=a0T (w.alloc (.cells A.toArray t)) (.cells B.toArray u)
 simpa using this
def a0Z(n:Nat):Code→Option Code
 |.seq a b=>match a with
  |.region m _ _=>if m=n then some (.seq a b)else a0Z n b
  |_=>match a0Z n a with
   |some c=>some c
   |none=>a0Z n b
 |.loop c=>a0Z n c
 |.block _ c=>a0Z n c
 |.scope c=>a0Z n c
 |.cond _ a b=>match a0Z n a with
  |some c=>some c
  |none=>a0Z n b
 |_=>none
theorem a3a{P:Program}{ops:Array Oper}{o:Oper}{a:Act}{w:World}{K:Act→World→Prop}{Q:Exit→Act→World→Prop}(s x:Operand)(ats:Array TypeId)
  (ho:o.op= .call {callee:=.builtin .append,args:= #[s,x],argTypes:=ats}) (hgd:o.guard=none) (v xv:Value) (hs:a.eval s=v) (hx:a.eval x=xv) (v':Value) (w':World) (hr:(Builtin.append_ ats o.type #[v,xv]).run P w= .ok v' w')
  (h:K (a.put o.dst v') w'):if Region.wanted o (yielded ops a.tmps)=true then Oper.wp P o a w K Q else K (a.put o.dst undef) w:=by
 rw[if_pos (by simp only[Region.wanted,hgd])]
 unfold Oper.wp execOp
 simp only[ho,resolve,invoke,builtin,Sem.run_bind,Sem.run_pure,Result.andThen_ok,List.map_toArray,List.map_cons,List.map_nil,hs,hx,hr]
 exact h
theorem Rows.below{w w':World}{a:Option Addr}{k:Nat}{l:List (Array Value)}(h:Rows w a k l)(b:Below w.heap.size w w'):Rows w' a k l:=h.later b.size fun _ hp=>b.cell hp
def a2D(f:Nat→List Value)(n:Nat):List Value:=(List.range n).flatMap f
theorem a7X(f:Nat→List Value)(n:Nat):a2D f (n+1)=a2D f n++f n:=by
 unfold a2D
 rw[List.range_succ,List.flatMap_append]
 simp
theorem a2O{f:Nat→List Value}{k:Nat}: ∀{n:Nat},(∀i,i<n→(f i).length=k)→(a2D f n).length=n*k
 |0,_=>by simp[a2D]
 |n+1,h=>by
  rw[a7X,List.length_append,a2O fun i hi=>h i (by omega),h n (by omega),Nat.add_mul,Nat.one_mul]
theorem fold_at: ∀(l:List Value) (o:Nat) (cs:Array Value),o+l.length≤cs.size→((l.zipIdx o).foldl (fun cs x=>cs.setIfInBounds x.snd x.fst) cs).size=cs.size∧ ∀j,((l.zipIdx o).foldl (fun cs x=>cs.setIfInBounds x.snd x.fst) cs)[j]? =if o≤j∧j<o+l.length then l[j-o]? else cs[j]?
 | [],o,cs,_=>⟨rfl,fun j=>by rw[if_neg (by simp only[List.length_nil];omega)];rfl⟩
 |x::l,o,cs,h=>by
  rw[List.zipIdx_cons,List.foldl_cons]
  simp only[List.length_cons]at h
  obtain⟨h1,h2⟩:=fold_at l (o+1) (cs.setIfInBounds o x) (by simp;omega)
  refine⟨by rw[h1];simp,fun j=> ?_⟩
  rw[h2]
  simp only[List.length_cons]
  by_cases hj:j=o
  ·subst hj
   rw[if_neg (by omega),if_pos (by omega)]
   simp only[Array.getElem?_setIfInBounds,Nat.sub_self,List.getElem?_cons_zero,if_true]
   rw[if_pos (by omega)]
  ·by_cases hk:o+1≤j∧j<o+1+l.length
   ·rw[if_pos hk,if_pos (by omega),show j-o=(j-(o+1))+1 by omega,List.getElem?_cons_succ]
   ·rw[if_neg hk,if_neg (by omega)]
    simp only[Array.getElem?_setIfInBounds]
    rw[if_neg (fun e=>hj e.symm)]
theorem a1h(y X:List Value){k:Nat}(hX:X.length=k):X.zipIdx.foldl (fun(cs:Array Value) (x:Value×Nat)=>cs.setIfInBounds x.snd x.fst) (Array.map (fun x=>y[x%k]?.getD default) (Array.range k))=X.toArray:=by
 obtain⟨h1,h2⟩:=fold_at X 0 (Array.map (fun x=>y[x%k]?.getD default) (Array.range k)) (by simp;omega)
 apply Array.ext_getElem?
 intro j
 rw[h2]
 split
 ·simp
 ·rw[Array.getElem?_eq_none (by simp;omega)]
  simp
  omega
theorem a1Y{P:Program}{t e k:Nat}(ht:P.underlying t=some (.slice e))(hi: ∃i z,P.info? e=some i∧i.zero=some z∧z.cells.size=k∧i.size=k∧i.bytes≤1000)(hk:0<k){W:World}{v:Value}{base n:Nat}(X:List Value)(r:List Value)(hr:r.length=k)(h1: ∀u∈r,u.oneCell'=true)(ho:W.ownsRow base e k v n X)(hb:base≤W.heap.size)(hl:n≤1000):
  ∃v' w',(Builtin.append_ #[t,t] t #[v,.slice (some ⟨W.heap.size,0,none⟩) 1 1]).run P (W.alloc (.cells r.toArray e))= .ok v' w'∧w'.ownsRow base e k v' (n+1) (X++r)∧(W.alloc (.cells r.toArray e)).grownBy w' v.ownBlock:=by
 obtain⟨i,z,i1,i2,i3,i4,i5⟩:=hi
 obtain⟨v',w',a1,a2,a3⟩:=a2J (P:=P) (ty:=t) (t:=t) (tx:=t) ht ht i1 i2 (by rw[i4];exact i3) (by rw[i4];exact hk) (by rw[i4];exact ho.alloc (.cells r.toArray e)) (some ⟨W.heap.size,0,none⟩) 1 1 r (by rw[i4,hr,Nat.one_mul]) (fun h=>by cases h)
  (fun ad had j u hu=>by
   injection had with had
   subst had
   rw[Addr.add_lit,Nat.zero_add]
   exact a0B (a0q W r e) hu) h1 (Nat.le_trans (show n+1≤1001 by omega) (by decide)) (Nat.le_trans (Nat.mul_le_mul (show n+1≤1001 by omega) i5) (by decide)) (by simp;omega)
 rw[i4]at a2
 exact⟨v',w',a1,a2,a3⟩
theorem a1X{W:World}{b:Nat}{l:List Value}{t:TypeId}(h:W.heap[b]? =some (.cells l.toArray t))(j:Nat)(v:Value):(W.setCell ⟨b,j,none⟩ v).heap[b]? =some (.cells (l.set j v).toArray t):=by
 simp only[World.setCell,Array.getElem?_modify,h]
 simp
theorem a0n{W:World}{b c:Nat}(hn:b≠c)(j:Nat)(v:Value):(W.setCell ⟨c,j,none⟩ v).heap[b]? =W.heap[b]? :=Below.heap_setCell _ _ _ _ hn
theorem a4r(b:Nat): ∀(vs:List Value) (o:Nat) (W:World),W.grownBy (W.setCells b o vs) (some b)
 | [],_,W=>World.grownBy.refl W _
 |v::vs,o,W=>by
  have:=a4r b vs (o+1) (W.setCell ⟨b,o,none⟩ v)
  exact⟨this.os,this.tape,this.output,by have h:=this.size;rw[World.size_setCell]at h;exact h,fun k hk hn=>by
   rw[World.setCells,this.block k (by simpa using hk) hn]
   exact Below.heap_setCell _ _ _ _ (fun e=>hn (by rw[e]))⟩
theorem a6M{W:World}{base e k n:Nat}{v:Value}{l:List Value}(h:W.ownsRow base e k v n l): ∃a c,v= .slice a n c:=by
 rcases h.2 with⟨rfl,h0⟩|⟨g,cap,cur,rfl,_⟩
 ·exact⟨none,0,by rw[h0]⟩
 ·exact⟨_,_,rfl⟩
theorem a2l{f:Nat→List Value}{k:Nat}: ∀{n:Nat},(∀i,i<n→(f i).length=k)→ ∀i j,i<n→j<k→(a2D f n)[i*k+j]? =(f i)[j]?
 |0,_,i,j,hi,_=>by omega
 |n+1,h,i,j,hi,hj=>by
  have hl:=a2O (f:=f) (k:=k) (n:=n) fun i hi=>h i (by omega)
  rw[a7X]
  rcases Nat.lt_or_ge i n with h'|h'
  ·have:i*k+j<n*k:=Nat.lt_of_lt_of_le (Nat.add_lt_add_left hj _) (by have:=Nat.mul_le_mul_right k h';rw[Nat.succ_mul]at this;exact this)
   rw[List.getElem?_append_left (by rw[hl];exact this)]
   exact a2l (fun i hi=>h i (by omega)) i j h' hj
  ·obtain rfl:i=n:=by omega
   rw[List.getElem?_append_right (by rw[hl];omega),hl]
   congr 1
   omega
theorem Rows.take{w:World}{a:Option Addr}{k:Nat}{l:List (Array Value)}(h:Rows w a k l)(n:Nat):Rows w a k (l.take n):=by
 rcases h with rfl|⟨B,O,e,hb,h⟩
 ·exact .inl (by simp)
 ·refine .inr ⟨B,O,e,hb,fun i x hx j v hv=>h i x ?_ j v hv⟩
  rw[List.getElem?_take]at hx
  split at hx
  ·exact hx
  ·cases hx
end
end Go.Proofs.Ytcblehiddfnafaa.canonSame
