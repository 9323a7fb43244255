/-
  pool.Decode.
-/
import Derived.Test.YtmmmknhdigapkaaTxO
import Derived.Test.YtmmmknhdigapkaaTxH
namespace Go.Proofs.Ytmmmknhdigapkaa.poolCut
open Go.Ev Go.RowKit Go.Proofs.Ytmmmknhdigapkaa.poolS
set_option linter.unusedVariables false
set_option maxRecDepth 100000
structure RdM(w:World)(B:Nat)(s:ByteArray)(a:Int)(f:Bool):Prop where
 sz:(s.size:Int)≤9223372036854775807
 pl: ∃c e fr,w.heap[B]? =some (.cells c e fr)∧3≤c.size∧c[0]? =some (.string s)∧c[1]? =some (.int .i64 a)∧c[2]? =some (.bool f)∧fr.2=0
theorem RdM.cellOK{w:World}{B:Nat}{s:ByteArray}{a:Int}{f:Bool}(h:RdM w B s a f){σ:List G}{infs:List (Option Inf)}{i:Nat}(h0:σ.getD i .d= .s s)(h1:σ.getD (i+1) .d= .i .i64 a)(h2:σ.getD (i+2) .d= .b f):c8S σ infs w [.d i,.d (i+1),.d (i+2)] none 0 none ⟨B,0,0⟩:=by
 obtain⟨c,e,fr,g1,g2,g3,g4,g5,g6⟩:=h.pl;refine⟨c,e,fr,g1,by simpa[a7R]using g2,fun _=>rfl,fun j sv hj=> ?_,by show fr.2≤0+0;omega,fun t ht=>by cases ht⟩
 match j,hj with
 |0,hj=>cases hj;exact⟨_,g3,by show _=(σ.getD i .d).val;rw[h0];rfl⟩
 |1,hj=>cases hj;exact⟨_,g4,by show _=(σ.getD (i+1) .d).val;rw[h1];rfl⟩
 |2,hj=>cases hj;exact⟨_,g5,by show _=(σ.getD (i+2) .d).val;rw[h2];rfl⟩
 |j+3,hj=>cases hj
theorem RdM.of{w:World}{B:Nat}{s:ByteArray}{a:Int}{f:Bool}{σ:List G}{infs:List (Option Inf)}{i:Nat}(h:c8S σ infs w [.d i,.d (i+1),.d (i+2)] none 0 none ⟨B,0,0⟩)(hs:(s.size:Int)≤9223372036854775807)(h0:σ.getD i .d= .s s)(h1:σ.getD (i+1) .d= .i .i64 a)(h2:σ.getD (i+2) .d= .b f):RdM w B s a f:=by obtain⟨c,e,fr,g1,g2,_,g3,g4,_⟩:=h;obtain⟨y0,k0,r0⟩:=g3 0 _ rfl;obtain⟨y1,k1,r1⟩:=g3 1 _ rfl;obtain⟨y2,k2,r2⟩:=g3 2 _ rfl;have r0:y0=(σ.getD i .d).val:=r0;have r1:y1=(σ.getD (i+1) .d).val:=r1;have r2:y2=(σ.getD (i+2) .d).val:=r2;rw[h0]at r0;rw[h1]at r1;rw[h2]at r2;subst r0 r1 r2;have g4:fr.2≤0+0:=g4;exact⟨hs,c,e,fr,g1,by simpa[a7R]using g2,k0,k1,k2,by omega⟩
theorem b6l(w:World)(s:ByteArray)(B C:Nat)(L:List Nat)(hL: ∀b∈L,b<w.heap.size)(hB:B<w.heap.size)(hC:C<w.heap.size)(hne:B≠C)(hr:RdM w C s 0 false)(hb:w.heap[B]? =some (.cells #[.pointer (some ⟨C,0,none⟩)] 64 (0,0))):
  Calls Try.prog 29 #[.pointer (some ⟨B,0,none⟩),.int .i64 40,.func (.func 30) #[.pointer (some ⟨B,0,none⟩)] #[]] w fun e w'=>AncO [⟨B,0,0⟩,⟨C,0,0⟩] w w'∧
   ((∃v es r a',e= .returned v∧pL 40 pCd (rest s 0)=some ([.l (.bool false) (erLL es)],r)∧At s a' r∧TyL [.l a1T] [.l v es]∧GML (a0W w' (L++ [B,C])) [.l v es]∧RdM w' C s a' false∧w'.cell? ⟨B,0,none⟩=some (.pointer (some ⟨C,0,none⟩)))∨(pL 40 pCd (rest s 0)=none∧e= .panicked (a7N a0X))):=by
 refine(d4c.ok w (st3 s 0 false++ [.i .i64 40]) [⟨B,0,0⟩,⟨C,0,0⟩] L [.pointer (some ⟨B,0,none⟩),.int .i64 40,.func (.func 30) #[.pointer (some ⟨B,0,none⟩)] #[]] hL ⟨rfl,fun q b hq=> ?_,fun i j o o' hi hj he=> ?_,fun o ho=> ?_⟩ ?_ ?_ ?_ ⟨s,0,rfl,by omega,by omega⟩).mono ?_
 ·match q,hq with
  |0,hq=>
   cases hq;refine⟨⟨B,0,0⟩,rfl,_,_,_,hb,by simp[a7R],fun _=>rfl,fun j sv hj=> ?_,by simp,fun t ht=>by cases ht⟩
   match j,hj with
   |0,hj=>cases hj;exact⟨_,rfl,⟨C,0,0⟩,rfl,rfl⟩
   |j+1,hj=>cases hj
  |1,hq=>cases hq;exact⟨⟨C,0,0⟩,rfl,hr.cellOK rfl rfl rfl⟩
  |q+2,hq=>cases hq
 ·match i,j,hi,hj with
  |0,0,_,_=>rfl
  |0,1,hi,hj=>cases hi;cases hj;exact absurd he hne
  |1,0,hi,hj=>cases hi;cases hj;exact absurd he.symm hne
  |1,1,_,_=>rfl
  |i+2,_,hi,_=>cases hi
  |_,j+2,_,hj=>cases hj
 ·simp only[List.mem_cons,List.not_mem_nil,or_false]at ho;rcases ho with rfl|rfl
  ·exact hB
  ·exact hC
 ·exact⟨hr.sz,⟨rfl,by decide,by decide⟩,trivial,⟨rfl,by decide,by decide⟩,trivial⟩
 ·exact⟨by simp only[GM],by simp only[GM],by simp only[GM],by simp only[GM],trivial⟩
 ·exact⟨⟨⟨B,0,0⟩,rfl,rfl⟩,rfl,⟨⟨B,0,0⟩,rfl,rfl⟩,trivial⟩
 ·rintro e w' ⟨an,h⟩;refine⟨an, ?_⟩;rcases h with⟨us,⟨s1,a1,x,y,r,a',e1,rfl,e2,e3,e4,e5⟩,rfl,ht,hm,hO⟩|⟨⟨s1,a1,e1,e2⟩,rfl⟩
  ·obtain⟨rfl,rfl⟩:=a6a (s:=s) (a:=0) (by simpa[st3]using e1);obtain⟨g,l,rfl,t,h5⟩:=tyC (show TyL [.l a1T] x from e4);obtain⟨v,es,rfl,h6,h7⟩:=b3l t;obtain rfl:=tyN h5;subst e3;refine .inl ⟨v,es,r,a',rfl,e2,e5,e4,⟨GML.at (j:=0) hm rfl,trivial⟩, ?_, ?_⟩
   ·obtain⟨inf,hi,hc⟩:=hO.ok 1 _ rfl;cases hi;exact RdM.of hc hr.sz rfl rfl rfl
   ·obtain⟨inf,hi,c',e',fr,h1,h2,h3,h4,h5⟩:=hO.ok 0 _ rfl;cases hi;obtain⟨y,hy,inf2,hi2,rfl⟩:=h4 0 _ rfl;cases hi2;unfold World.cell?;simp only[h1];exact hy
  ·obtain⟨rfl,rfl⟩:=a6a (s:=s) (a:=0) (by simpa[st3]using e1);exact .inr ⟨e2,rfl⟩
end Go.Proofs.Ytmmmknhdigapkaa.poolCut
namespace Go.Proofs.Ytmmmknhdigapkaa.poolCut
open Go.Ev Go.RowKit Go.Proofs.Ytmmmknhdigapkaa.poolS Go.Proofs.Ytmmmknhdigapkaa.plq
set_option linter.unusedVariables false
noncomputable section
theorem b1S{p:Pr}: ∀{n:Nat} {l r:List Int} {xs:List (List G)},a7F p n l=some (xs,r)→xs.length=n∧ ∀x∈xs,∃l r,p l=some (x,r)
 |0,l,r,xs,h=>by cases h;exact⟨rfl,fun x hx=>by cases hx⟩
 |n+1,l,r,xs,h=>by
  simp only[a7F]at h;obtain⟨z,h1,h2⟩:=Option.bind_eq_some_iff.1 h;obtain⟨y,h3,h4⟩:=Option.bind_eq_some_iff.1 h2;cases h4;obtain⟨g1,g2⟩:=b1S h3;refine⟨by rw[List.length_cons,g1],fun x hx=> ?_⟩;rcases List.mem_cons.1 hx with rfl|hx
  ·exact⟨_,_,h1⟩
  ·exact g2 x hx
theorem a3j{l:List Int}{z:List G×List Int}(h:pN l=some z): ∃n,z.1= [.i .i64 n]:=by
 unfold pN at h;split at h
 ·rename_i n r hu;split at h
  ·cases h;exact⟨n,rfl⟩
  ·cases h
 ·cases h
theorem d1L{l:List Int}{z:List G×List Int}(h:pI l=some z): ∃n,z.1= [.i .i64 n]:=by
 unfold pI at h;split at h
 ·rename_i n r hu;cases h;exact⟨_,rfl⟩
 ·cases h
theorem d6h{l:List Int}{z:List G×List Int}(h:pT l=some z): ∃x,z.1= [.s x]:=by
 unfold pT at h;split at h
 ·rename_i n r hu;split at h
  ·cases h;exact⟨_,rfl⟩
  ·cases h
 ·cases h
theorem c6B{l:List Int}{z:List G×List Int}(h:pM l=some z): ∃a b c d,z.1= [.i .i64 a,.i .i64 b,.i .i64 c,.i .i64 d]:=by
 unfold pM at h;obtain⟨⟨ys,r⟩,h1,rfl⟩:=Option.map_eq_some_iff.1 h;clear h;have h:=h1;obtain⟨hl,hy⟩:=b1S h
 match ys,hl with
 | [a,b,c,d],_=>obtain⟨_,_,ha⟩:=hy a (by simp);obtain⟨_,_,hb⟩:=hy b (by simp);obtain⟨_,_,hc⟩:=hy c (by simp);obtain⟨_,_,hd⟩:=hy d (by simp);obtain⟨a',rfl⟩:=a3j ha;obtain⟨b',rfl⟩:=a3j hb;obtain⟨c',rfl⟩:=a3j hc;obtain⟨d',rfl⟩:=a3j hd;exact⟨a',b',c',d',rfl⟩
theorem a9H{q:Pr}{most:Int}{l r:List Int}{y:List G}(h:pL most q l=some (y,r)): ∃n r0 es,pN l=some ([.i .i64 n],r0)∧n≤most∧es.length=n.toNat∧a7F q n.toNat r0=some (es,r)∧y= [.l (.bool false) es]:=by
 unfold pL at h;obtain⟨z,h1,h2⟩:=Option.bind_eq_some_iff.1 h;obtain⟨n,e1⟩:=a3j h1;obtain⟨z1,z2⟩:=z;dsimp only at e1;subst e1;simp only[List.getD_cons_zero,a0D]at h2;split at h2
 ·rename_i hle;obtain⟨y',h3,h4⟩:=Option.bind_eq_some_iff.1 h2;cases h4;exact⟨n,z2,_,h1,hle,(b1S h3).1,h3,rfl⟩
 ·cases h2
theorem c1v{p:Pr}{n:Nat}{l r:List Int}{xs:List (List G)}(h:a7F p n l=some (xs,r)){x:List G}(hx:x∈xs): ∃l r,p l=some (x,r):=(b1S h).2 x hx
theorem a4n{x:List G}(i:Nat):(erL x).getD i .d=er (x.getD i .d):=by
 induction x generalizing i with
 |nil=>rfl
 |cons g x ih=>
  cases i with
  |zero=>rfl
  |succ i=>exact ih i
theorem c4N(g:G):(er g).es=erLL g.es:=by cases g<;>rfl
theorem a0k(es:List (List G)):erLL es=es.map erL:=by
 induction es with
 |nil=>rfl
 |cons x es ih=>rw[List.map_cons,←ih];rfl
theorem c6E{l r:List Int}{y:List G}(h:pAb l=some (y,r)):(y.getD 8 .d).es.length≤2∧(y.getD 9 .d).es.length≤32:=by
 unfold pAb at h;obtain⟨k,h1,h⟩:=Option.bind_eq_some_iff.1 h;obtain⟨e,h2,h⟩:=Option.bind_eq_some_iff.1 h;obtain⟨w,h3,h⟩:=Option.bind_eq_some_iff.1 h;obtain⟨m,h4,h⟩:=Option.bind_eq_some_iff.1 h;obtain⟨t,h5,h⟩:=Option.bind_eq_some_iff.1 h;split at h
 ·obtain⟨g,h6,h⟩:=Option.bind_eq_some_iff.1 h;obtain⟨c,h7,h⟩:=Option.bind_eq_some_iff.1 h;obtain⟨o,h8,h⟩:=Option.bind_eq_some_iff.1 h;obtain⟨a,h9,h⟩:=Option.bind_eq_some_iff.1 h;obtain⟨b,h10,h⟩:=Option.bind_eq_some_iff.1 h;obtain⟨g1,g2⟩:=g;obtain⟨c1,c2⟩:=c;obtain⟨n6,r6,es6,_,a6,b6,_,e6⟩:=a9H h6;obtain⟨n7,r7,es7,_,a7,b7,_,e7⟩:=a9H h7;obtain⟨k1,hk⟩:=a3j h1;obtain⟨e1,he⟩:=a3j h2;obtain⟨w1,hw⟩:=a3j h3;obtain⟨m1,m2,m3,m4,hm⟩:=c6B h4;obtain⟨o1,ho⟩:=a3j h8;obtain⟨x1,hx⟩:=d1L h9;obtain⟨y1,hy⟩:=d1L h10;subst e6 e7;cases h;rw[hk,he,hw,hm,ho,hx,hy];show es6.length≤2∧es7.length≤32;omega
 ·cases h
theorem c6D{l r:List Int}{y:List G}(h:pCd l=some (y,r)):(y.getD 10 .d).es.length≤4∧ ∀a∈(y.getD 10 .d).es,∃l r,pAb l=some (a,r):=by unfold pCd at h;obtain⟨n,h1,h⟩:=Option.bind_eq_some_iff.1 h;obtain⟨k,h2,h⟩:=Option.bind_eq_some_iff.1 h;obtain⟨m,h3,h⟩:=Option.bind_eq_some_iff.1 h;obtain⟨c,h4,h⟩:=Option.bind_eq_some_iff.1 h;obtain⟨p,h5,h⟩:=Option.bind_eq_some_iff.1 h;obtain⟨t,h6,h⟩:=Option.bind_eq_some_iff.1 h;obtain⟨y',h7,h⟩:=Option.bind_eq_some_iff.1 h;obtain⟨a,h8,h⟩:=Option.bind_eq_some_iff.1 h;obtain⟨a1,a2⟩:=a;obtain⟨n6,r6,es6,_,a6,b6,c6,e6⟩:=a9H h8;subst e6;obtain⟨x,hx⟩:=d6h h1;obtain⟨k1,hk⟩:=a3j h2;obtain⟨m1,m2,m3,m4,hm⟩:=c6B h3;obtain⟨c1,hc⟩:=a3j h4;obtain⟨p1,hp⟩:=a3j h5;obtain⟨t1,ht⟩:=a3j h6;obtain⟨y1,hy⟩:=a3j h7;cases h;rw[hx,hk,hm,hc,hp,ht,hy];show es6.length≤4∧_;exact⟨by omega,fun a ha=>c1v c6 ha⟩
theorem c3m{l r:List Int}{es:List (List G)}(h:pL 40 pCd l=some ([.l (.bool false) (erLL es)],r)):a9t es:=by
 obtain⟨n,r0,es',_,h1,h2,h3,h4⟩:=a9H h;have h4:erLL es=es':=by simpa using h4
 subst h4;rw[a0k,List.length_map]at h2;refine⟨by omega,fun x hx=> ?_⟩;have hx':erL x∈erLL es:=by rw[a0k];exact List.mem_map_of_mem hx
 obtain⟨l,r,hp⟩:=c1v h3 hx';obtain⟨g1,g2⟩:=c6D hp;rw[a4n,c4N,a0k]at g1 g2;rw[List.length_map]at g1;refine⟨by omega,fun a ha=> ?_⟩;obtain⟨l,r,hq⟩:=g2 _ (List.mem_map_of_mem ha);obtain⟨k1,k2⟩:=c6E hq;rw[a4n,c4N,a0k,List.length_map]at k1 k2;exact⟨by omega,by omega⟩
theorem c9v{w w':World}{M M':List Nat}{x:List G}(hM: ∀b∈M,b<w.heap.size)(hs:w.heap.size≤w'.heap.size)(same: ∀k,k<w.heap.size→k∉M→w'.heap[k]? =w.heap[k]?)(hl: ∀b∈M',b∈M∨w.heap.size≤b)(h:GML (a0W w M) x):GML (a0W w' M') x:=
 GML.sub (a4W (S:=fun b=>b∈M) hM (fun b=>Iff.rfl) hs same hl) h
theorem b2R{w:World}{M:List Nat}(hM: ∀b∈M,b<w.heap.size):Sub (a0W w M) w:=by refine⟨by rw[a1m];exact Nat.le_refl _,fun a v h=>(a4L hM h).2⟩
theorem e0W{es:List (List G)}{ts:List Ty}(ht:TyLL ts es){j:Nat}(hj:j<es.length*ts.length): ∃x g,es[j/ts.length]? =some x∧x[j%ts.length]? =some g∧(∃t,TyOK t g):=by
 have hp:0<ts.length:=by
  rcases Nat.eq_zero_or_pos ts.length with h|h
  ·rw[h]at hj;omega
  ·exact h
 have h1:j/ts.length<es.length:=by rw[Nat.div_lt_iff_lt_mul hp];exact hj
 have h2:=List.getElem?_eq_getElem h1;have tx:=TyLL.at ht h2;have h3:j%ts.length<ts.length:=Nat.mod_lt _ hp;obtain⟨g,hg,tg⟩:=TyL.at tx (List.getElem?_eq_getElem h3);exact⟨_,g,h2,hg,_,tg⟩
theorem getD_of{α:Type}{l:List α}{i:Nat}{x d:α}(h:l[i]? =some x):l.getD i d=x:=by rw[List.getD_eq_getElem?_getD,h,Option.getD_some]
def c4X(n:Nat)(es:List (List G))(j:Nat):Value:=((es.getD (j/n) []).getD (j%n) .d).val
theorem GME.cells{w:World}{B O:Nat}{es:List (List G)}{ts:List Ty}(h:GME w B O es)(ht:TyLL ts es){j:Nat}(hj:j<es.length*ts.length):w.cell? ⟨B,O+j,none⟩=some (c4X ts.length es j):=by obtain⟨x,g,h1,h2,_⟩:=e0W ht hj;have:=(GMC.cell (GME.at h ht h1) h2).1;rw[Nat.add_assoc,Nat.mul_comm,Nat.div_add_mod]at this;rw[this];unfold c4X;rw[getD_of h1,getD_of h2]
theorem GME.copy{w w':World}{B O B':Nat}{es:List (List G)}{ts:List Ty}(h:GME w B O es)(ht:TyLL ts es)(hs:Sub w w')(hc: ∀j,j<es.length*ts.length→w'.cell? ⟨B',j,none⟩=some (c4X ts.length es j)):GME w' B' 0 es:=by
 refine GME.all (n:=ts.length) (fun x hx=> ?_) fun i x hx=>GMC.all fun j g hg=> ?_
 ·obtain⟨i,hi,rfl⟩:=List.getElem_of_mem hx;exact(TyLL.at ht (List.getElem?_eq_getElem hi)).len
 ·have hi:i<es.length:=by
   rcases Nat.lt_or_ge i es.length with h|h
   ·exact h
   ·rw[List.getElem?_eq_none h]at hx;cases hx
  have hj:j<ts.length:=by
   rw[←(TyLL.at ht hx).len];rcases Nat.lt_or_ge j x.length with h|h
   ·exact h
   ·rw[List.getElem?_eq_none h]at hg;cases hg
  have hb:i*ts.length+j<es.length*ts.length:=by have:=Nat.mul_le_mul_right ts.length (show i+1≤es.length by omega);rw[Nat.add_mul]at this;omega
  refine⟨?_,(GMC.cell (GME.at h ht hx) hg).2.sub hs⟩;rw[show 0+i*ts.length+j=i*ts.length+j by omega,hc _ hb];unfold c4X
  have e1:(i*ts.length+j)/ts.length=i:=by rw[Nat.mul_comm,Nat.mul_add_div (by omega),Nat.div_eq_of_lt hj,Nat.add_zero]
  have e2:(i*ts.length+j)%ts.length=j:=by rw[Nat.mul_comm,Nat.mul_add_mod,Nat.mod_eq_of_lt hj]
  rw[e1,e2,getD_of hx,getD_of hg]
theorem c1G(w:World)(v:Value)(es:List (List G))(M:List Nat)(hM: ∀b∈M,b<w.heap.size)(h40:es.length≤40)(ht:TyL [.l a1T] [.l v es])(hm:GML (a0W w M) [.l v es]):
  Calls Try.prog 33 #[v] w fun e w'=> ∃u,e= .returned u∧TyL [.l a1T] [.l u es]∧GML (a0W w' M) [.l u es]∧Below w.heap.size w w':=by
 obtain⟨⟨t1,t2,_⟩,_⟩:=(show(TyLL a1T es∧_∧_)∧True by simpa only[TyL,TyOK]using ht);have hg:=GML.at (j:=0) hm rfl;simp only[GM]at hg;obtain⟨a,c,rfl,hg⟩:=hg
 have ty: ∀a c,es.length≤c→TyL [.l a1T] [.l (.slice a es.length c) es]:=fun a c h=>by simp only[TyL,TyOK,and_true];exact⟨t1,t2,a,c,rfl,h⟩
 have emp: ∀(w':World) (es':List (List G)) a,es'= []→GML w' [.l (.slice a es'.length 0) es']:=fun w' es' a h=>by refine⟨?_,trivial⟩;simp only[GM];exact⟨a,0,rfl,.inl ⟨h,.inr rfl⟩⟩
 cases a with
 |none=>
  have he:es= []:=by
   rcases hg with⟨h,_⟩|⟨B,O,h,_⟩
   ·exact h
   ·cases h
  subst he;refine(c7q w 0 c).mono ?_;rintro e w' ⟨rfl,rfl⟩;exact⟨_,rfl,ty none 0 (Nat.le_refl _),emp _ [] _ rfl,.refl _ _⟩
 |some a=>
  rcases Nat.eq_zero_or_pos es.length with h0|h0
  ·have he:es= []:=List.eq_nil_of_length_eq_zero h0;subst he;refine(c4T w c a).mono ?_;rintro e w' ⟨B,rfl,hb⟩;exact⟨_,rfl,ty (some ⟨B,0,none⟩) 0 (Nat.le_refl _),emp _ [] _ rfl,hb⟩
  ·have hne:es≠[]:=by
    intro h;rw[h]at h0;cases h0
   rcases hg with⟨h,_⟩|⟨B,O,ha,h|⟨hB,hE⟩⟩
   ·exact absurd h hne
   ·exact absurd h hne
   cases ha
   have hc: ∀j,j<es.length*11→w.cell? ((⟨B,O,none⟩:Addr).add j)=some (c4X 11 es j):=fun j hj=>by
    rw[show(⟨B,O,none⟩:Addr).add j=⟨B,O+j,none⟩by
     unfold Addr.add;split
     ·rename_i h;rw[h];rfl
     ·rfl]
    exact(b2R hM).2 ⟨B,O+j,none⟩ _ (GME.cells hE t1 hj)
   have hB':B<w.heap.size:=by rw[a1m]at hB;exact hB
   refine(c4U w es.length c ⟨B,O,none⟩ h0 h40 (c4X 11 es) hc hB').mono ?_;rintro e w' ⟨B2,cap,arr,rfl,hB2,hh,harr,hcap,hb⟩;refine⟨_,rfl,ty _ _ hcap,⟨?_,trivial⟩,hb⟩
   have hb2:B2<w'.heap.size:=by
    rcases Nat.lt_or_ge B2 w'.heap.size with h|h
    ·exact h
    ·rw[Array.getElem?_eq_none h]at hh;cases hh
   simp only[GM];refine⟨_,_,rfl,.inr ⟨B2,0,rfl,.inr ⟨by rw[a1m];exact hb2, ?_⟩⟩⟩;refine GME.copy hE t1 (a4W (S:=fun b=>b∈M) hM (fun b=>Iff.rfl) hb.size (fun k hk _=>hb.block k hk) fun b h=>.inl h) fun j hj=> ?_;refine a9a ?_ fun hm=>by have:=hM _ hm;dsimp only at this;omega
   unfold World.cell?;simp only[hh];exact harr j hj
theorem a4q(w:World)(v:Value)(es:List (List G))(ht:TyL [.l a1T] [.l v es])(hm:GML w [.l v es])(hq:a9t es):Calls Try.prog 10 #[v] w fun e w'=>e= .returned (.int .i64 (a3y es))∧Below w.heap.size w w':=by obtain⟨⟨t1,_⟩,_⟩:=(show(TyLL a1T es∧_∧_)∧True by simpa only[TyL,TyOK]using ht);obtain⟨h1,h2⟩:=d6b t1 (GML.at (j:=0) hm rfl) hq;have h3:=b6t h1;rw[h2,d1f]at h3;exact h3
theorem c7h(w:World)(C:Nat)(s:ByteArray)(a:Int)(ha:IntKind.i64.min≤a∧a≤IntKind.i64.max)(hC:C<w.heap.size)(hr:RdM w C s a false):Calls Try.prog 32 #[.pointer (some ⟨C,0,none⟩)] w fun e w'=>AncO [⟨C,0,0⟩] w w'∧e= .returned (.bool (decide (a=s.size))):=by
 refine(d0a.ok w (st3 s a false) [⟨C,0,0⟩] [] [.pointer (some ⟨C,0,none⟩)] (fun b hb=>by cases hb) ⟨rfl,fun q b hq=> ?_,fun i j o o' hi hj he=> ?_,fun o ho=> ?_⟩ ⟨hr.sz,⟨rfl,ha.1,ha.2⟩,trivial,trivial⟩ ⟨by simp only[GM],by simp only[GM],by simp only[GM],trivial⟩ ⟨⟨⟨C,0,0⟩,rfl,rfl⟩,trivial⟩ ⟨s,a,false,rfl⟩).mono ?_
 ·match q,hq with
  |0,hq=>cases hq;exact⟨⟨C,0,0⟩,rfl,hr.cellOK rfl rfl rfl⟩
  |q+1,hq=>cases hq
 ·match i,j,hi,hj with
  |0,0,_,_=>rfl
  |i+1,_,hi,_=>cases hi
  |_,j+1,_,hj=>cases hj
 ·rw[List.mem_singleton.1 ho];exact hC
 ·rintro e w' ⟨an,h⟩;refine⟨an, ?_⟩;rcases h with⟨us,⟨s1,a1,b1,e1,rfl⟩,rfl,_⟩|⟨h,_⟩
  ·simp only[st3,List.cons.injEq,G.s.injEq,G.i.injEq,G.b.injEq,and_true,true_and]at e1;obtain⟨rfl,rfl,rfl⟩:=e1;rfl
  ·exact h.elim
end
end Go.Proofs.Ytmmmknhdigapkaa.poolCut
namespace Go.Proofs.Ytmmmknhdigapkaa.poolCut
open Go.Ev Go.RowKit Go.Proofs.Ytmmmknhdigapkaa.poolS Go.Proofs.Ytmmmknhdigapkaa.plq
set_option linter.unusedVariables false
set_option maxRecDepth 100000
theorem b2M(w:World)(o:Obj):(w.alloc o).heap[w.heap.size]? =some o:=by show(w.heap.push o)[w.heap.size]? =_;exact Array.getElem?_push_size
theorem a2c{w:World}{o:Obj}{k:Nat}(h:k=w.heap.size):(w.alloc o).heap[k]? =some o:=by rw[h];exact b2M w o
theorem d0E{O:List Inf}{w w':World}(h:AncO O w w'){k:Nat}{o:Obj}(hk:w.heap[k]? =some o)(hO: ∀q∈O,q.blk≠k):w'.heap[k]? =some o:=by
 have:k<w.heap.size:=by
  rcases Nat.lt_or_ge k w.heap.size with h|h
  ·exact h
  ·rw[Array.getElem?_eq_none h]at hk;cases hk
 rw[h.old k this hO,hk]
def c4m(s:ByteArray)(us:List G):Prop:=
 (∃v es,us= [.l v es,.i .i64 0]∧pL 40 pCd (rest s 0)=some ([.l (.bool false) (erLL es)],[])∧a3y es=0)∨
 (us= [.l (.slice none 0 0) [],.i .i64 4]∧(pL 40 pCd (rest s 0)=none∨ ∃es r,pL 40 pCd (rest s 0)=some ([.l (.bool false) (erLL es)],r)∧(r≠[]∨a3y es≠0)))
structure DecM(w0 W:World)(M:List Nat)(x y:Value)(gs:List G):Prop where
 bel:Below w0.heap.size w0 W
 k0:W.heap[w0.heap.size]? =some (.cells #[x] 22 (0,0))
 k1:W.heap[w0.heap.size+1]? =some (.cells #[y] 24 (0,0))
 lt: ∀b∈M,b<W.heap.size
 m0:w0.heap.size∈M
 m1:w0.heap.size+1∈M
 gm:GML (a0W W M) gs
theorem DecM.anc{w0 W W':World}{M:List Nat}{x y:Value}{gs:List G}{O:List Inf}(h:DecM w0 W M x y gs)(an:AncO O W W')(hO: ∀o∈O,o.blk∈M∧w0.heap.size+2≤o.blk):DecM w0 W' M x y gs:=by have same: ∀k,k<W.heap.size→(∀o∈O,o.blk≠k)→W'.heap[k]? =W.heap[k]? :=an.old;have s0:=h.bel.size;refine⟨⟨an.wk.os.trans h.bel.os,an.wk.tape.trans h.bel.tape,an.wk.output.trans h.bel.output,Nat.le_trans h.bel.size an.wk.size,fun k hk=> ?_⟩,d0E an h.k0 fun q hq=>by have:=(hO q hq).2;omega,d0E an h.k1 fun q hq=>by have:=(hO q hq).2;omega,fun b hb=>Nat.lt_of_lt_of_le (h.lt b hb) an.wk.size,h.m0,h.m1,c9v h.lt an.wk.size (fun k hk hn=>same k hk fun o ho he=>hn (he▸(hO o ho).1)) (fun b hb=>.inl hb) h.gm⟩;rw[same k (by omega) fun o ho he=>by have:=(hO o ho).2;omega,h.bel.block k hk]
theorem DecM.below{w0 W W':World}{M:List Nat}{x y:Value}{gs:List G}(h:DecM w0 W M x y gs)(b:Below W.heap.size W W'):DecM w0 W' M x y gs:=
 h.anc (O:=[]) ⟨⟨b.os,b.tape,b.output,b.size⟩,fun k hk _=>b.block k hk⟩ fun o ho=>by cases ho
theorem DecM.set0{w0 W:World}{M:List Nat}{x y:Value}{gs:List G}(h:DecM w0 W M x y gs)(x':Value):DecM w0 (W.setCell ⟨w0.heap.size,0,none⟩ x') M x' y gs:=by
 refine⟨h.bel.setCell (Nat.le_refl _) _,one_setCell h.k0, ?_,fun b hb=> ?_,h.m0,h.m1,c9v h.lt (by rw[World.size_setCell];exact Nat.le_refl _) (fun k hk hn=>a9K fun he=>hn (he▸h.m0)) (fun b hb=>.inl hb) h.gm⟩
 ·rw[a9K (by omega),h.k1]
 ·rw[World.size_setCell];exact h.lt b hb
theorem DecM.set1{w0 W:World}{M:List Nat}{x y:Value}{gs:List G}(h:DecM w0 W M x y gs)(y':Value):DecM w0 (W.setCell ⟨w0.heap.size+1,0,none⟩ y') M x y' gs:=by
 refine⟨h.bel.setCell (Nat.le_succ _) _, ?_,one_setCell h.k1,fun b hb=> ?_,h.m0,h.m1,c9v h.lt (by rw[World.size_setCell];exact Nat.le_refl _) (fun k hk hn=>a9K fun he=>hn (he▸h.m1)) (fun b hb=>.inl hb) h.gm⟩
 ·rw[a9K (by omega),h.k0]
 ·rw[World.size_setCell];exact h.lt b hb
theorem RdM.same{w w':World}{B:Nat}{s:ByteArray}{a:Int}{f:Bool}(h:RdM w B s a f)(hh:w'.heap[B]? =w.heap[B]?):RdM w' B s a f:=by obtain⟨c,e,fr,g⟩:=h.pl;exact⟨h.sz,c,e,fr,by rw[hh];exact g⟩
theorem c1l{s:ByteArray}{a:Int}{r:List Int}(h:At s a r):r= []↔a=s.size:=by
 obtain⟨h0,h1,rfl⟩:=h;have hl:(numsOf s).length=s.size:=by simp[numsOf]
 unfold rest;rw[List.drop_eq_nil_iff,hl];omega
theorem d6Z{tmps:Array Value}{W:World}{P Q:Nat}{a:Option Addr}{n c:Nat}{k:Int}(h2:tmps[2]?.getD undef= .pointer (some ⟨P,0,none⟩))(h3:tmps[3]?.getD undef= .pointer (some ⟨Q,0,none⟩))(c0:W.cell? ⟨P,0,none⟩=some (.slice a n c))(c1:W.cell? ⟨Q,0,none⟩=some (.int .i64 k)):(results Try.f13 tmps).run Try.prog W= .ok (.tuple #[.slice a n c,.int .i64 k]) W:=by simp[results,Try.results13,h2,h3,go_sem,c0,c1]
def e3E(w:World)(s:ByteArray)(L:List Nat)(e:Ending)(w':World):Prop:= ∃us,c4m s us∧e= .returned (a8w [.d (.l a1T),.d (.i .i64)] us)∧TyL [.l a1T,.i .i64] us∧GML (a0W w' L) us∧Below w.heap.size w w'
theorem a9G{w W:World}{s:ByteArray}{L M:List Nat}{x y:Value}{gs:List G}{tmps:Array Value}(d:DecM w W M x y gs)(h2:tmps[2]?.getD undef= .pointer (some ⟨w.heap.size,0,none⟩))(h3:tmps[3]?.getD undef= .pointer (some ⟨w.heap.size+1,0,none⟩))(hp:c4m s [.l (.slice none 0 0) [],.i .i64 4]):
  Leaves Try.prog Try.f13 tmps (e3E w s L) [{target:=.fn (.func 27) #[.pointer (some ⟨w.heap.size,0,none⟩),.pointer (some ⟨w.heap.size+1,0,none⟩)],args:= #[]}] (.panicking (a7N a0X)) W:=by
 have hs:=d.bel.size;refine leaves_cons (f:=27) (args:= #[.pointer (some ⟨w.heap.size,0,none⟩),.pointer (some ⟨w.heap.size+1,0,none⟩)]) (by simp) (by simp[go_sem]) ?_;refine(d4n w.heap.size (w.heap.size+1) W x y d.k0 d.k1 (by omega) (d.lt _ d.m0) (d.lt _ d.m1)).mono ?_;rintro e u' w'' ⟨rfl,rfl,rfl⟩;have d2:=((d.set0 (.slice none 0 0)).set1 (.int .i64 4)).below ((Below.refl _ _).alloc (Nat.le_refl _) (.cells #[] 58));refine⟨_,d6Z h2 h3 (one_cell d2.k0) (one_cell d2.k1),_,hp,rfl,⟨⟨trivial,by decide,_,_,rfl,Nat.le_refl _⟩,⟨rfl,by decide,by decide⟩,trivial⟩,⟨?_, ?_,trivial⟩,d2.bel⟩
 ·simp only[GM];exact⟨none,0,rfl,.inl ⟨trivial,.inl rfl⟩⟩
 ·simp only[GM]
theorem d2s{l r:List Int}{es:List (List G)}(h:pL 40 pCd l=some ([.l (.bool false) (erLL es)],r)):es.length≤40:=by
 obtain⟨n,r0,es',_,h1,h2,h3,h4⟩:=a9H h;have h4:erLL es=es':=by simpa using h4
 subst h4;rw[a0k,List.length_map]at h2;omega
theorem c9H{w W:World}{s:ByteArray}{L M:List Nat}{es:List (List G)}{a:Option Addr}{c:Nat}{tmps:Array Value}(d:DecM w W M (.slice a es.length c) (.int .i64 0) [.l (.slice a es.length c) es])(h2:tmps[2]?.getD undef= .pointer (some ⟨w.heap.size,0,none⟩))(h3:tmps[3]?.getD undef= .pointer (some ⟨w.heap.size+1,0,none⟩))(hp:c4m s [.l (.slice a es.length c) es,.i .i64 0])(ht:TyL [.l a1T] [.l (.slice a es.length c) es])(hL: ∀b∈L,b∈M):
  Leaves Try.prog Try.f13 tmps (e3E w s L) [{target:=.fn (.func 27) #[.pointer (some ⟨w.heap.size,0,none⟩),.pointer (some ⟨w.heap.size+1,0,none⟩)],args:= #[]}] .returning W:=by
 refine leaves_cons (f:=27) (args:= #[.pointer (some ⟨w.heap.size,0,none⟩),.pointer (some ⟨w.heap.size+1,0,none⟩)]) (by simp) (by simp[go_sem]) ?_;refine(d7U ⟨w.heap.size,0,none⟩ ⟨w.heap.size+1,0,none⟩ W).mono ?_;rintro e u' w'' ⟨rfl,rfl,rfl⟩;have hg:=c9v (M':=L) d.lt (Nat.le_refl _) (fun k hk _=>rfl) (fun b hb=>.inl (hL b hb)) d.gm;exact⟨_,d6Z h2 h3 (one_cell d.k0) (one_cell d.k1),_,hp,rfl,⟨ht.1,⟨rfl,by decide,by decide⟩,trivial⟩,⟨hg.1,by simp only[GM],trivial⟩,d.bel⟩
theorem a2q(w:World)(s:ByteArray)(hs:(s.size:Int)≤9223372036854775807)(L:List Nat)(hL: ∀b∈L,b<w.heap.size):
  Calls Try.prog 13 #[.string s] w fun e w'=> ∃us,c4m s us∧e= .returned (a8w [.d (.l a1T),.d (.i .i64)] us)∧TyL [.l a1T,.i .i64] us∧GML (a0W w' L) us∧Below w.heap.size w w':=by
 have hmf: ∀(fn:Fn) (first cap:Array Value) (w:World),(Instr.makeFunc fn first cap).run Try.prog w= .ok (.func fn first cap) w:=fun _ _ _ _=>rfl;go_enter_defers Try.func13,Try.ntmps13;go_wp2_with fail;refine(c6W _ s).mono ?_;rintro e w' ⟨rfl,rfl⟩;go_wp2_with fail;generalize hW:World.alloc (World.alloc (World.alloc _ _) _) _=W4
 have hb4:Below w.heap.size w W4:=by rw[←hW];exact((((Below.refl _ w).alloc (Nat.le_refl _) _).alloc (by simp only[World.size_alloc];omega) _).alloc (by simp only[World.size_alloc];omega) _).alloc (by simp only[World.size_alloc];omega) _
 have hsz:W4.heap.size=w.heap.size+4:=by rw[←hW];simp only[World.size_alloc]
 have h0:W4.heap[w.heap.size]? =some (.cells #[.slice none 0 0] 22 (0,0)):=by rw[←hW,a2P (by simp only[World.size_alloc];omega),a2P (by simp only[World.size_alloc];omega),a2P (by simp only[World.size_alloc];omega),b2M]
 have h1:W4.heap[w.heap.size+1]? =some (.cells #[.int .i64 0] 24 (0,0)):=by rw[←hW,a2P (by simp only[World.size_alloc];omega),a2P (by simp only[World.size_alloc];omega),a2c (by simp only[World.size_alloc])]
 have h2:W4.heap[w.heap.size+1+1]? =some (.cells #[.string s,.int .i64 0,.bool false] 88 (0,0)):=by rw[←hW,a2P (by simp only[World.size_alloc];omega),a2c (by simp only[World.size_alloc])]
 have h3:W4.heap[w.heap.size+1+1+1]? =some (.cells #[.pointer (some ⟨w.heap.size+1+1,0,none⟩)] 64 (0,0)):=by rw[←hW,a2c (by simp only[World.size_alloc])]
 clear hW
 have hL4: ∀b∈L++ [w.heap.size,w.heap.size+1],b<W4.heap.size:=by
  intro b hb;rcases List.mem_append.1 hb with hb|hb
  ·have:=hL b hb;omega
  ·simp only[List.mem_cons,List.not_mem_nil,or_false]at hb;omega
 have hO1: ∀q∈ [(⟨w.heap.size+1+1+1,0,0⟩:Inf),⟨w.heap.size+1+1,0,0⟩],q.blk≠w.heap.size∧q.blk≠w.heap.size+1∧w.heap.size≤q.blk:=fun q hq=>by simp only[List.mem_cons,List.not_mem_nil,or_false]at hq;rcases hq with rfl|rfl<;>(dsimp only;omega)
 have hd1: ∀(w1:World) (gs:List G),AncO [(⟨w.heap.size+1+1+1,0,0⟩:Inf),⟨w.heap.size+1+1,0,0⟩] W4 w1→GML (a0W w1 (L++ [w.heap.size,w.heap.size+1]++ [w.heap.size+1+1+1,w.heap.size+1+1])) gs→DecM w w1 (L++ [w.heap.size,w.heap.size+1]++ [w.heap.size+1+1+1,w.heap.size+1+1]) (.slice none 0 0) (.int .i64 0) gs:=by
  intro w1 gs an1 hm;have hs1:=an1.wk.size;refine⟨⟨an1.wk.os.trans hb4.os,an1.wk.tape.trans hb4.tape,an1.wk.output.trans hb4.output,by omega,fun k hk=> ?_⟩,d0E an1 h0 fun q hq=>(hO1 q hq).1,d0E an1 h1 fun q hq=>(hO1 q hq).2.1,fun b hb=> ?_,by simp,by simp,hm⟩
  ·rw[an1.old k (by omega) fun o ho he=>by have:=(hO1 o ho).2.2;omega,hb4.block k hk]
  ·rcases List.mem_append.1 hb with hb|hb
   ·have:=hL4 b hb;omega
   ·simp only[List.mem_cons,List.not_mem_nil,or_false]at hb;omega
 clear hO1;refine(b6l W4 s (w.heap.size+1+1+1) (w.heap.size+1+1) (L++ [w.heap.size,w.heap.size+1]) hL4 (by omega) (by omega) (by omega) ⟨hs,_,_,_,h2,Nat.le_refl _,rfl,rfl,rfl,rfl⟩ h3).mono ?_;rintro e w1 ⟨an1,⟨v,es,r,a',rfl,hp,hat,ht,hm,hr,hptr⟩|⟨hp,rfl⟩⟩
 ·obtain⟨va,vc,rfl⟩: ∃a c,v= .slice a es.length c:=⟨_,_,c0V (GML.at (j:=0) hm rfl)⟩;have d1:=hd1 w1 _ an1 hm
  have hO: ∀o∈ [(⟨w.heap.size+1+1,0,0⟩:Inf)],o.blk∈L++ [w.heap.size,w.heap.size+1]++ [w.heap.size+1+1+1,w.heap.size+1+1]∧w.heap.size+2≤o.blk:=fun o ho=>by rw[List.mem_singleton.1 ho];exact⟨by simp,Nat.le_refl _⟩
  have c0:=one_cell d1.k0;have f0:=a8F d1.k0
  have hptr2:(w1.setCell ⟨w.heap.size,0,none⟩ (.slice va es.length vc)).cell? ⟨w.heap.size+1+1+1,0,none⟩=some (.pointer (some ⟨w.heap.size+1+1,0,none⟩)):=by
   have hne:(⟨w.heap.size,0,none⟩:Addr)≠⟨w.heap.size+1+1+1,0,none⟩:=by intro h;injection h;omega
   rw[World.cell?_setCell_other (h:=hne)];exact hptr
  go_wp2_with fail;have d2:=d1.set0 (.slice va es.length vc);have hr2:RdM (w1.setCell ⟨w.heap.size,0,none⟩ (.slice va es.length vc)) (w.heap.size+1+1) s a' false:=hr.same (a9K (by omega));generalize World.setCell w1 _ _=w2 at d2 hr2 hptr2;clear c0 f0;refine(c7h w2 (w.heap.size+1+1) s a' ⟨by have:=hat.lo;show(-9223372036854775808:Int)≤a';omega,by have:=hat.hi;show a'≤(9223372036854775807:Int);omega⟩ (d2.lt _ (by simp)) hr2).mono ?_;rintro e w3 ⟨an3,rfl⟩;have d3:=d2.anc an3 hO;clear d2 hr2 hptr2 an3 d1 an1 hm hptr hr;have c3:=one_cell d3.k0;cases hq:decide (a'=s.size)with
  |true=>
   go_wp2_with fail;have ha:=of_decide_eq_true hq;have hr0:=(c1l hat).2 ha;subst hr0;refine(a4q w3 (.slice va es.length vc) es ht (GML.sub (b2R d3.lt) d3.gm) (c3m hp)).mono ?_;rintro e w4 ⟨rfl,hb4'⟩;have d4:=d3.below hb4';clear d3 hb4' c3;cases hz:decide (a3y es=0)with
   |true=>have hz':=of_decide_eq_true hz;have c4:=one_cell d4.k0;go_wp2_with fail;refine(d1Q w4).mono ?_;rintro e w' ⟨rfl,rfl⟩;go_wp2_with fail;refine(c1G w' (.slice va es.length vc) es _ d4.lt (d2s hp) ht d4.gm).mono ?_;rintro e w5 ⟨u,rfl,tu,mu,hb5⟩;obtain⟨ua,uc,rfl⟩: ∃a c,u= .slice a es.length c:=⟨_,_,c0V (GML.at (j:=0) mu rfl)⟩;have d5:DecM w w5 _ _ _ [.l (.slice ua es.length uc) es]:=let d:=d4.below hb5;⟨d.bel,d.k0,d.k1,d.lt,d.m0,d.m1,mu⟩;clear d4 c4 hb5;have c5:=one_cell d5.k0;have f5:=a8F d5.k0;have d6:=d5.set0 (.slice ua es.length uc);have c6:=one_cell d6.k1;have f6:=a8F d6.k1;go_wp2_with fail;exact c9H (d6.set1 (.int .i64 0)) rfl rfl (.inl ⟨_,es,rfl,hp,hz'⟩) tu fun b hb=>by simp[hb]
   |false=>have hz':=of_decide_eq_false hz;have hz2:(a3y es==0)=false:=beq_eq_false_iff_ne.2 hz';go_wp2_with fail;refine(c6d w4).mono ?_;rintro e w' ⟨rfl,rfl⟩;go_wp2_with fail;exact a9G d4 rfl rfl (.inr ⟨rfl,.inr ⟨es,[],hp,.inr hz'⟩⟩)
  |false=>go_wp2_with fail;refine(c6d w3).mono ?_;rintro e w' ⟨rfl,rfl⟩;go_wp2_with fail;exact a9G d3 rfl rfl (.inr ⟨rfl,.inr ⟨es,r,hp,.inl fun h=>of_decide_eq_false hq ((c1l hat).1 h)⟩⟩)
 ·go_wp2_with fail;exact a9G (hd1 w1 [] an1 trivial) rfl rfl (.inr ⟨rfl,.inl hp⟩)
end Go.Proofs.Ytmmmknhdigapkaa.poolCut
