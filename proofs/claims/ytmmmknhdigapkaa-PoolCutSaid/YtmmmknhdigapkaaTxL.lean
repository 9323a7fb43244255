/-
  Reading functions: instructions, costs, lists, abilities, cards.
-/
import Derived.Test.YtmmmknhdigapkaaTxK
namespace Go.Proofs.Ytmmmknhdigapkaa.poolCut
open Go.Ev Go.RowKit Go.Proofs.Ytmmmknhdigapkaa.poolS
set_option linter.unusedVariables false
noncomputable section
section
variable{D:Nat→Co}{F:FnO}{R:List G→Prop}{Pn:Prop}{iH:Nat→List G→Prop}{mH:Nat→List G→Nat}{n b h:Nat}{σ:List G}{s:ByteArray}{a:Int}{l:List Int}
theorem c7N{G:FnO}{f:FuncId}{xg:List Go.Ev.G}{q:Pr}{ts:List Ty}(hrs:a0F G.rs= [.l ts])(e:MdO)(hl:a0s h F.md=some e)(hD:D e.c=coF G f xg q)(hb:b1a e.sg σ)(hx:e.xs.map (gG σ)=st3 s a false++xg)(A:At s a l)(hn:q l=none→Pn)(hq: ∀v es r a',q l=some ([.l (.bool false) (erLL es)],r)→TyLL ts es→At s a' r→wp (Cs []) e.tr (σ++(.l v es::st3 s a' false)) (Go (Cs []) D F R Pn a0X iH mH n b)):Go (Cs []) D F R Pn a0X iH mH (n+1) b (.goto h σ):=by refine c0k e hl hD hb hx A hn fun x y r a' h1 h2 h3 h4=> ?_;rw[hrs]at h3;obtain⟨g,l,rfl,t,h5⟩:=tyC h3;obtain⟨v,es,rfl,h6,_⟩:=b3l t;obtain rfl:=tyN h5;subst h2;exact hq v es r a' h1 h6 h4
theorem d1X(e:MdO)(hl:a0s h F.md=some e)(hD:D e.c=d9g)(hb:b1a e.sg σ)(hx:e.xs.map (gG σ)=st3 s a false)(A:At s a l)(hn:pM l=none→Pn)(hq: ∀m1 m2 m3 m4 r a',pM l=some ([.i .i64 m1,.i .i64 m2,.i .i64 m3,.i .i64 m4],r)→At s a' r→wp (Cs []) e.tr (σ++(.i .i64 m1:: .i .i64 m2:: .i .i64 m3:: .i .i64 m4::st3 s a' false)) (Go (Cs []) D F R Pn a0X iH mH n b)):Go (Cs []) D F R Pn a0X iH mH (n+1) b (.goto h σ):=by refine c0k e hl hD hb (by rw[hx,List.append_nil]) A hn fun x y r a' h1 h2 h3 h4=> ?_;obtain⟨g1,l1,rfl,t1,k1⟩:=tyC (show TyL [.i .i64,.i .i64,.i .i64,.i .i64] x from h3);obtain⟨m1,rfl,_⟩:=a0a t1;obtain⟨g2,l2,rfl,t2,k2⟩:=tyC k1;obtain⟨m2,rfl,_⟩:=a0a t2;obtain⟨g3,l3,rfl,t3,k3⟩:=tyC k2;obtain⟨m3,rfl,_⟩:=a0a t3;obtain⟨g4,l4,rfl,t4,k4⟩:=tyC k3;obtain⟨m4,rfl,_⟩:=a0a t4;obtain rfl:=tyN k4;subst h2;exact hq m1 m2 m3 m4 r a' h1 h4
theorem d7W(e:MdO)(hl:a0s h F.md=some e)(hD:D e.c=d4q)(hb:b1a e.sg σ)(hx:e.xs.map (gG σ)=st3 s a false)(A:At s a l)(hn:pT l=none→wp (Cs []) e.tr (σ++(.s ⟨#[]⟩::st3 s s.size true)) (Go (Cs []) D F R Pn a0X iH mH n b))(hq: ∀x r a',pT l=some ([.s x],r)→At s a' r→wp (Cs []) e.tr (σ++(.s x::st3 s a' false)) (Go (Cs []) D F R Pn a0X iH mH n b)):Go (Cs []) D F R Pn a0X iH mH (n+1) b (.goto h σ):=by
 obtain⟨A0,A1,A2⟩:=A;refine a3m e _ hl hD hb (fun _=>⟨s,a,hx,A0,A1⟩) (fun hp=>hp.elim) fun us hp _=> ?_;obtain⟨s',a',e1,hp⟩:=hp;rw[hx]at e1;obtain⟨rfl,rfl⟩:=a6a (s:=s) (a:=a) e1;rw[A2]at hp;rcases hp with⟨x,r,a2,e2,rfl,e3⟩|⟨e2,rfl⟩
 ·exact hq x r a2 e2 e3
 ·exact hn e2
end
theorem bind_none{α β:Type}{f:α→Option β}:(none:Option α).bind f=none:=rfl
theorem e2a: ∀c∈ [b4Q,d7h],CoOK Try.prog c:=by
 intro c hc;simp only[List.mem_cons,List.not_mem_nil,or_false]at hc;rcases hc with rfl|rfl
 ·exact a6K
 ·exact c7m
theorem d4f:CoOK Try.prog d9k:=by refine b3N e2a Try.func72 d7T [] b4v _ rfl rfl 3 0 (fun _ _ _ _=>False) (fun _ _=>0) (fun q hq=>by cases hq) (fun q hq=>by simp only[ins,List.mem_cons,List.not_mem_nil,or_false]at hq;rcases hq with rfl|rfl|rfl<;>rfl) ?_ (fun _ _ q hq=>by cases hq) (fun _ _ _ _ _ q hq=>by cases hq);intro s a h0 h1 mx;show wp _ d3v _ _;unfold d3v;refine a0C ?_;show Go _ _ ins _ _ _ _ _ 3 0 (.goto 1001001 [.s s,.i .i64 a,.b false]);refine a2p (s:=s) (a:=a) b0O rfl rfl (bd0 rfl) rfl ⟨h0,h1,rfl⟩ (fun hn=>by simp only[b4v,hn,Option.bind_none]) fun m1 r1 a1 l1 u1 q1 A1=> ?_;refine a0C ?_;show Go _ _ ins _ _ _ _ _ 2 0 (.goto 1001003 [.i .i64 m1,.s s,.i .i64 a1,.b false]);refine c2Y (s:=s) (a:=a1) b0N rfl rfl (bd0 rfl) rfl A1 (fun hn=>by simp only[b4v,l1,hn,Option.bind_some,Option.bind_none]) fun m2 r2 a2 l2 A2=> ?_;refine a0C ?_;show Go _ _ ins _ _ _ _ _ 1 0 (.goto 1001005 [.i .i64 m1,.i .i64 m2,.s s,.i .i64 a2,.b false]);refine c2Y (s:=s) (a:=a2) b0M rfl rfl (bd0 rfl) rfl A2 (fun hn=>by simp only[b4v,l1,l2,hn,Option.bind_some,Option.bind_none]) fun m3 r3 a3 l3 A3=> ?_;refine a0c ?_;exact⟨[.i .i64 m1,.i .i64 m2,.i .i64 m3],_,r3,a3,rfl,by simp only[b4v,l1,l2,l3,List.cons_append,List.nil_append,Option.bind_some];rfl,rfl,A3⟩
theorem e2Z: ∀c∈ [b4Q],CoOK Try.prog c:=by intro c hc;rw[List.mem_singleton.1 hc];exact a6K
theorem b4t{p:Pr}: ∀{k n:Nat} {l:List Int},a7F p (k+n) l=(a7F p k l).bind fun y=>(a7F p n y.2).bind fun z=>some (y.1++z.1,z.2)
 |0,n,l=>by simp only[Nat.zero_add,a7F,Option.bind_some,List.nil_append];cases a7F p n l<;>rfl
 |k+1,n,l=>by
  rw[show k+1+n=(k+n)+1 by omega];simp only[a7F];cases h:p l with
  |none=>rfl
  |some z=>
   simp only[Option.bind_some];rw[b4t];cases a7F p k z.2 with
   |none=>rfl
   |some y=>simp only[Option.bind_some];cases a7F p n y.2<;>rfl
theorem b7F{p:Pr}{k:Nat}{l r r':List Int}{xs:List (List G)}{x:List G}(h:a7F p k l=some (xs,r))(h':p r=some (x,r')):a7F p (k+1) l=some (xs++ [x],r'):=by rw[b4t,h];simp only[Option.bind_some,a7F,h']
theorem b7G{p:Pr}{k n:Nat}{l r:List Int}{xs:List (List G)}(h:a7F p k l=some (xs,r))(h':p r=none)(hk:k<n):a7F p n l=none:=by obtain⟨m,rfl⟩: ∃m,n=k+(m+1):=⟨n-k-1,by omega⟩;rw[b4t,h];simp only[Option.bind_some,a7F,h',Option.bind_none]
def e2w(s:ByteArray)(a0:Int)(t:Nat)(σ:List G):Prop:= ∃(ms:List Int) (l:List Int) (a:Int),ms.length≤4∧At s a l∧a7F pN ms.length (rest s a0)=some (ms.map fun m=>[.i .i64 m],l)∧σ= .s s:: .i .i64 a:: .b false:: .i .i64 ms.length::[.i .i64 (ms.getD 0 0),.i .i64 (ms.getD 1 0),.i .i64 (ms.getD 2 0),.i .i64 (ms.getD 3 0)]
theorem c2J{s:ByteArray}{a0 a' m:Int}{ms:List Int}{l r:List Int}(hl:ms.length<4)(hp:a7F pN ms.length (rest s a0)=some (ms.map fun m=>[.i .i64 m],l))(h:pN l=some ([.i .i64 m],r))(A:At s a' r){σ:List G}(hs:σ= .s s:: .i .i64 a':: .b false:: .i .i64 (ms.length+1:Nat)::[.i .i64 ((ms++ [m]).getD 0 0),.i .i64 ((ms++ [m]).getD 1 0),.i .i64 ((ms++ [m]).getD 2 0),.i .i64 ((ms++ [m]).getD 3 0)]):e2w s a0 0 σ:=
 ⟨ms++ [m],r,a',by simp;omega,A,by
  rw[List.length_append,List.map_append]
  exact b7F hp h,by rw[hs,List.length_append];rfl⟩
theorem c7p:CoOK Try.prog d9g:=by
 refine b3N e2Z Try.func49 d6z [] pM _ rfl rfl 1 5 e2w (fun _ σ=>(4-(σ.getD 3 .d).int).toNat) (fun q hq=>by rw[List.mem_singleton.1 hq];rfl) (fun q hq=>by rw[List.mem_singleton.1 hq];rfl) ?_ (fun s a q hq σ hi=> ?_) (fun s a h0 h1 mx q hq σ ht hi=> ?_)
 ·intro s a h0 h1 mx;show wp _ d3Z _ _;unfold d3Z;refine a0C ?_;exact⟨⟨[],_,a,by decide,⟨h0,h1,rfl⟩,rfl,rfl⟩,by show 4<5;decide⟩
 ·simp only[mna,List.mem_singleton]at hq;subst hq;exact bd0 rfl
 ·simp only[mna,List.mem_singleton]at hq;subst hq;obtain⟨ms,l,a',h4,A,hp,rfl⟩:=hi;show wp _ c6e _ _;unfold c6e;refine a0w (fun h=>a0C ?_) fun h=>a0c ?_
  ·have h:(ms.length:Int)<4:=h;show Go _ _ mna _ _ _ _ _ 1 _ (.goto 1004002 [.s s,.i .i64 a',.b false,.i .i64 ms.length,.i .i64 ms.length,.i .i64 (ms.getD 0 0),.i .i64 (ms.getD 1 0),.i .i64 (ms.getD 2 0),.i .i64 (ms.getD 3 0)]);refine a2p (s:=s) (a:=a') a9y rfl rfl (bd0 rfl) rfl A (fun hn=> ?_) fun m r a2 l1 u1 u2 A2=> ?_
   ·unfold pM;rw[b7G hp hn (by omega)];rfl
   show wp _ a5c _ _;unfold a5c
   match ms,h,hp with
   | [],h,hp=>refine a0r (fun _=>a1F (a0C ⟨c2J (by decide) hp l1 A2 rfl,by show 3<4;decide⟩)) fun h=>(h rfl).elim
   | [x],h,hp=>refine a0r (fun h=>by cases h) fun _=>a0r (fun _=>a1F (a0C ⟨c2J (by simp) hp l1 A2 rfl,by show 2<3;decide⟩)) fun h=>(h rfl).elim
   | [x,y],h,hp=>refine a0r (fun h=>by cases h) fun _=>a0r (fun h=>by cases h) fun _=>a0r (fun _=>a1F (a0C ⟨c2J (by simp) hp l1 A2 rfl,by show 1<2;decide⟩)) fun h=>(h rfl).elim
   | [x,y,z],h,hp=>refine a0r (fun h=>by cases h) fun _=>a0r (fun h=>by cases h) fun _=>a0r (fun h=>by cases h) fun _=>a0r (fun _=>a1F (a0C ⟨c2J (by simp) hp l1 A2 rfl,by show 0<1;decide⟩)) fun h=>(h rfl).elim
   |_::_::_::_::_,h,_=>exfalso;simp only[List.length_cons]at h;omega
  ·have h:4≤(ms.length:Int):=h
   match ms,h,h4,hp with
   | [x,y,z,w],h,h4,hp=>refine⟨[.i .i64 x,.i .i64 y,.i .i64 z,.i .i64 w],_,l,a',rfl, ?_,rfl,A⟩;unfold pM;rw[show a7F pN 4 (rest s a)=_ from hp];rfl
   | [],h,_,_=>simp at h
   | [_],h,_,_=>simp at h
   | [_,_],h,_,_=>simp at h
   | [_,_,_],h,_,_=>simp at h
   |_::_::_::_::_::_,_,h4,_=>simp at h4
theorem c2j: ∀{a b:List (List G)},erLL (a++b)=erLL a++erLL b
 | [],b=>by simp[erLL]
 |x::a,b=>by simp[erLL,c2j]
theorem c6C{q:Pr}{most n:Int}{l0 r0 l:List Int}{xs:List (List G)}(h:pN l0=some ([.i .i64 n],r0))(h1:n≤most)(h2:a7F q n.toNat r0=some (xs,l)):pL most q l0=some ([.l (.bool false) xs],l):=by unfold pL;rw[h];simp only[Option.bind_some,List.getD_cons_zero,a0D];rw[if_pos h1,h2];rfl
theorem b4u{q:Pr}{most n:Int}{l0 r0 l:List Int}{xs:List (List G)}{k:Nat}(h:pN l0=some ([.i .i64 n],r0))(h1:n≤most)(h2:a7F q k r0=some (xs,l))(h3:q l=none)(h4:(k:Int)<n):pL most q l0=none:=by unfold pL;rw[h];simp only[Option.bind_some,List.getD_cons_zero,a0D];rw[if_pos h1,b7G h2 h3 (by omega)];rfl
def c9r(q:Pr)(most:Int)(s:ByteArray)(a0:Int)(t:Nat)(σ:List G):Prop:= ∃(n:Nat) (es:List (List G)) (l:List Int) (a:Int) (r0:List Int) (f:Bool),(n:Int)≤most∧es.length≤n∧At s a l∧pN (rest s a0)=some ([.i .i64 n],r0)∧a7F q es.length r0=some (erLL es,l)∧(f=true→es= [])∧σ= [.i .i64 n,.s s,.i .i64 a,.b false,.w es,.b f,.i .i64 es.length]
def lMu(t:Nat)(σ:List G):Nat:=((σ.getD 0 .d).int-(σ.getD 6 .d).int).toNat
theorem b0L{q:Pr}{most:Int}{s:ByteArray}{a0 a':Int}{n:Nat}{es:List (List G)}{l r0 r:List Int}{x:List G}(hn:(n:Int)≤most)(hk:es.length<n)(h0:pN (rest s a0)=some ([.i .i64 n],r0))(hp:a7F q es.length r0=some (erLL es,l))(h:q l=some (erL x,r))(A:At s a' r){σ:List G}(hs:σ= [.i .i64 n,.s s,.i .i64 a',.b false,.w (es++ [x]),.b false,.i .i64 (IntKind.i64.wrap ((es.length:Int)+1))])(hm:most≤1000):c9r q most s a0 0 σ∧lMu 0 σ<n-es.length:=by
 subst hs;rw[a2i (by omega)];refine⟨⟨n,es++ [x],r,a',r0,false,hn,by simp;omega,A,h0, ?_,(fun h=>by cases h),by simp⟩, ?_⟩
 ·rw[List.length_append,c2j];exact b7F hp h
 ·show((n:Int)-((es.length+1:Nat):Int)).toNat<_;omega
theorem e2Y: ∀c∈ [b4Q,a5G],CoOK Try.prog c:=by
 intro c hc;simp only[List.mem_cons,List.not_mem_nil,or_false]at hc;rcases hc with rfl|rfl
 ·exact a6K
 ·exact a3s
theorem d4a:CoOK Try.prog e3J:=by
 refine b3N e2Y Try.func70 d7E [.i .i64 2] (pL 2 pN) _ rfl rfl 2 3 (c9r pN 2) lMu (fun q hq=>by rw[List.mem_singleton.1 hq];rfl) (fun q hq=>by simp only[lin,List.mem_cons,List.not_mem_nil,or_false]at hq;rcases hq with rfl|rfl|rfl<;>rfl) ?_ (fun s a q hq σ hi=> ?_) (fun s a h0 h1 mx q hq σ ht hi=> ?_)
 ·intro s a h0 h1 mx;show wp _ d3f _ _;unfold d3f;refine a0C ?_;show Go _ _ lin _ _ _ _ _ 2 _ (.goto 1001001 [.i .i64 2,.s s,.i .i64 a,.b false]);refine a2p (s:=s) (a:=a) b0C rfl rfl (bd0 rfl) rfl ⟨h0,h1,rfl⟩ (fun hn=>by simp only[pL,hn,Option.bind_none]) fun m r a1 l1 u1 q1 A1=> ?_;show wp _ a5f _ _;unfold a5f;refine a0w (fun h=>a0C ?_) fun h=>a0C ?_
  ·have h:2<m:=h;show Go _ _ lin _ _ _ _ _ 1 _ (.goto 1002003 [.i .i64 m,.s s,.i .i64 a1,.b false,.b false]);exact a1e (f:=false) a5h rfl rfl (bd0 rfl) rfl (fun _=>by simp only[pL,l1,Option.bind_some,List.getD_cons_zero,a0D];rw[if_neg (by omega)]) fun h=>by cases h
  ·have h:m≤2:=h;show Go _ _ lin _ _ _ _ _ 1 _ (.goto 1002003 [.i .i64 m,.s s,.i .i64 a1,.b false,.b true]);refine a1e (f:=true) a5h rfl rfl (bd0 rfl) rfl (fun h=>by cases h) fun _=> ?_;show wp _ a5e _ _;unfold a5e;refine a0C ?_;have em:m=((m.toNat:Nat):Int):=by omega
   refine⟨⟨m.toNat,[],r,a1,r,true,by omega,Nat.zero_le _,A1,by rw[←em];exact l1,rfl,(fun _=>rfl),by rw[←em];rfl⟩, ?_⟩;show(m-0).toNat<_;omega
 ·simp only[lin,List.mem_singleton]at hq;subst hq;obtain⟨n,es,l,a',r0,f,hn,hk,_,_,_,_,rfl⟩:=hi;intro q j jn ts et n' hq;rcases q with _|_|_|q<;>simp[d1R]at hq;obtain⟨rfl,rfl,rfl,rfl,rfl⟩:=hq;show(es.length:Int)≤2;omega
 ·simp only[lin,List.mem_singleton]at hq;subst hq;obtain⟨n,es,l,a',r0,f,hn,hk,A,hp0,hp,hf,rfl⟩:=hi
  have em:lMu 0 [.i .i64 n,.s s,.i .i64 a',.b false,.w es,.b f,.i .i64 es.length]=n-es.length:=by show((n:Int)-(es.length:Int)).toNat=_;omega
  rw[em]
  have step:es.length<n→Go (Cs []) (Dso [b4Q,a5G]) lin (RR s a (pL 2 pN)) (pL 2 pN (rest s a)=none) a0X (c9r pN 2 s a) lMu 2 (n-es.length) (.goto 1006002 [.i .i64 n,.s s,.i .i64 a',.b false,.i .i64 es.length,.w es,.b f]):=fun hlt=>by
   have bd:b1a a5g [.i .i64 n,.s s,.i .i64 a',.b false,.i .i64 es.length,.w es,.b f]:=by intro q j jn ts et n' hq;rcases q with _|_|_|q<;>simp[a5g]at hq;obtain⟨rfl,rfl,rfl,rfl,rfl⟩:=hq;show(es.length:Int)≤2;omega
   refine a2p (s:=s) (a:=a') b0B rfl rfl bd rfl A (fun hn'=>b4u hp0 hn hp hn' (by omega)) fun x0 r a2 l2 u1 u2 A2=> ?_;have l2:pN l=some (erL [.i .i64 x0],r):=l2;show wp _ a5d _ _;unfold a5d;refine a3d (fun hf'=>a1F (a0C ?_)) fun hf'=>a1F (a0C ?_)
   ·have hf':f=true:=hf';obtain rfl:=hf hf';exact b0L (x:=[.i .i64 x0]) hn hlt hp0 hp l2 A2 rfl (by decide)
   ·exact b0L (x:=[.i .i64 x0]) hn hlt hp0 hp l2 A2 rfl (by decide)
  show wp _ c6r _ _;unfold c6r;have fin:(n:Int)≤es.length→pL 2 pN (rest s a)=some ([.l (.bool false) (erLL es)],l):=fun h=>c6C hp0 hn (by rw[show((n:Int)).toNat=es.length by omega];exact hp);refine a3d (fun hf'=>a0w (fun h=>a0C ?_) fun h=>a0c ?_) fun hf'=>a0w (fun h=>a0C ?_) fun h=>a0c ?_
  ·have h:(es.length:Int)<n:=h;have hf':f=true:=hf';subst hf';obtain rfl:=hf rfl;exact step (by omega)
  ·have h:(n:Int)≤es.length:=h;have hf':f=true:=hf';obtain rfl:=hf hf';exact⟨[.l (.slice none 0 0) []],_,l,a',rfl,fin h,rfl,A⟩
  ·have h:(es.length:Int)<n:=h;have hf':f=false:=hf';subst hf';have:=step (by omega);show Go _ _ lin _ _ _ _ _ 2 _ (.goto 1006002 [.i .i64 n,.s s,.i .i64 a',.b false,.i .i64 es.length,.w (es++ []),.b false]);rw[List.append_nil];exact this
  ·have h:(n:Int)≤es.length:=h;intro v;show RR s a _ (.l v (es++ [])::st3 s a' false);rw[List.append_nil];exact⟨[.l v es],_,l,a',rfl,fin h,rfl,A⟩
theorem e2X: ∀c∈ [b4Q,a5G,d9k],CoOK Try.prog c:=by
 intro c hc;simp only[List.mem_cons,List.not_mem_nil,or_false]at hc;rcases hc with rfl|rfl|rfl
 ·exact a6K
 ·exact a3s
 ·exact d4f
theorem d4b:CoOK Try.prog e3K:=by
 refine b3N e2X Try.func71 d7H [.i .i64 32] (pL 32 b4v) _ rfl rfl 2 33 (c9r b4v 32) lMu (fun q hq=>by rw[List.mem_singleton.1 hq];rfl) (fun q hq=>by simp only[lco,List.mem_cons,List.not_mem_nil,or_false]at hq;rcases hq with rfl|rfl|rfl<;>rfl) ?_ (fun s a q hq σ hi=> ?_) (fun s a h0 h1 mx q hq σ ht hi=> ?_)
 ·intro s a h0 h1 mx;show wp _ d3i _ _;unfold d3i;refine a0C ?_;show Go _ _ lco _ _ _ _ _ 2 _ (.goto 1001001 [.i .i64 32,.s s,.i .i64 a,.b false]);refine a2p (s:=s) (a:=a) b0F rfl rfl (bd0 rfl) rfl ⟨h0,h1,rfl⟩ (fun hn=>by simp only[pL,hn,Option.bind_none]) fun m r a1 l1 u1 q1 A1=> ?_;show wp _ a5l _ _;unfold a5l;refine a0w (fun h=>a0C ?_) fun h=>a0C ?_
  ·have h:32<m:=h;show Go _ _ lco _ _ _ _ _ 1 _ (.goto 1002003 [.i .i64 m,.s s,.i .i64 a1,.b false,.b false]);exact a1e (f:=false) a5n rfl rfl (bd0 rfl) rfl (fun _=>by simp only[pL,l1,Option.bind_some,List.getD_cons_zero,a0D];rw[if_neg (by omega)]) fun h=>by cases h
  ·have h:m≤32:=h;show Go _ _ lco _ _ _ _ _ 1 _ (.goto 1002003 [.i .i64 m,.s s,.i .i64 a1,.b false,.b true]);refine a1e (f:=true) a5n rfl rfl (bd0 rfl) rfl (fun h=>by cases h) fun _=> ?_;show wp _ a5k _ _;unfold a5k;refine a0C ?_;have em:m=((m.toNat:Nat):Int):=by omega
   refine⟨⟨m.toNat,[],r,a1,r,true,by omega,Nat.zero_le _,A1,by rw[←em];exact l1,rfl,(fun _=>rfl),by rw[←em];rfl⟩, ?_⟩;show(m-0).toNat<_;omega
 ·simp only[lco,List.mem_singleton]at hq;subst hq;obtain⟨n,es,l,a',r0,f,hn,hk,_,_,_,_,rfl⟩:=hi;intro q j jn ts et n' hq;rcases q with _|_|_|q<;>simp[d1S]at hq;obtain⟨rfl,rfl,rfl,rfl,rfl⟩:=hq;show(es.length:Int)≤32;omega
 ·simp only[lco,List.mem_singleton]at hq;subst hq;obtain⟨n,es,l,a',r0,f,hn,hk,A,hp0,hp,hf,rfl⟩:=hi
  have em:lMu 0 [.i .i64 n,.s s,.i .i64 a',.b false,.w es,.b f,.i .i64 es.length]=n-es.length:=by show((n:Int)-(es.length:Int)).toNat=_;omega
  rw[em]
  have step:es.length<n→Go (Cs []) (Dso [b4Q,a5G,d9k]) lco (RR s a (pL 32 b4v)) (pL 32 b4v (rest s a)=none) a0X (c9r b4v 32 s a) lMu 2 (n-es.length) (.goto 1006002 [.i .i64 n,.s s,.i .i64 a',.b false,.i .i64 es.length,.w es,.b f]):=fun hlt=>by
   have bd:b1a a5m [.i .i64 n,.s s,.i .i64 a',.b false,.i .i64 es.length,.w es,.b f]:=by intro q j jn ts et n' hq;rcases q with _|_|_|q<;>simp[a5m]at hq;obtain⟨rfl,rfl,rfl,rfl,rfl⟩:=hq;show(es.length:Int)≤32;omega
   refine c0k (s:=s) (a:=a') b0E rfl rfl bd rfl A (fun hn'=>b4u hp0 hn hp hn' (by omega)) fun x y r a2 l2 hy hx A2=> ?_;subst hy;have k0:TyL [(.i .i64),(.i .i64),(.i .i64)] x:=hx;obtain⟨g0,z0,rfl,t0,k1⟩:=tyC k0;obtain⟨x0,rfl,_⟩:=a0a t0;obtain⟨g1,z1,rfl,t1,k2⟩:=tyC k1;obtain⟨x1,rfl,_⟩:=a0a t1;obtain⟨g2,z2,rfl,t2,k3⟩:=tyC k2;obtain⟨x2,rfl,_⟩:=a0a t2;obtain rfl:=tyN k3;show wp _ a5j _ _;unfold a5j;refine a3d (fun hf'=>a1F (a0C ?_)) fun hf'=>a1F (a0C ?_)
   ·have hf':f=true:=hf';obtain rfl:=hf hf';exact b0L (x:=[.i .i64 x0,.i .i64 x1,.i .i64 x2]) hn hlt hp0 hp l2 A2 rfl (by decide)
   ·exact b0L (x:=[.i .i64 x0,.i .i64 x1,.i .i64 x2]) hn hlt hp0 hp l2 A2 rfl (by decide)
  show wp _ c6w _ _;unfold c6w;have fin:(n:Int)≤es.length→pL 32 b4v (rest s a)=some ([.l (.bool false) (erLL es)],l):=fun h=>c6C hp0 hn (by rw[show((n:Int)).toNat=es.length by omega];exact hp);refine a3d (fun hf'=>a0w (fun h=>a0C ?_) fun h=>a0c ?_) fun hf'=>a0w (fun h=>a0C ?_) fun h=>a0c ?_
  ·have h:(es.length:Int)<n:=h;have hf':f=true:=hf';subst hf';obtain rfl:=hf rfl;exact step (by omega)
  ·have h:(n:Int)≤es.length:=h;have hf':f=true:=hf';obtain rfl:=hf hf';exact⟨[.l (.slice none 0 0) []],_,l,a',rfl,fin h,rfl,A⟩
  ·have h:(es.length:Int)<n:=h;have hf':f=false:=hf';subst hf';have:=step (by omega);show Go _ _ lco _ _ _ _ _ 2 _ (.goto 1006002 [.i .i64 n,.s s,.i .i64 a',.b false,.i .i64 es.length,.w (es++ []),.b false]);rw[List.append_nil];exact this
  ·have h:(n:Int)≤es.length:=h;intro v;show RR s a _ (.l v (es++ [])::st3 s a' false);rw[List.append_nil];exact⟨[.l v es],_,l,a',rfl,fin h,rfl,A⟩
theorem e2W: ∀c∈e2S,CoOK Try.prog c:=by
 intro c hc;simp only[e2S,List.mem_cons,List.not_mem_nil,or_false]at hc;rcases hc with rfl|rfl|rfl|rfl|rfl|rfl
 ·exact a6K
 ·exact a3s
 ·exact c7p
 ·exact d4a
 ·exact d4b
 ·exact c7m
theorem d4p:CoOK Try.prog d9o:=by
 refine b3N e2W Try.func51 d8Z [] pAb _ rfl rfl 11 0 (fun _ _ _ _=>False) (fun _ _=>0) (fun q hq=>by cases hq) (fun q hq=>by simp only[abi,List.mem_cons,List.not_mem_nil,or_false]at hq;rcases hq with rfl|rfl|rfl|rfl|rfl|rfl|rfl|rfl|rfl|rfl|rfl<;>rfl) ?_ (fun _ _ q hq=>by cases hq) (fun _ _ _ _ _ q hq=>by cases hq);intro s a h0 h1 mx;show wp _ d5I _ _;unfold d5I;refine a0C ?_;show Go _ _ abi _ _ _ _ _ 11 0 (.goto 1001001 [.s s,.i .i64 a,.b false]);refine a2p (s:=s) (a:=a) b0s rfl rfl (bd0 rfl) rfl ⟨h0,h1,rfl⟩ (fun hn=>by simp only[pAb,hn,Option.bind_none]) fun m1 r1 a1 l1 u1 q1 A1=> ?_;refine a0C ?_;show Go _ _ abi _ _ _ _ _ 10 0 (.goto 1001003 [.i .i64 m1,.s s,.i .i64 a1,.b false]);refine a2p (s:=s) (a:=a1) b0r rfl rfl (bd0 rfl) rfl A1 (fun hn=>by simp only[pAb,l1,hn,Option.bind_some,Option.bind_none]) fun m2 r2 a2 l2 u2 q2 A2=> ?_;refine a0C ?_;show Go _ _ abi _ _ _ _ _ 9 0 (.goto 1001005 [.i .i64 m1,.i .i64 m2,.s s,.i .i64 a2,.b false]);refine a2p (s:=s) (a:=a2) b0q rfl rfl (bd0 rfl) rfl A2 (fun hn=>by simp only[pAb,l1,l2,hn,Option.bind_some,Option.bind_none]) fun m3 r3 a3 l3 u3 q3 A3=> ?_;refine a0C ?_;show Go _ _ abi _ _ _ _ _ 8 0 (.goto 1001007 [.i .i64 m1,.i .i64 m2,.i .i64 m3,.s s,.i .i64 a3,.b false]);refine d1X (s:=s) (a:=a3) b0p rfl rfl (bd0 rfl) rfl A3 (fun hn=>by simp only[pAb,l1,l2,l3,hn,Option.bind_some,Option.bind_none]) fun x4 y4 z4 w4 r4 a4 l4 A4=> ?_;refine a0C ?_;show Go _ _ abi _ _ _ _ _ 7 0 (.goto 1002001 [.s s,.i .i64 a4,.b false,.i .i64 m1,.i .i64 m2,.i .i64 m3,.i .i64 x4,.i .i64 y4,.i .i64 z4,.i .i64 w4]);refine a2p (s:=s) (a:=a4) b0o rfl rfl (bd0 rfl) rfl A4 (fun hn=>by simp only[pAb,l1,l2,l3,l4,hn,Option.bind_some,Option.bind_none]) fun m5 r5 a5 l5 u5 q5 A5=> ?_;refine a0w (fun h=>a0C ?_) fun h=>a0C ?_
 ·have h:1<m5:=h;show Go _ _ abi _ _ _ _ _ 6 0 (.goto 1003002 [.i .i64 m5,.s s,.i .i64 a5,.b false,.i .i64 m1,.i .i64 m2,.i .i64 m3,.i .i64 x4,.i .i64 y4,.i .i64 z4,.i .i64 w4,.b false]);exact a1e (f:=false) a6S rfl rfl (bd0 rfl) rfl (fun _=>by simp only[pAb,l1,l2,l3,l4,l5,Option.bind_some,List.getD_cons_zero,a0D];rw[if_neg (by omega)]) fun h=>by cases h
 have h:m5≤1:=h;show Go _ _ abi _ _ _ _ _ 6 0 (.goto 1003002 [.i .i64 m5,.s s,.i .i64 a5,.b false,.i .i64 m1,.i .i64 m2,.i .i64 m3,.i .i64 x4,.i .i64 y4,.i .i64 z4,.i .i64 w4,.b true]);refine a1e (f:=true) a6S rfl rfl (bd0 rfl) rfl (fun h=>by cases h) fun _=> ?_
 suffices key: ∀f:Bool,decide (m5=1)=f→Go _ _ abi _ _ _ _ _ 5 0 (.goto 1005003 [.s s,.i .i64 a5,.b false,.i .i64 m1,.i .i64 m2,.i .i64 m3,.i .i64 x4,.i .i64 y4,.i .i64 z4,.i .i64 w4,.b f])from a0r (fun h=>a0C (key true (decide_eq_true h))) fun h=>a0C (key false (decide_eq_false h))
 intro f hf;show Go _ _ abi _ _ _ _ _ 5 0 (.goto 1005003 [.s s,.i .i64 a5,.b false,.i .i64 m1,.i .i64 m2,.i .i64 m3,.i .i64 x4,.i .i64 y4,.i .i64 z4,.i .i64 w4,.b f]);refine c7N (s:=s) (a:=a5) rfl b0n rfl rfl (bd0 rfl) rfl A5 (fun hn=>by simp only[pAb,l1,l2,l3,l4,l5,if_pos h,List.getD_cons_zero,a0D,hf,hn,Option.bind_some,Option.bind_none]) fun v6 es6 r6 a6 l6 t6 A6=> ?_;refine a0C ?_;show Go _ _ abi _ _ _ _ _ 4 0 (.goto 1006003 [.s s,.i .i64 a6,.b false,.i .i64 m1,.i .i64 m2,.i .i64 m3,.i .i64 x4,.i .i64 y4,.i .i64 z4,.i .i64 w4,.b f,.l v6 es6]);refine c7N (s:=s) (a:=a6) rfl b0m rfl rfl (bd0 rfl) rfl A6 (fun hn=>by simp only[pAb,l1,l2,l3,l4,l5,if_pos h,List.getD_cons_zero,a0D,hf,l6,hn,Option.bind_some,Option.bind_none]) fun v7 es7 r7 a7 l7 t7 A7=> ?_;refine a0C ?_;show Go _ _ abi _ _ _ _ _ 3 0 (.goto 1007001 [.s s,.i .i64 a7,.b false,.i .i64 m1,.i .i64 m2,.i .i64 m3,.i .i64 x4,.i .i64 y4,.i .i64 z4,.i .i64 w4,.b f,.l v6 es6,.l v7 es7]);refine a2p (s:=s) (a:=a7) b0l rfl rfl (bd0 rfl) rfl A7 (fun hn=>by simp only[pAb,l1,l2,l3,l4,l5,if_pos h,List.getD_cons_zero,a0D,hf,l6,l7,hn,Option.bind_some,Option.bind_none]) fun m8 r8 a8 l8 u8 q8 A8=> ?_;refine a0C ?_;show Go _ _ abi _ _ _ _ _ 2 0 (.goto 1007003 [.i .i64 m8,.s s,.i .i64 a8,.b false,.i .i64 m1,.i .i64 m2,.i .i64 m3,.i .i64 x4,.i .i64 y4,.i .i64 z4,.i .i64 w4,.b f,.l v6 es6,.l v7 es7]);refine c2Y (s:=s) (a:=a8) b0k rfl rfl (bd0 rfl) rfl A8 (fun hn=>by simp only[pAb,l1,l2,l3,l4,l5,if_pos h,List.getD_cons_zero,a0D,hf,l6,l7,l8,hn,Option.bind_some,Option.bind_none]) fun m9 r9 a9 l9 A9=> ?_;refine a0C ?_;show Go _ _ abi _ _ _ _ _ 1 0 (.goto 1007005 [.i .i64 m8,.i .i64 m9,.s s,.i .i64 a9,.b false,.i .i64 m1,.i .i64 m2,.i .i64 m3,.i .i64 x4,.i .i64 y4,.i .i64 z4,.i .i64 w4,.b f,.l v6 es6,.l v7 es7]);refine c2Y (s:=s) (a:=a9) b0j rfl rfl (bd0 rfl) rfl A9 (fun hn=>by simp only[pAb,l1,l2,l3,l4,l5,if_pos h,List.getD_cons_zero,a0D,hf,l6,l7,l8,l9,hn,Option.bind_some,Option.bind_none]) fun m10 r10 a10 l10 A10=> ?_;refine a0c ?_;exact⟨[.i .i64 m1,.i .i64 m2,.i .i64 m3,.i .i64 x4,.i .i64 y4,.i .i64 z4,.i .i64 w4,.b f,.l v6 es6,.l v7 es7,.i .i64 m8,.i .i64 m9,.i .i64 m10],_,r10,a10,rfl,by simp only[pAb,l1,l2,l3,l4,l5,if_pos h,List.getD_cons_zero,a0D,hf,l6,l7,l8,l9,l10,List.cons_append,List.nil_append,Option.bind_some];rfl,rfl,A10⟩
theorem e2V: ∀c∈ [b4Q,a5G,d9o],CoOK Try.prog c:=by
 intro c hc;simp only[List.mem_cons,List.not_mem_nil,or_false]at hc;rcases hc with rfl|rfl|rfl
 ·exact a6K
 ·exact a3s
 ·exact d4p
theorem d4d:CoOK Try.prog e3L:=by
 refine b3N e2V Try.func50 d7J [.i .i64 4] (pL 4 pAb) _ rfl rfl 2 5 (c9r pAb 4) lMu (fun q hq=>by rw[List.mem_singleton.1 hq];rfl) (fun q hq=>by simp only[lab,List.mem_cons,List.not_mem_nil,or_false]at hq;rcases hq with rfl|rfl|rfl<;>rfl) ?_ (fun s a q hq σ hi=> ?_) (fun s a h0 h1 mx q hq σ ht hi=> ?_)
 ·intro s a h0 h1 mx;show wp _ d3l _ _;unfold d3l;refine a0C ?_;show Go _ _ lab _ _ _ _ _ 2 _ (.goto 1001001 [.i .i64 4,.s s,.i .i64 a,.b false]);refine a2p (s:=s) (a:=a) b0K rfl rfl (bd0 rfl) rfl ⟨h0,h1,rfl⟩ (fun hn=>by simp only[pL,hn,Option.bind_none]) fun m r a1 l1 u1 q1 A1=> ?_;show wp _ a5v _ _;unfold a5v;refine a0w (fun h=>a0C ?_) fun h=>a0C ?_
  ·have h:4<m:=h;show Go _ _ lab _ _ _ _ _ 1 _ (.goto 1002003 [.i .i64 m,.s s,.i .i64 a1,.b false,.b false]);exact a1e (f:=false) a5x rfl rfl (bd0 rfl) rfl (fun _=>by simp only[pL,l1,Option.bind_some,List.getD_cons_zero,a0D];rw[if_neg (by omega)]) fun h=>by cases h
  ·have h:m≤4:=h;show Go _ _ lab _ _ _ _ _ 1 _ (.goto 1002003 [.i .i64 m,.s s,.i .i64 a1,.b false,.b true]);refine a1e (f:=true) a5x rfl rfl (bd0 rfl) rfl (fun h=>by cases h) fun _=> ?_;show wp _ a5u _ _;unfold a5u;refine a0C ?_;have em:m=((m.toNat:Nat):Int):=by omega
   refine⟨⟨m.toNat,[],r,a1,r,true,by omega,Nat.zero_le _,A1,by rw[←em];exact l1,rfl,(fun _=>rfl),by rw[←em];rfl⟩, ?_⟩;show(m-0).toNat<_;omega
 ·simp only[lab,List.mem_singleton]at hq;subst hq;obtain⟨n,es,l,a',r0,f,hn,hk,_,_,_,_,rfl⟩:=hi;intro q j jn ts et n' hq;rcases q with _|_|_|q<;>simp[d1U]at hq;obtain⟨rfl,rfl,rfl,rfl,rfl⟩:=hq;show(es.length:Int)≤4;omega
 ·simp only[lab,List.mem_singleton]at hq;subst hq;obtain⟨n,es,l,a',r0,f,hn,hk,A,hp0,hp,hf,rfl⟩:=hi
  have em:lMu 0 [.i .i64 n,.s s,.i .i64 a',.b false,.w es,.b f,.i .i64 es.length]=n-es.length:=by show((n:Int)-(es.length:Int)).toNat=_;omega
  rw[em]
  have step:es.length<n→Go (Cs []) (Dso [b4Q,a5G,d9o]) lab (RR s a (pL 4 pAb)) (pL 4 pAb (rest s a)=none) a0X (c9r pAb 4 s a) lMu 2 (n-es.length) (.goto 1006002 [.i .i64 n,.s s,.i .i64 a',.b false,.i .i64 es.length,.w es,.b f]):=fun hlt=>by
   have bd:b1a a5w [.i .i64 n,.s s,.i .i64 a',.b false,.i .i64 es.length,.w es,.b f]:=by intro q j jn ts et n' hq;rcases q with _|_|_|q<;>simp[a5w]at hq;obtain⟨rfl,rfl,rfl,rfl,rfl⟩:=hq;show(es.length:Int)≤4;omega
   refine c0k (s:=s) (a:=a') b0J rfl rfl bd rfl A (fun hn'=>b4u hp0 hn hp hn' (by omega)) fun x y r a2 l2 hy hx A2=> ?_;subst hy;have k0:TyL [(.i .i64),(.i .i64),(.i .i64),(.i .i64),(.i .i64),(.i .i64),(.i .i64),.b,(.l [(.i .i64)]),(.l [(.i .i64),(.i .i64),(.i .i64)]),(.i .i64),(.i .i64),(.i .i64)] x:=hx;obtain⟨g0,z0,rfl,t0,k1⟩:=tyC k0;obtain⟨x0,rfl,_⟩:=a0a t0;obtain⟨g1,z1,rfl,t1,k2⟩:=tyC k1;obtain⟨x1,rfl,_⟩:=a0a t1;obtain⟨g2,z2,rfl,t2,k3⟩:=tyC k2;obtain⟨x2,rfl,_⟩:=a0a t2;obtain⟨g3,z3,rfl,t3,k4⟩:=tyC k3;obtain⟨x3,rfl,_⟩:=a0a t3;obtain⟨g4,z4,rfl,t4,k5⟩:=tyC k4;obtain⟨x4,rfl,_⟩:=a0a t4;obtain⟨g5,z5,rfl,t5,k6⟩:=tyC k5;obtain⟨x5,rfl,_⟩:=a0a t5;obtain⟨g6,z6,rfl,t6,k7⟩:=tyC k6;obtain⟨x6,rfl,_⟩:=a0a t6;obtain⟨g7,z7,rfl,t7,k8⟩:=tyC k7;obtain⟨x7,rfl⟩:=tyB t7;obtain⟨g8,z8,rfl,t8,k9⟩:=tyC k8;obtain⟨x8,y8,rfl,_⟩:=b3l t8;obtain⟨g9,z9,rfl,t9,k10⟩:=tyC k9;obtain⟨x9,y9,rfl,_⟩:=b3l t9;obtain⟨g10,z10,rfl,t10,k11⟩:=tyC k10;obtain⟨x10,rfl,_⟩:=a0a t10;obtain⟨g11,z11,rfl,t11,k12⟩:=tyC k11;obtain⟨x11,rfl,_⟩:=a0a t11;obtain⟨g12,z12,rfl,t12,k13⟩:=tyC k12;obtain⟨x12,rfl,_⟩:=a0a t12;obtain rfl:=tyN k13;show wp _ a5t _ _;unfold a5t;refine a3d (fun hf'=>a1F (a0C ?_)) fun hf'=>a1F (a0C ?_)
   ·have hf':f=true:=hf';obtain rfl:=hf hf';exact b0L (x:=[.i .i64 x0,.i .i64 x1,.i .i64 x2,.i .i64 x3,.i .i64 x4,.i .i64 x5,.i .i64 x6,.b x7,.l x8 y8,.l x9 y9,.i .i64 x10,.i .i64 x11,.i .i64 x12]) hn hlt hp0 hp l2 A2 rfl (by decide)
   ·exact b0L (x:=[.i .i64 x0,.i .i64 x1,.i .i64 x2,.i .i64 x3,.i .i64 x4,.i .i64 x5,.i .i64 x6,.b x7,.l x8 y8,.l x9 y9,.i .i64 x10,.i .i64 x11,.i .i64 x12]) hn hlt hp0 hp l2 A2 rfl (by decide)
  show wp _ c6y _ _;unfold c6y;have fin:(n:Int)≤es.length→pL 4 pAb (rest s a)=some ([.l (.bool false) (erLL es)],l):=fun h=>c6C hp0 hn (by rw[show((n:Int)).toNat=es.length by omega];exact hp);refine a3d (fun hf'=>a0w (fun h=>a0C ?_) fun h=>a0c ?_) fun hf'=>a0w (fun h=>a0C ?_) fun h=>a0c ?_
  ·have h:(es.length:Int)<n:=h;have hf':f=true:=hf';subst hf';obtain rfl:=hf rfl;exact step (by omega)
  ·have h:(n:Int)≤es.length:=h;have hf':f=true:=hf';obtain rfl:=hf hf';exact⟨[.l (.slice none 0 0) []],_,l,a',rfl,fin h,rfl,A⟩
  ·have h:(es.length:Int)<n:=h;have hf':f=false:=hf';subst hf';have:=step (by omega);show Go _ _ lab _ _ _ _ _ 2 _ (.goto 1006002 [.i .i64 n,.s s,.i .i64 a',.b false,.i .i64 es.length,.w (es++ []),.b false]);rw[List.append_nil];exact this
  ·have h:(n:Int)≤es.length:=h;intro v;show RR s a _ (.l v (es++ [])::st3 s a' false);rw[List.append_nil];exact⟨[.l v es],_,l,a',rfl,fin h,rfl,A⟩
theorem e2U: ∀c∈e2R,CoOK Try.prog c:=by
 intro c hc;simp only[e2R,List.mem_cons,List.not_mem_nil,or_false]at hc;rcases hc with rfl|rfl|rfl|rfl|rfl|rfl
 ·exact a6K
 ·exact a3s
 ·exact c7p
 ·exact d0Y
 ·exact c1K
 ·exact d4d
theorem d4g:CoOK Try.prog d9l:=by
 refine b3N e2U Try.func30 d7k [] pCd _ rfl rfl 10 0 (fun _ _ _ _=>False) (fun _ _=>0) (fun q hq=>by cases hq) (fun q hq=>by simp only[crd,List.mem_cons,List.not_mem_nil,or_false]at hq;rcases hq with rfl|rfl|rfl|rfl|rfl|rfl|rfl|rfl|rfl|rfl<;>rfl) ?_ (fun _ _ q hq=>by cases hq) (fun _ _ _ _ _ q hq=>by cases hq);intro s a h0 h1 mx;show wp _ d4X _ _;unfold d4X;refine a0C ?_;show Go _ _ crd _ _ _ _ _ 10 0 (.goto 1001004 [.s s,.i .i64 a,.b false]);refine d7W (s:=s) (a:=a) b0d rfl rfl (bd0 rfl) rfl ⟨h0,h1,rfl⟩ (fun hn=> ?_) fun x1 r1 a1 l1 A1=> ?_
 ·refine a0C ?_;show Go _ _ crd _ _ _ _ _ 9 0 (.goto 1002004 [.s s,.i .i64 s.size,.b true,.s ⟨#[]⟩]);refine c3z (s:=s) (a:=s.size) (f:=true) a6J rfl rfl (bd0 rfl) rfl (a0C ?_);show Go _ _ crd _ _ _ _ _ 8 0 (.goto 1002005 [.b false,.s s,.i .i64 s.size,.b true,.s ⟨#[]⟩]);exact a1e (f:=false) a6I rfl rfl (bd0 rfl) rfl (fun _=>by simp only[pCd,hn,Option.bind_none]) fun h=>by cases h
 refine a0C ?_;show Go _ _ crd _ _ _ _ _ 9 0 (.goto 1002004 [.s s,.i .i64 a1,.b false,.s x1]);refine c3z (s:=s) (a:=a1) (f:=false) a6J rfl rfl (bd0 rfl) rfl (a0C ?_);show Go _ _ crd _ _ _ _ _ 8 0 (.goto 1002005 [.b true,.s s,.i .i64 a1,.b false,.s x1]);refine a1e (f:=true) a6I rfl rfl (bd0 rfl) rfl (fun h=>by cases h) fun _=> ?_;refine a0C ?_;show Go _ _ crd _ _ _ _ _ 7 0 (.goto 1003001 [.s s,.i .i64 a1,.b false,.s x1]);refine a2p (s:=s) (a:=a1) b0c rfl rfl (bd0 rfl) rfl A1 (fun hn=>by simp only[pCd,l1,hn,Option.bind_some,Option.bind_none]) fun m2 r2 a2 l2 u2 q2 A2=> ?_;refine a0C ?_;show Go _ _ crd _ _ _ _ _ 6 0 (.goto 1003003 [.i .i64 m2,.s s,.i .i64 a2,.b false,.s x1]);refine d1X (s:=s) (a:=a2) b0b rfl rfl (bd0 rfl) rfl A2 (fun hn=>by simp only[pCd,l1,l2,hn,Option.bind_some,Option.bind_none]) fun x3 y3 z3 w3 r3 a3 l3 A3=> ?_;refine a0C ?_;show Go _ _ crd _ _ _ _ _ 5 0 (.goto 1004001 [.s s,.i .i64 a3,.b false,.s x1,.i .i64 m2,.i .i64 x3,.i .i64 y3,.i .i64 z3,.i .i64 w3]);refine a2p (s:=s) (a:=a3) b0a rfl rfl (bd0 rfl) rfl A3 (fun hn=>by simp only[pCd,l1,l2,l3,hn,Option.bind_some,Option.bind_none]) fun m4 r4 a4 l4 u4 q4 A4=> ?_;refine a0C ?_;show Go _ _ crd _ _ _ _ _ 4 0 (.goto 1004003 [.i .i64 m4,.s s,.i .i64 a4,.b false,.s x1,.i .i64 m2,.i .i64 x3,.i .i64 y3,.i .i64 z3,.i .i64 w3]);refine a2p (s:=s) (a:=a4) b0Z rfl rfl (bd0 rfl) rfl A4 (fun hn=>by simp only[pCd,l1,l2,l3,l4,hn,Option.bind_some,Option.bind_none]) fun m5 r5 a5 l5 u5 q5 A5=> ?_;refine a0C ?_;show Go _ _ crd _ _ _ _ _ 3 0 (.goto 1004005 [.i .i64 m4,.i .i64 m5,.s s,.i .i64 a5,.b false,.s x1,.i .i64 m2,.i .i64 x3,.i .i64 y3,.i .i64 z3,.i .i64 w3]);refine a2p (s:=s) (a:=a5) b0Y rfl rfl (bd0 rfl) rfl A5 (fun hn=>by simp only[pCd,l1,l2,l3,l4,l5,hn,Option.bind_some,Option.bind_none]) fun m6 r6 a6 l6 u6 q6 A6=> ?_;refine a0C ?_;show Go _ _ crd _ _ _ _ _ 2 0 (.goto 1004007 [.i .i64 m4,.i .i64 m5,.i .i64 m6,.s s,.i .i64 a6,.b false,.s x1,.i .i64 m2,.i .i64 x3,.i .i64 y3,.i .i64 z3,.i .i64 w3]);refine a2p (s:=s) (a:=a6) b0X rfl rfl (bd0 rfl) rfl A6 (fun hn=>by simp only[pCd,l1,l2,l3,l4,l5,l6,hn,Option.bind_some,Option.bind_none]) fun m7 r7 a7 l7 u7 q7 A7=> ?_;refine a0C ?_;show Go _ _ crd _ _ _ _ _ 1 0 (.goto 1005003 [.s s,.i .i64 a7,.b false,.s x1,.i .i64 m2,.i .i64 x3,.i .i64 y3,.i .i64 z3,.i .i64 w3,.i .i64 m4,.i .i64 m5,.i .i64 m6,.i .i64 m7]);refine c7N (s:=s) (a:=a7) rfl b0W rfl rfl (bd0 rfl) rfl A7 (fun hn=>by simp only[pCd,l1,l2,l3,l4,l5,l6,l7,hn,Option.bind_some,Option.bind_none]) fun v8 es8 r8 a8 l8 t8 A8=> ?_;refine a0c ?_;exact⟨[.s x1,.i .i64 m2,.i .i64 x3,.i .i64 y3,.i .i64 z3,.i .i64 w3,.i .i64 m4,.i .i64 m5,.i .i64 m6,.i .i64 m7,.l v8 es8],_,r8,a8,rfl,by simp only[pCd,l1,l2,l3,l4,l5,l6,l7,l8,List.cons_append,List.nil_append,Option.bind_some];rfl,rfl,A8⟩
theorem d8n: ∀c∈ [b4Q,a5G,d9l],CoOK Try.prog c:=by
 intro c hc;simp only[List.mem_cons,List.not_mem_nil,or_false]at hc;rcases hc with rfl|rfl|rfl
 ·exact a6K
 ·exact a3s
 ·exact d4g
theorem d4c:CoOK Try.prog e4e:=by
 refine b3N d8n Try.func29 d7I [.i .i64 40] (pL 40 pCd) _ rfl rfl 2 41 (c9r pCd 40) lMu (fun q hq=>by rw[List.mem_singleton.1 hq];rfl) (fun q hq=>by simp only[lcd,List.mem_cons,List.not_mem_nil,or_false]at hq;rcases hq with rfl|rfl|rfl<;>rfl) ?_ (fun s a q hq σ hi=> ?_) (fun s a h0 h1 mx q hq σ ht hi=> ?_)
 ·intro s a h0 h1 mx;show wp _ d3j _ _;unfold d3j;refine a0C ?_;show Go _ _ lcd _ _ _ _ _ 2 _ (.goto 1001001 [.i .i64 40,.s s,.i .i64 a,.b false]);refine a2p (s:=s) (a:=a) b0H rfl rfl (bd0 rfl) rfl ⟨h0,h1,rfl⟩ (fun hn=>by simp only[pL,hn,Option.bind_none]) fun m r a1 l1 u1 q1 A1=> ?_;show wp _ a5q _ _;unfold a5q;refine a0w (fun h=>a0C ?_) fun h=>a0C ?_
  ·have h:40<m:=h;show Go _ _ lcd _ _ _ _ _ 1 _ (.goto 1002003 [.i .i64 m,.s s,.i .i64 a1,.b false,.b false]);exact a1e (f:=false) a5s rfl rfl (bd0 rfl) rfl (fun _=>by simp only[pL,l1,Option.bind_some,List.getD_cons_zero,a0D];rw[if_neg (by omega)]) fun h=>by cases h
  ·have h:m≤40:=h;show Go _ _ lcd _ _ _ _ _ 1 _ (.goto 1002003 [.i .i64 m,.s s,.i .i64 a1,.b false,.b true]);refine a1e (f:=true) a5s rfl rfl (bd0 rfl) rfl (fun h=>by cases h) fun _=> ?_;show wp _ a5p _ _;unfold a5p;refine a0C ?_;have em:m=((m.toNat:Nat):Int):=by omega
   refine⟨⟨m.toNat,[],r,a1,r,true,by omega,Nat.zero_le _,A1,by rw[←em];exact l1,rfl,(fun _=>rfl),by rw[←em];rfl⟩, ?_⟩;show(m-0).toNat<_;omega
 ·simp only[lcd,List.mem_singleton]at hq;subst hq;obtain⟨n,es,l,a',r0,f,hn,hk,_,_,_,_,rfl⟩:=hi;intro q j jn ts et n' hq;rcases q with _|_|_|q<;>simp[d1T]at hq;obtain⟨rfl,rfl,rfl,rfl,rfl⟩:=hq;show(es.length:Int)≤40;omega
 ·simp only[lcd,List.mem_singleton]at hq;subst hq;obtain⟨n,es,l,a',r0,f,hn,hk,A,hp0,hp,hf,rfl⟩:=hi
  have em:lMu 0 [.i .i64 n,.s s,.i .i64 a',.b false,.w es,.b f,.i .i64 es.length]=n-es.length:=by show((n:Int)-(es.length:Int)).toNat=_;omega
  rw[em]
  have step:es.length<n→Go (Cs []) (Dso [b4Q,a5G,d9l]) lcd (RR s a (pL 40 pCd)) (pL 40 pCd (rest s a)=none) a0X (c9r pCd 40 s a) lMu 2 (n-es.length) (.goto 1006002 [.i .i64 n,.s s,.i .i64 a',.b false,.i .i64 es.length,.w es,.b f]):=fun hlt=>by
   have bd:b1a a5r [.i .i64 n,.s s,.i .i64 a',.b false,.i .i64 es.length,.w es,.b f]:=by intro q j jn ts et n' hq;rcases q with _|_|_|q<;>simp[a5r]at hq;obtain⟨rfl,rfl,rfl,rfl,rfl⟩:=hq;show(es.length:Int)≤40;omega
   refine c0k (s:=s) (a:=a') b0G rfl rfl bd rfl A (fun hn'=>b4u hp0 hn hp hn' (by omega)) fun x y r a2 l2 hy hx A2=> ?_;subst hy;have k0:TyL [.s,(.i .i64),(.i .i64),(.i .i64),(.i .i64),(.i .i64),(.i .i64),(.i .i64),(.i .i64),(.i .i64),(.l [(.i .i64),(.i .i64),(.i .i64),(.i .i64),(.i .i64),(.i .i64),(.i .i64),.b,(.l [(.i .i64)]),(.l [(.i .i64),(.i .i64),(.i .i64)]),(.i .i64),(.i .i64),(.i .i64)])] x:=hx;obtain⟨g0,z0,rfl,t0,k1⟩:=tyC k0;obtain⟨x0,rfl,_⟩:=tyS t0;obtain⟨g1,z1,rfl,t1,k2⟩:=tyC k1;obtain⟨x1,rfl,_⟩:=a0a t1;obtain⟨g2,z2,rfl,t2,k3⟩:=tyC k2;obtain⟨x2,rfl,_⟩:=a0a t2;obtain⟨g3,z3,rfl,t3,k4⟩:=tyC k3;obtain⟨x3,rfl,_⟩:=a0a t3;obtain⟨g4,z4,rfl,t4,k5⟩:=tyC k4;obtain⟨x4,rfl,_⟩:=a0a t4;obtain⟨g5,z5,rfl,t5,k6⟩:=tyC k5;obtain⟨x5,rfl,_⟩:=a0a t5;obtain⟨g6,z6,rfl,t6,k7⟩:=tyC k6;obtain⟨x6,rfl,_⟩:=a0a t6;obtain⟨g7,z7,rfl,t7,k8⟩:=tyC k7;obtain⟨x7,rfl,_⟩:=a0a t7;obtain⟨g8,z8,rfl,t8,k9⟩:=tyC k8;obtain⟨x8,rfl,_⟩:=a0a t8;obtain⟨g9,z9,rfl,t9,k10⟩:=tyC k9;obtain⟨x9,rfl,_⟩:=a0a t9;obtain⟨g10,z10,rfl,t10,k11⟩:=tyC k10;obtain⟨x10,y10,rfl,_⟩:=b3l t10;obtain rfl:=tyN k11;show wp _ a5o _ _;unfold a5o;refine a3d (fun hf'=>a1F (a0C ?_)) fun hf'=>a1F (a0C ?_)
   ·have hf':f=true:=hf';obtain rfl:=hf hf';exact b0L (x:=[.s x0,.i .i64 x1,.i .i64 x2,.i .i64 x3,.i .i64 x4,.i .i64 x5,.i .i64 x6,.i .i64 x7,.i .i64 x8,.i .i64 x9,.l x10 y10]) hn hlt hp0 hp l2 A2 rfl (by decide)
   ·exact b0L (x:=[.s x0,.i .i64 x1,.i .i64 x2,.i .i64 x3,.i .i64 x4,.i .i64 x5,.i .i64 x6,.i .i64 x7,.i .i64 x8,.i .i64 x9,.l x10 y10]) hn hlt hp0 hp l2 A2 rfl (by decide)
  show wp _ c6x _ _;unfold c6x;have fin:(n:Int)≤es.length→pL 40 pCd (rest s a)=some ([.l (.bool false) (erLL es)],l):=fun h=>c6C hp0 hn (by rw[show((n:Int)).toNat=es.length by omega];exact hp);refine a3d (fun hf'=>a0w (fun h=>a0C ?_) fun h=>a0c ?_) fun hf'=>a0w (fun h=>a0C ?_) fun h=>a0c ?_
  ·have h:(es.length:Int)<n:=h;have hf':f=true:=hf';subst hf';obtain rfl:=hf rfl;exact step (by omega)
  ·have h:(n:Int)≤es.length:=h;have hf':f=true:=hf';obtain rfl:=hf hf';exact⟨[.l (.slice none 0 0) []],_,l,a',rfl,fin h,rfl,A⟩
  ·have h:(es.length:Int)<n:=h;have hf':f=false:=hf';subst hf';have:=step (by omega);show Go _ _ lcd _ _ _ _ _ 2 _ (.goto 1006002 [.i .i64 n,.s s,.i .i64 a',.b false,.i .i64 es.length,.w (es++ []),.b false]);rw[List.append_nil];exact this
  ·have h:(n:Int)≤es.length:=h;intro v;show RR s a _ (.l v (es++ [])::st3 s a' false);rw[List.append_nil];exact⟨[.l v es],_,l,a',rfl,fin h,rfl,A⟩
end
end Go.Proofs.Ytmmmknhdigapkaa.poolCut
