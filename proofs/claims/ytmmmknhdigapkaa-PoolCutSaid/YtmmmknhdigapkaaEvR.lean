/- Engine, part R: regions that draw their order: the steps. -/
import Derived.Test.YtmmmknhdigapkaaEvQ
namespace Go.Ev
section
variable{C:Ctx}{done rest:List Nat}{a:VT}{H:VH}{pd:List Nat}{L:Array Bool}{act actg:Act}{w:World}{φ:Phi}{bl:Nat→Nat}
theorem a6c{nt:Nat}(hb:nt≤top){all:List Oper}{o:Oper}{a a₁:VT}{d:Option Nat}{v:VV}(h:a5T nt a d v=some a₁)(hn: ∀t,d=some t→t∉looks all o):SameV all o a a₁:=by intro t ht;rw[a3R hb h];rw[if_neg (fun e=>hn t e ht)]
theorem Told.step{o:Oper}{i:Nat}{a₁:VT}{pd₁:List Nat}{H₁:VH}(h:Told C a H pd i o)(hs:SameV C.all o a a₁)(hd: ∀d,o.dst=some d→a1I a₁ d=a1I a d)(hp:i∈pd→i∈pd₁)(hb:H₁.base=H.base)
  (hH:cls C.P o.op=0∨(i∈pd→still C.P a H₁ o=true)∨H₁=H):Told C a₁ H₁ pd₁ i o:=by
 obtain⟨h0,h⟩:=h;refine⟨by rw[←hs.gOk];exact h0, ?_⟩;rcases h with⟨h1,h2⟩|⟨h1,v,h2,h3,h4⟩
 ·exact .inl ⟨by rw[←hs.wanted];exact h1,fun d hdd=>by rw[hd d hdd];exact h2 d hdd⟩
 ·refine .inr ⟨by rw[←hs.wanted];exact h1, ?_⟩
  have case0:cls C.P o.op=0→ ∃v,(evR C.P o.op a₁ H₁).get=some v∧(∀d,o.dst=some d→a1I a₁ d=v)∧(cls C.P o.op=0∨i∈pd₁):=fun h0=>⟨v,by rw[←hs.evR,d0F hb h0];exact h2,fun d hdd=>by rw[hd d hdd];exact h3 d hdd,.inl h0⟩
  rcases hH with h0|hH|rfl
  ·exact case0 h0
  ·rcases h4 with h0|h4
   ·exact case0 h0
   ·obtain⟨u,k1,k2⟩:=c3g (hH h4);exact⟨u,by rw[←hs.evR];exact k1,fun d hdd=>by rw[hd d hdd];exact k2 d hdd,.inr (hp h4)⟩
  ·exact⟨v,by rw[←hs.evR];exact h2,fun d hdd=>by rw[hd d hdd];exact h3 d hdd,h4.imp id hp⟩
theorem Inv.advR1[Ext](ok:C.Ok){i:Nat}(I:Inv C done (i::rest) a H pd L act actg w φ bl)(hk:a1D C.ks i= .r){o:Oper}(ho:a0H C.all i=some o){v:VV}{v':Value}(hv:VR φ v v'){a₁:VT}(hp:a5T C.nt a o.dst v=some a₁){pd₁:List Nat}
  (hrun:a8o C.P C.fe C.nt C.all C.ks C.ms C.H0.base C.ld rest a₁ H pd₁=some C.res) (hpd: ∀x∈pd,x∈pd₁) (ht:SameV C.all o a a₁→Told C a₁ H pd₁ i o):Inv C (i::done) rest a₁ H pd₁ L act (actg.put o.dst v') w φ bl:=by
 have hL:Lb L i=false:=by
  cases h:Lb L i with
  |false=>rfl
  |true=>have:=I.early i (by simp) h;rw[hk]at this;cases this
 obtain⟨o',ho',hnd,hed,_,_,hord⟩:=a0j I.ord;rw[ho]at ho';cases ho';have hno: ∀k∈done,∀d,o.dst=some d→d∉a0u C.all k∧a1H C.all k≠some d:=fun k hkd d hd=>I.nohit ok hnd hkd (by rw[a0E ho];exact hd) (.inl (by rw[hk];simp));obtain⟨p1,p2,p3⟩:=a2a I.tr (by rw[I.sz2];exact ok.sz) ok.nt hv hp;refine⟨hrun,hord, ?_, ?_, ?_,I.Lsz,I.Lcl, ?_, ?_,p1,I.sz1,by rw[p2];exact I.sz2,I.defs, ?_, ?_, ?_,fun g og m h1 h2 h3 ⟨z,h4,h5⟩=>I.maps g og m h1 h2 h3 ⟨z,h4,List.mem_cons_of_mem _ h5⟩, ?_,I.lval,I.sim,I.st,I.base⟩
 ·intro j hj;rcases I.cov j hj with h|h
  ·exact .inl (by simp[h])
  ·rcases List.mem_cons.1 h with rfl|h
   ·exact .inl (by simp)
   ·exact .inr h
 ·intro j hj;rcases List.mem_cons.1 hj with rfl|hj
  ·exact⟨o,ho⟩
  ·exact I.dlt j hj
 ·intro j oj hj hoj e he hb;rcases List.mem_cons.1 hj with rfl|hj
  ·rw[ho]at hoj;cases hoj;exact List.mem_cons_of_mem _ (hed e he hb)
  ·exact List.mem_cons_of_mem _ (I.closed j oj hj hoj e he hb)
 ·exact fun j hj=>I.early j (List.mem_cons_of_mem _ hj)
 ·intro j hj hq;rcases List.mem_cons.1 hj with rfl|hj
  ·exact hk
  ·exact I.late j hj hq
 ·intro t h
  have hne:o.dst≠some t:=fun e=>by have:=(h i (by rw[a0E ho];exact e)).1 (by simp);rw[hL]at this;cases this
  rw[a0Y,if_neg (fun e=>hne e.1)];refine I.agree t fun x hx=>⟨fun hd=>(h x hx).1 (List.mem_cons_of_mem _ hd),fun hr=> ?_⟩;rcases List.mem_cons.1 hr with rfl|hr
  ·exact hL
  ·exact(h x hx).2 hr
 ·intro j oj hj hq hoj;rcases List.mem_cons.1 hj with rfl|hj
  ·rw[ho]at hoj;cases hoj;refine ht (a6c ok.nt hp fun t h=> ?_);have:=ok.pairs.self j t (a0M ho) (by rw[a0E ho];exact h) (by rw[hk];simp)
   rwa [a0Q ho]at this
  ·refine Told.step (I.reads j oj hj hq hoj) (a6c ok.nt hp fun t h=> ?_) (fun d hd=> ?_) (hpd j) rfl (.inr (.inr rfl))
   ·have:=(hno j hj t h).1
    rwa [a0Q hoj]at this
   ·rw[a3R ok.nt hp,if_neg];intro e;exact(hno j hj d e).2 (by rw[a0E hoj];exact hd)
 ·exact fun j oj hj hq hoj=>I.allocs j oj (List.mem_cons_of_mem _ hj) hq hoj
 ·exact fun x y hx hy=>I.dist x y hx.up hy.up
theorem Inv.advR[Ext](ok:C.Ok){i:Nat}(I:Inv C done (i::rest) a H pd L act actg w φ bl)(hk:a1D C.ks i= .r): ∃a₁ pd₁ actg₁,Inv C (i::done) rest a₁ H pd₁ L act actg₁ w φ bl:=by
 obtain⟨o,ho,_⟩:=a0j I.ord;obtain⟨h0,hc⟩:=a4S I.run ho;rcases hc with⟨h1,a₁,h2,h3⟩|⟨h1,h2,v,a₁,h3,h4,h5⟩|⟨_,h2,_⟩|⟨h2,_⟩|⟨h2,_⟩
 ·refine⟨a₁,pd,_,I.advR1 ok hk ho (a2R φ) h2 h3 (fun _ h=>h) fun hs=> ?_⟩;exact⟨by rw[←hs.gOk];exact h0,.inl ⟨by rw[←hs.wanted];exact h1,fun d hd=>by rw[a3R ok.nt h2,if_pos hd]⟩⟩
 ·obtain⟨v',k1,k2⟩:=a7n h3 (a8a (P:=C.P) I.tr I.sim o);refine⟨a₁,_,_,I.advR1 ok hk ho k2 h4 h5 (fun x hx=> ?_) fun hs=> ?_⟩
  ·split
   ·exact hx
   ·exact List.mem_cons_of_mem _ hx
  ·refine⟨by rw[←hs.gOk];exact h0,.inr ⟨by rw[←hs.wanted];exact h1,v,by rw[←hs.evR];exact h3,fun d hd=>by rw[a3R ok.nt h4,if_pos hd], ?_⟩⟩;split
   ·exact .inl (by assumption)
   ·exact .inr (by simp)
 ·rcases h2 with h2|⟨h2,_⟩<;>(rw[hk]at h2;cases h2)
 ·rw[hk]at h2;cases h2
 ·rw[hk]at h2;cases h2
theorem c6I{P:Program}{fe:FE}{op:Op}{a:VT}{H:VH}{v:VV}{H₁:VH}(hc:cls P op=2)(h:a3g P fe op a H=some (v,H₁)): ∃k o,a3h P op a=some (k,o)∧H.next<top∧v=k.vv H.next∧H₁=H.alloc o:=by
 have e:evE P op a H=c3r H (a3h P op a):=by
  cases op with
  |alloc t=>rfl
  |box t x=>rfl
  |buildSlice t n ps=>rfl
  |makeMap t r=>rfl
  |makeSlice t l c=>rfl
  |convert s d x=>simp only[cls]at hc;split at hc<;>cases hc
  |call c=>
   obtain⟨callee,args,ts⟩:=c;cases callee with
   |builtin bi=>cases bi<;>simp[cls]at hc
   |_=>simp[cls]at hc
  |_=>simp[cls]at hc
 simp only[a3g,hc,e]at h;cases hn:a3h P op a with
 |none=>rw[hn]at h;simp[c3r,Out.get]at h
 |some ko=>
  obtain⟨k,o⟩:=ko;rw[hn]at h;simp only[c3r]at h;cases hb:Nat.blt H.next top with
  |false=>rw[hb]at h;simp[Out.get]at h
  |true=>rw[hb]at h;simp only[Out.get,Option.some.injEq,Prod.mk.injEq]at h;exact⟨k,o,rfl,a0G hb,h.1.symm,h.2.symm⟩
theorem d3K{P:Program}{fe:FE}{op:Op}{a:VT}{H:VH}{v:VV}{H₁:VH}(hu:isU op=true)(h:a3g P fe op a H=some (v,H₁)):evU P op a=some v∧H₁=H:=by
 simp only[a3g,c7I hu]at h;rw[d4H hu]at h;cases he:evU P op a with
 |none=>rw[he]at h;cases h
 |some u=>rw[he]at h;simp only[Option.some.injEq,Prod.mk.injEq]at h;exact⟨by rw[h.1],h.2.symm⟩
theorem Early.mono{φ₁:Phi}{H₁:VH}{act₁:Act}{w₁:World}{b:Nat}{o:Oper}(h:Early C φ H act w b o)(hw:(∃ob,w.heap[b]? =some ob)→cls C.P o.op=2→a6x C.all o= []→(∀j inf,φ j=some inf→inf.blk≠b)→w₁.heap[b]? =w.heap[b]? ∧ ∀j inf,φ₁ j=some inf→inf.blk≠b)(ha: ∀d,o.dst=some d→act₁.tmps.getD d undef=act.tmps.getD d undef)(hb:H₁.base=H.base)
  (hop: ∀x∈o.op.operands,act₁.eval x=act.eval x):Early C φ₁ H₁ act₁ w₁ b o:=by
 rcases h with h|⟨ρe,h1,h2⟩
 ·exact .inl h
 ·by_cases hgr:a6x C.all o= []
  ·refine .inr ⟨ρe,fun x hx=>by rw[hop x hx];exact h1 x hx, ?_⟩;rcases h2 with⟨hc,k,obj,e1,e2,e3,e4,e5,e6,e7⟩|⟨hu,v',e1,e2⟩
   ·obtain⟨g1,g2⟩:=hw ⟨_,e2⟩ hc hgr e7;exact .inl ⟨hc,k,obj,e1,by rw[g1];exact e2,fun d hd=>by rw[ha d hd];exact e3 d hd,e4,e5,by rw[hb];exact e6,g2⟩
   ·exact .inr ⟨hu,v',e1,fun d hd=>by rw[ha d hd];exact e2 d hd⟩
  ·exact .inl (.inr hgr)
theorem Ents.mono{act act₁:Act}: ∀{l:List Nat} {es:List MapEntry},Ents C act l es→(∀x∈l,∀o,a0H C.all x=some o→ ∀y∈o.op.operands,act₁.eval y=act.eval y)→Ents C act₁ l es
 | [],es,h,_=>h
 |x::l,es,h,k=>by
  obtain⟨o,t,m,kk,v,e,es',h1,h2,h3,h4,h5,h6⟩:=h;have hk:=k x (by simp) o h1;refine⟨o,t,m,kk,v,e,es',h1,h2,h3, ?_, ?_,Ents.mono h6 fun y hy=>k y (by simp[hy])⟩
  ·rw[h4];exact(hk kk (by rw[h2];simp[Op.operands])).symm
  ·rw[h5];exact(hk v (by rw[h2];simp[Op.operands])).symm
theorem MapSt.mono{φ₁:Phi}{H₁:VH}{L₁:Array Bool}{act₁:Act}{w₁:World}{b m:Nat}(h:MapSt C φ H L act w b m)(hw:(∃ob,w.heap[b]? =some ob)→(∀j inf,φ j=some inf→inf.blk≠b)→w₁.heap[b]? =w.heap[b]? ∧ ∀j inf,φ₁ j=some inf→inf.blk≠b)(hL: ∀x∈a0o C.all m,Lb L₁ x=Lb L x)(ha:act₁.tmps.getD m undef=act.tmps.getD m undef)(hb:H₁.base=H.base)
  (hop: ∀x o,x∈a0o C.all m→Lb L x=true→a0H C.all x=some o→ ∀y∈o.op.operands,act₁.eval y=act.eval y):MapSt C φ₁ H₁ L₁ act₁ w₁ b m:=by
 obtain⟨l,es,c,h1,h2,h3,h4,h5,h6,h7,h8,h9⟩:=h;obtain⟨g1,g2⟩:=hw ⟨_,h1⟩ h9;refine⟨l,es,c,by rw[g1];exact h1,h2,fun x=> ?_,h4.mono fun x hx o ho=>hop x o ((h3 x).1 hx).1 ((h3 x).1 hx).2 ho,by rw[ha];exact h5,h6,h7,by rw[hb];exact h8,g2⟩;rw[h3 x];constructor
 ·rintro⟨k1,k2⟩;exact⟨k1,by rw[hL x k1];exact k2⟩
 ·rintro⟨k1,k2⟩;exact⟨k1,by rw[←hL x k1];exact k2⟩
theorem b5P{all:List Oper}{o:Oper}{m z:Nat}(hm:mkM o=some m)(hz:z∈a0o all m):a6x all o≠[]:=by unfold a6x;rw[hm];exact List.ne_nil_of_mem hz
theorem c3x{all:List Oper}{o:Oper}(h:a6x all o≠[]): ∃m,mkM o=some m∧a0o all m≠[]:=by
 unfold a6x at h;cases hm:mkM o with
 |none=>rw[hm]at h;exact absurd rfl h
 |some m=>rw[hm]at h;exact⟨m,rfl,h⟩
theorem a4i{act act₁:Act}{o:Oper}{all:List Oper}(h: ∀t∈looks all o,act₁.tmps.getD t undef=act.tmps.getD t undef): ∀x∈o.op.operands,act₁.eval x=act.eval x:=
 Same.eval (all:=all) (act:=act₁) (act':=act) h
theorem Inv.sameA[Ext](ok:C.Ok){i:Nat}(I:Inv C done (i::rest) a H pd L act actg w φ bl)(hk:a1D C.ks i= .a)(hL:Lb L i=true){o:Oper}(ho:a0H C.all i=some o):Same C.all o act actg:=by
 obtain⟨o',ho',hnd,hed,_,_,hord⟩:=a0j I.ord;rw[ho]at ho';cases ho';have hed': ∀o',a0H C.all i=some o'→ ∀e∈o'.after.toList,a1h e=true→e.on∈done:=fun o' ho'=>by rw[ho]at ho';cases ho';exact hed
 intro t ht;have ht':t∈a0u C.all i:=by rw[a0Q ho];exact ht
 refine I.agree t fun x hx=> ?_;have hr:=ok.pairs.wr i (a0M ho) hk x t hx ht';have hxL:=I.predL ok hr fun o' ho'=>I.Lcl i o' hL ho';refine⟨fun _=>hxL,fun hxr=> ?_⟩;exact absurd (I.predD ok hr hed') (I.apart hxr)
theorem Inv.advA1[Ext](ok:C.Ok){i:Nat}(I:Inv C done (i::rest) a H pd L act actg w φ bl)(hk:a1D C.ks i= .a)(hL:Lb L i=true){o:Oper}(ho:a0H C.all i=some o){v:VV}{v':Value}{φ₁:Phi}{H₁:VH}{a₁:VT}
  (hle:φ.le φ₁) (hv:VR φ₁ v v') (hs:HSim C.w0 φ₁ H₁ w) (hst:St C.φ0 C.ws φ₁ w) (hb:H₁.base=H.base) (hda: ∀d,o.dst=some d→act.tmps.getD d undef=v') (h5:a5T C.nt a o.dst v=some a₁) {pd₁:List Nat} (h6:a8o C.P C.fe C.nt C.all C.ks C.ms C.H0.base C.ld rest a₁ H₁ pd₁=some C.res)
  (hT: ∀j oj,a0H C.all j=some oj→rch C.ms j i=false→(j∈pd→j∈pd₁)∧(cls C.P oj.op=0∨(j∈pd→still C.P a H₁ oj=true)∨H₁=H))
  (hφ: ∀k inf,φ₁ k=some inf→φ k=some inf∨(Pend C (i::rest) L i∧a6x C.all o= []∧inf.blk=bl i)):Inv C (i::done) rest a₁ H₁ pd₁ L act (actg.put o.dst v') w φ₁ bl:=by
 obtain⟨o',ho',hnd,hed,hga,_,hord⟩:=a0j I.ord;rw[ho]at ho';cases ho';have hno: ∀k∈done,∀d,o.dst=some d→d∉a0u C.all k∧a1H C.all k≠some d:=fun k hkd d hd=>I.nohit ok hnd hkd (by rw[a0E ho];exact hd) (.inl (by rw[hk];simp));obtain⟨p1,p2,p3⟩:=a2a (act:=actg) (I.tr.mono hle) (by rw[I.sz2];exact ok.sz) ok.nt hv h5;have apt:=a4H hord;refine⟨h6,hord, ?_, ?_, ?_,I.Lsz,I.Lcl, ?_, ?_,p1,I.sz1,by rw[p2];exact I.sz2,I.defs, ?_, ?_, ?_, ?_, ?_, ?_,hs,hst,hb.trans I.base⟩
 ·intro j hj;rcases I.cov j hj with h|h
  ·exact .inl (by simp[h])
  ·rcases List.mem_cons.1 h with rfl|h
   ·exact .inl (by simp)
   ·exact .inr h
 ·intro j hj;rcases List.mem_cons.1 hj with rfl|hj
  ·exact⟨o,ho⟩
  ·exact I.dlt j hj
 ·intro j oj hj hoj e he hb;rcases List.mem_cons.1 hj with rfl|hj
  ·rw[ho]at hoj;cases hoj;exact List.mem_cons_of_mem _ (hed e he hb)
  ·exact List.mem_cons_of_mem _ (I.closed j oj hj hoj e he hb)
 ·exact fun j hj=>I.early j (List.mem_cons_of_mem _ hj)
 ·intro j hj hq;rcases List.mem_cons.1 hj with rfl|hj
  ·rw[hL]at hq;cases hq
  ·exact I.late j hj hq
 ·intro t' h;rw[a0Y]
  by_cases hd:o.dst=some t'
  ·have hlt:t'<actg.tmps.size:=by
    rcases b3r h5 with⟨q,_⟩|⟨u,q,hu,_⟩
    ·rw[q]at hd;cases hd
    ·rw[q]at hd;cases hd;rw[I.sz2];exact Nat.lt_of_lt_of_le hu ok.sz
   rw[if_pos ⟨hd,hlt⟩];exact hda t' hd
  ·rw[if_neg (fun e=>hd e.1)];refine I.agree t' fun x hx=>⟨fun hxd=>(h x hx).1 (List.mem_cons_of_mem _ hxd),fun hr=> ?_⟩;rcases List.mem_cons.1 hr with rfl|hr
   ·rw[a0E ho]at hx;exact absurd hx hd
   ·exact(h x hx).2 hr
 ·intro j oj hj hq hoj;rcases List.mem_cons.1 hj with rfl|hj
  ·rw[hL]at hq;cases hq
  ·have hrf:rch C.ms j i=false:=by
    cases hr:rch C.ms j i with
    |false=>rfl
    |true=>rw[I.predL ok hr (fun o' ho'=>I.Lcl i o' hL ho')]at hq;cases hq
   refine Told.step (I.reads j oj hj hq hoj) (a6c ok.nt h5 fun t h=> ?_) (fun d hd=> ?_) (hT j oj hoj hrf).1 hb (hT j oj hoj hrf).2
   ·have:=(hno j hj t h).1
    rwa [a0Q hoj]at this
   ·rw[a3R ok.nt h5,if_neg];intro e;exact(hno j hj d e).2 (by rw[a0E hoj];exact hd)
 ·intro j oj hj hq hoj;refine(I.allocs j oj (List.mem_cons_of_mem _ hj) hq hoj).mono (fun _ hc hgr hun=>⟨rfl,fun k inf hki=> ?_⟩) (fun _ _=>rfl) hb (fun _ _=>rfl);rcases hφ k inf hki with h|⟨hN,_,h⟩
  ·exact hun k inf h
  ·intro hbb;have:=I.dist i j hN ⟨hq,oj,hoj,.inl ⟨hc,hgr,List.mem_cons_of_mem _ hj⟩⟩ (by rw[←h,hbb]);subst this;exact(apt i hj).1 (by simp)
 ·intro g og m h1 h2 h3 ⟨z,h4,h5⟩;refine(I.maps g og m h1 h2 h3 ⟨z,h4,List.mem_cons_of_mem _ h5⟩).mono (fun _ hun=>⟨rfl,fun k inf hki=> ?_⟩) (fun _ _=>rfl) rfl hb (fun _ _ _ _ _ _ _=>rfl);rcases hφ k inf hki with h|⟨hN,hgr,h⟩
  ·exact hun k inf h
  ·intro hbb;have:=I.dist i g hN ⟨h3,og,h1,.inr ⟨m,h2,z,h4,List.mem_cons_of_mem _ h5⟩⟩ (by rw[←h,hbb]);subst this;rw[ho]at h1;cases h1;exact b5P h2 h4 hgr
 ·exact fun x y hx hy=>I.dist x y hx.up hy.up
 ·exact fun j oj hj hq hoj d hd=>(I.lval j oj hj hq hoj d hd).mono hle
theorem d3Q{w:World}{o o':Obj}(h:w.alloc o=w.alloc o'):o=o':=by have h1:(w.alloc o).heap[w.heap.size]? =some o:=a6Q;have h2:(w.alloc o').heap[w.heap.size]? =some o':=a6Q;rw[h,h2]at h1;cases h1;rfl
theorem Inv.advI[Ext](ok:C.Ok){i:Nat}(I:Inv C done (i::rest) a H pd L act actg w φ bl)(hk:a1D C.ks i= .a)(hL:Lb L i=true){o:Oper}(ho:a0H C.all i=some o)(hd:o.dst=none)(h6:a8o C.P C.fe C.nt C.all C.ks C.ms C.H0.base C.ld rest a H pd=some C.res):Inv C (i::done) rest a H pd L act actg w φ bl:=by have:=I.advA1 ok hk hL ho (v:=a3P) (v':=undef) (a₁:=a) φ.le_refl (a2R φ) I.sim I.st rfl (fun d hdd=>by rw[hd]at hdd;cases hdd) (by rw[hd];rfl) (pd₁:=pd) h6 (fun j oj _ _=>⟨id,.inr (.inr rfl)⟩) (fun k inf h=>.inl h);rw[hd]at this;exact this
theorem c2l{φ:Phi}(ht:TR φ a actg.tmps): ∀{l:List Nat} {es:List MapEntry} {vs:List (VV×VV)},Ents C act l es→b3b C.all a l=some vs→(∀x∈l,∀o,a0H C.all x=some o→ ∀y∈o.op.operands,act.eval y=actg.eval y)→EUs φ vs es
 | [],es,vs,h,hv,_=>by simp only[b3b,Option.some.injEq]at hv;subst hv;exact h
 |x::l,es,vs,h,hv,hop=>by
  obtain⟨o,t,m,kk,v,e,es',h1,h2,rfl,h4,h5,h6⟩:=h;simp only[b3b,h1,h2]at hv;cases hkk:a0A a kk with
  |none=>rw[hkk]at hv;simp at hv
  |some kv=>cases hvv:a0A a v with
   |none=>rw[hkk,hvv]at hv;simp at hv
   |some vv=>cases hr:b3b C.all a l with
    |none=>rw[hkk,hvv,hr]at hv;simp at hv
    |some r=>
     rw[hkk,hvv,hr]at hv;simp only[Option.some.injEq]at hv;subst hv;have hx:=hop x (by simp) o h1;refine⟨e,es',rfl, ?_, ?_,c2l ht h6 hr fun y hy=>hop y (by simp[hy])⟩
     ·rw[h4,hx kk (by rw[h2];simp[Op.operands])];exact a0B ht hkk
     ·rw[h5,hx v (by rw[h2];simp[Op.operands])];exact a0B ht hvv
theorem c4Q{all:List Oper}{a:VT}{l l':List Nat}(h:List.Perm l l'): ∀{vs:List (VV×VV)},b3b all a l'=some vs→ ∃vs',b3b all a l=some vs'∧List.Perm vs' vs:=by
 induction h with
 |nil=>intro vs h;exact⟨vs,h,.refl _⟩
 |cons x _ ih=>
  intro vs h;simp only[b3b]at h ⊢;cases ho:a0H all x with
  |none=>rw[ho]at h;cases h
  |some o=>
   rw[ho]at h;simp only at h ⊢;split at h
   ·split at h
    ·rename_i k v r hk hv hr;simp only[Option.some.injEq]at h;subst h;obtain⟨vs',e1,e2⟩:=ih hr;simp only[hk,hv,e1];exact⟨_,rfl,e2.cons _⟩
    ·cases h
   ·cases h
 |swap x y l=>
  intro vs h;simp only[b3b]at h ⊢;cases hx:a0H all x with
  |none=>rw[hx]at h;cases h
  |some ox=>cases hy:a0H all y with
   |none=>
    rw[hx,hy]at h;simp only at h;split at h
    ·split at h
     ·rename_i hh;cases hh
     ·cases h
    ·cases h
   |some oy=>
    rw[hx,hy]at h;simp only at h ⊢;split at h
    ·split at h
     ·rename_i k v r hk hv hr;simp only[Option.some.injEq]at h;subst h;split at hr
      ·split at hr
       ·rename_i k' v' r' hk' hv' hr';simp only[Option.some.injEq]at hr;subst hr;simp only[*];exact⟨_,rfl,List.Perm.swap _ _ _⟩
       ·cases hr
      ·cases hr
     ·cases h
    ·cases h
 |trans _ _ ih1 ih2=>intro vs h;obtain⟨v2,e1,e2⟩:=ih2 h;obtain⟨v1,e3,e4⟩:=ih1 e1;exact⟨v1,e3,e4.trans e2⟩
theorem Inv.advS[Ext](ok:C.Ok){i:Nat}(I:Inv C done (i::rest) a H pd L act actg w φ bl)(hk:a1D C.ks i= .a)(hL:Lb L i=true){o:Oper}(ho:a0H C.all i=some o){m:Nat}(hm:a8x o.op=some m)(hlast:a7m (a0o C.all m) rest=false){a₁:VT}{H₁:VH}(hse:c3j C.nt C.all m a H=some (a₁,H₁))(hst4:a4E C.P C.all C.ms i a H₁ pd=true)
  (h6:a8o C.P C.fe C.nt C.all C.ks C.ms C.H0.base C.ld rest a₁ H₁ (a5z C.ms i pd)=some C.res): ∃φ₁,Inv C (i::done) rest a₁ H₁ (a5z C.ms i pd) L act actg w φ₁ bl:=by
 obtain⟨o',ho',hnd,hed,hga,_,hord⟩:=a0j I.ord;rw[ho]at ho';cases ho';have hmi:i∈a0o C.all m:=a1d.2 ⟨o,ho,hm⟩
 have hhk:c3w m C.all=true:=by
  rcases c2S ho (by rw[←ok.ks];exact hk)with h|h|⟨m',h1,_,h3⟩
  ·rw[a8S hm]at h;cases h
  ·obtain⟨t,kk,v,e⟩:=a7Y hm;rw[e]at h;cases h
  ·rw[hm]at h1;cases h1;exact h3
 obtain⟨g,og,hg1,hg2⟩:=a9R hhk;have hgd:=a2u hg2;obtain⟨hgk,hins,hgrp⟩:=ok.pairs.grp g og m hg1 hg2 (List.ne_nil_of_mem hmi);have hid:a1H C.all i=none:=(hins i hmi).2;have hid':o.dst=none:=by rw[←a0E ho];exact hid
 have hml:m∈a0u C.all i:=by rw[a0Q ho];obtain⟨t,kk,v,e⟩:=a7Y hm;refine a6k ?_;rw[e];simp[Op.operands,a4B]
 have hgi:rch C.ms g i=true:=ok.pairs.wr i (a0M ho) hk g m (by rw[a0E hg1];exact hgd) hml;have hgL:Lb L g=true:=I.predL ok hgi fun o' ho'=>I.Lcl i o' hL ho';have hgdone:g∈done:=I.predD ok hgi fun o' ho'=>by rw[ho]at ho';cases ho';exact hed
 obtain⟨l,es,c,s1,s2,s3,s4,s5,s6,s7,s8,s9⟩:=I.maps g og m hg1 hg2 hgL ⟨i,hmi,by simp⟩
 have hallL: ∀x∈a0o C.all m,Lb L x=true:=by
  intro x hx
  by_cases e:x=i
  ·subst e;exact hL
  ·obtain⟨ox,hox,_⟩:=a1d.1 hx;rcases I.cov x (a0M hox)with h|h
   ·cases hq:Lb L x with
    |true=>rfl
    |false=>have:=I.late x h hq;rw[(hins x hx).1]at this;cases this
   ·rcases List.mem_cons.1 h with h|h
    ·exact absurd h e
    ·have:a7m (a0o C.all m) rest=true:=a6P.2 ⟨x,h,hx⟩;rw[hlast]at this;cases this
 have hperm:List.Perm l (a0o C.all m):=by refine(List.perm_ext_iff_of_nodup s2 a3G).2 fun x=> ?_;rw[s3 x];exact⟨fun h=>h.1,fun h=>⟨h,hallL x h⟩⟩
 unfold c3j at hse;split at hse
 ·rename_i vs hev hnx hmt;simp only[Option.some.injEq,Prod.mk.injEq]at hse;obtain⟨rfl,rfl⟩:=hse;have hnx':=a0G hnx;have hmt':=a0G hmt;obtain⟨vs',e1,e2⟩:=c4Q hperm hev
  have hent:EUs φ vs' es:=by
   refine c2l I.tr s4 e1 fun x hx ox hox=> ?_;have hxm:=((s3 x).1 hx).1;have hxL:=hallL x hxm;refine Same.eval (all:=C.all) fun t ht=>I.agree t fun y hy=> ?_;have ht':t∈a0u C.all x:=by rw[a0Q hox];exact ht
   have hr:=ok.pairs.wr x (a0M hox) (hins x hxm).1 y t hy ht';have hyL:=I.predL ok hr fun o' ho'=>I.Lcl x o' hxL ho';refine⟨fun _=>hyL,fun hyr=> ?_⟩;exfalso
   by_cases e:x=i
   ·subst e;exact absurd (I.predD ok hr fun o' ho'=>by rw[ho]at ho';cases ho';exact hed) (I.apart hyr)
   ·have hxd:x∈done:=by
     rcases I.cov x (a0M hox)with h|h
     ·exact h
     ·rcases List.mem_cons.1 h with h|h
      ·exact absurd h e
      ·have:a7m (a0o C.all m) rest=true:=a6P.2 ⟨x,h,hxm⟩;rw[hlast]at this;cases this
    exact absurd (I.predD ok hr fun o' ho'=>I.closed x o' hxd ho') (I.apart hyr)
  have hfresh:=I.sim.fresh H.next (Nat.le_refl _);have hle:=Phi.le_ext (φ:=φ) ⟨bl g,0,0⟩ hfresh;have hs:=I.sim.adopt hnx' s1 s9 s8 s7 (o:=.mapU vs) ⟨es,c,vs',rfl,e2,hent⟩
  have hmact:act.tmps.getD m undef=actg.tmps.getD m undef:=by
   refine I.agree m fun y hy=> ?_
   have hyg:y=g:=by
    by_cases e:y=g
    ·exact e
    ·exact absurd hy (ok.pairs.sole g m (by rw[a0E hg1];exact hgd) hgk y (a3J hy) e)
   subst hyg;exact⟨fun _=>hgL,fun h=>absurd hgdone (I.apart h)⟩
  have htr:TR (φ.ext H.next ⟨bl g,0,0⟩) (a.put m (.map (some (.loc H.next)))) actg.tmps:=by
   intro t
   by_cases e:t=m
   ·subst e;simp only[a1I,TT.get_put_same _ _ _ (Nat.lt_of_lt_of_le hmt' ok.nt)];rw[←hmact,s5];exact NK.map.rel φ H.next (bl g)
   ·have:a1I (a.put m (.map (some (.loc H.next)))) t=a1I a t:=by unfold a1I;rw[TT.get_put_other _ _ _ _ e]
    rw[this];exact(I.tr t).mono hle
  have hpend:Pend C (i::rest) L g:=⟨hgL,og,hg1,.inr ⟨m,hg2,i,hmi,by simp⟩⟩;have apt:=a4H hord;refine⟨φ.ext H.next ⟨bl g,0,0⟩,⟨h6,hord, ?_, ?_, ?_,I.Lsz,I.Lcl, ?_, ?_,htr,I.sz1,I.sz2,I.defs, ?_, ?_, ?_, ?_, ?_, ?_,hs,I.st.adopt hfresh s6,I.base⟩⟩
  ·intro j hj;rcases I.cov j hj with h|h
   ·exact .inl (by simp[h])
   ·rcases List.mem_cons.1 h with rfl|h
    ·exact .inl (by simp)
    ·exact .inr h
  ·intro j hj;rcases List.mem_cons.1 hj with rfl|hj
   ·exact⟨o,ho⟩
   ·exact I.dlt j hj
  ·intro j oj hj hoj e he hb;rcases List.mem_cons.1 hj with rfl|hj
   ·rw[ho]at hoj;cases hoj;exact List.mem_cons_of_mem _ (hed e he hb)
   ·exact List.mem_cons_of_mem _ (I.closed j oj hj hoj e he hb)
  ·exact fun j hj=>I.early j (List.mem_cons_of_mem _ hj)
  ·intro j hj hq;rcases List.mem_cons.1 hj with rfl|hj
   ·rw[hL]at hq;cases hq
   ·exact I.late j hj hq
  ·intro t' h;refine I.agree t' fun x hx=>⟨fun hxd=>(h x hx).1 (List.mem_cons_of_mem _ hxd),fun hr=> ?_⟩;rcases List.mem_cons.1 hr with rfl|hr
   ·rw[hid]at hx;cases hx
   ·exact(h x hx).2 hr
  ·intro j oj hj hq hoj;rcases List.mem_cons.1 hj with rfl|hj
   ·rw[hL]at hq;cases hq
   ·have hjr:=I.late j hj hq;have hjg:j≠g:=fun e=>by subst e;rw[hgk]at hjr;cases hjr
    have hjn:j∉a0o C.all m:=fun h=>by rw[(hins j h).1]at hjr;cases hjr
    have hnh:b9f C.all m j=false:=by
     cases hh:b9f C.all m j with
     |false=>rfl
     |true=>have:=hgrp j (a0M hoj) hjg hjn hh i hmi;exact absurd (I.predD ok this fun o' ho'=>I.closed j o' hj ho') hnd
    have hrf:rch C.ms j i=false:=by
     cases hr:rch C.ms j i with
     |false=>rfl
     |true=>rw[I.predL ok hr (fun o' ho'=>I.Lcl i o' hL ho')]at hq;cases hq
    have hne: ∀t∈looks C.all oj,t≠m:=fun t ht e=>by subst e;rw[a6n.2 (.inl (by rw[a0Q hoj];exact ht))]at hnh;cases hnh
    refine Told.step (I.reads j oj hj hq hoj) (fun t ht=> ?_) (fun d hd=> ?_) (fun hp=>a8Q hp hrf) rfl (.inr (.inl fun hp=>a4X hst4 j hp hrf oj hoj))
    ·unfold a1I;rw[TT.get_put_other _ _ _ _ (hne t ht)]
    ·have:d≠m:=fun e=>by
      subst e;rw[a6n.2 (.inr (by rw[a0E hoj];exact hd))]at hnh;cases hnh
     unfold a1I;rw[TT.get_put_other _ _ _ _ this]
  ·intro j oj hj hq hoj;refine(I.allocs j oj (List.mem_cons_of_mem _ hj) hq hoj).mono (fun _ hc hgr hun=>⟨rfl,fun k inf hki=> ?_⟩) (fun _ _=>rfl) rfl (fun _ _=>rfl);simp only[Phi.ext]at hki;split at hki
   ·cases hki;intro hbb;have:=I.dist g j hpend ⟨hq,oj,hoj,.inl ⟨hc,hgr,List.mem_cons_of_mem _ hj⟩⟩ hbb;subst this;rw[hg1]at hoj;cases hoj;exact b5P hg2 hmi hgr
   ·exact hun k inf hki
  ·intro g' og' m' h1 h2 h3 ⟨z,h4,h5⟩;refine(I.maps g' og' m' h1 h2 h3 ⟨z,h4,List.mem_cons_of_mem _ h5⟩).mono (fun _ hun=>⟨rfl,fun k inf hki=> ?_⟩) (fun _ _=>rfl) rfl rfl (fun _ _ _ _ _ _ _=>rfl);simp only[Phi.ext]at hki;split at hki
   ·cases hki;intro hbb;have:=I.dist g g' hpend ⟨h3,og',h1,.inr ⟨m',h2,z,h4,List.mem_cons_of_mem _ h5⟩⟩ hbb;subst this;rw[hg1]at h1;cases h1;rw[hg2]at h2;cases h2;have:a7m (a0o C.all m) rest=true:=a6P.2 ⟨z,h5,h4⟩;rw[hlast]at this;cases this
   ·exact hun k inf hki
  ·exact fun x y hx hy=>I.dist x y hx.up hy.up
  ·exact fun j oj hj hq hoj d hd=>(I.lval j oj hj hq hoj d hd).mono hle
 ·cases hse
theorem Inv.advA[Ext](ok:C.Ok){i:Nat}(I:Inv C done (i::rest) a H pd L act actg w φ bl)(hk:a1D C.ks i= .a)(hL:Lb L i=true): ∃a₁ H₁ pd₁ actg₁ φ₁,Inv C (i::done) rest a₁ H₁ pd₁ L act actg₁ w φ₁ bl:=by
 obtain⟨o,ho,hnd,hed,hga,_,hord⟩:=a0j I.ord;have hg:=(hga hk).1;have hsm:=I.sameA ok hk hL ho;obtain⟨_,hc⟩:=a4S I.run ho;rcases hc with⟨h1,_⟩|⟨_,h2,_⟩|⟨_,h2,_,v,H₁,a₁,h3,h4,h5,h6⟩|⟨_,_,hgr,him,a₁,h5,h6⟩|⟨_,_,m,him,hcase⟩
 ·rw[hg]at h1;cases h1
 ·rw[hk]at h2;cases h2
 ·have h2':a8x o.op=none∧a6x C.all o= []:=by
   rcases h2 with h2|⟨_,h2⟩
   ·rw[hk]at h2;cases h2
   ·exact h2
  rcases I.allocs i o (by simp) hL ho with hsk|⟨ρe,hρ,hE⟩
  ·rcases hsk with⟨m,hm⟩|hgr
   ·rw[h2'.1]at hm;cases hm
   ·exact absurd h2'.2 hgr
  have hex:execOp ρe o=execOp actg.eval o:=execOp_congr o (a7G h3) fun x hx=>by rw[hρ x hx];exact hsm.eval x hx
  have hT: ∀j oj,a0H C.all j=some oj→rch C.ms j i=false→(j∈pd→j∈a5z C.ms i pd)∧(cls C.P oj.op=0∨(j∈pd→still C.P a H₁ oj=true)∨H₁=H):=
   fun j oj hoj hrf=>⟨fun hp=>a8Q hp hrf,.inr (.inl fun hp=>a4X h4 j hp hrf oj hoj)⟩
  rcases hE with⟨hcl,k,obj,e3,e4,e5,e6,e7,e8,e9⟩|⟨hu,v',e3,e5⟩
  ·obtain⟨k',vo,q1,q2,rfl,rfl⟩:=c6I hcl h3;obtain⟨obj',r1,r2⟩:=a2C I.tr o q1;have eqr: ∀w':World,(Result.ok (Next.value (k.real w'.heap.size)) (w'.alloc obj):Result Next)= .ok (.value (k'.real w'.heap.size)) (w'.alloc obj'):=fun w'=>by rw[←e3 w',←r1 w',hex]
   have eo:obj=obj':=by have:=eqr w;simp only[Result.ok.injEq]at this;exact d3Q this.2
   subst eo
   have ek:k.real (bl i)=k'.real (bl i):=by have:=eqr {w with heap:=Array.replicate (bl i) default};simp only[Result.ok.injEq,Next.value.injEq,Array.size_replicate]at this;exact this.1
   have hfresh:=I.sim.fresh H.next (Nat.le_refl _);have hle:=Phi.le_ext (φ:=φ) ⟨bl i,0,0⟩ hfresh;refine⟨a₁,H.alloc vo,a5z C.ms i pd,actg.put o.dst (k'.real (bl i)),φ.ext H.next ⟨bl i,0,0⟩, ?_⟩;refine I.advA1 ok hk hL ho hle (k'.rel φ H.next (bl i)) (I.sim.adopt q2 e4 e9 e8 e7 (r2 _)) (I.st.adopt hfresh e6) rfl (fun d hd=>by rw[←ek];exact e5 d hd) h5 h6 hT ?_;intro k2 inf hki;simp only[Phi.ext]at hki;split at hki
   ·cases hki;exact .inr ⟨⟨hL,o,ho,.inl ⟨hcl,h2'.2,by simp⟩⟩,h2'.2,rfl⟩
   ·exact .inl hki
  ·obtain⟨q1,rfl⟩:=d3K hu h3;obtain⟨v'',r1,r2⟩:=b8K I.tr o q1
   have ev:v'=v'':=by have h1:=e3 w;rw[hex,r1 w]at h1;simp only[Result.ok.injEq,Next.value.injEq]at h1;exact h1.1.symm
   subst ev;refine⟨a₁,H₁,a5z C.ms i pd,actg.put o.dst v',φ, ?_⟩;exact I.advA1 ok hk hL ho φ.le_refl r2 I.sim I.st rfl e5 h5 h6 hT fun k inf hki=>.inl hki
 ·
  obtain⟨m,hm,hne⟩:=c3x hgr
  have hrest: ∃z∈a0o C.all m,z∈i::rest:=by
   obtain⟨z,hz⟩:=List.exists_mem_of_ne_nil _ hne;obtain⟨oz,hoz,hzm⟩:=a1d.1 hz;refine⟨z,hz, ?_⟩;rcases I.cov z (a0M hoz)with h|h
   ·exfalso
    have hml:m∈a0u C.all z:=by rw[a0Q hoz];obtain⟨t,kk,v,e⟩:=a7Y hzm;refine a6k ?_;rw[e];simp[Op.operands,a4B]
    have:=ok.pairs.wr z (a0M hoz) ((ok.pairs.grp i o m ho hm hne).2.1 z hz).1 i m (by rw[a0E ho];exact a2u hm) hml;exact hnd (I.predD ok this fun o' ho'=>I.closed z o' h ho')
   ·exact h
  obtain⟨_,_,_,_,_,_,_,s5,_⟩:=I.maps i o m ho hm hL hrest;refine⟨a₁,H,pd,actg.put o.dst (.map (some (bl i))),φ, ?_⟩;refine I.advA1 ok hk hL ho φ.le_refl (by simp only[VR];rfl) I.sim I.st rfl (fun d hd=> ?_) h5 h6 (fun j oj _ _=>⟨id,.inr (.inr rfl)⟩) fun k inf h=>.inl h;rw[a2u hm]at hd;cases hd;exact s5
 ·have hd:o.dst=none:=by
   rcases c2S ho (by rw[←ok.ks];exact hk)with h|h|⟨m',_,h2,_⟩
   ·rw[a8S him]at h;cases h
   ·obtain⟨t,kk,v,e⟩:=a7Y him;rw[e]at h;cases h
   ·exact h2
  rcases hcase with⟨_,h6⟩|⟨hlast,a₁,H₁,hse,hst4,h6⟩
  ·exact⟨a,H,pd,actg,φ,I.advI ok hk hL ho hd h6⟩
  ·obtain⟨φ₁,J⟩:=I.advS ok hk hL ho him hlast hse hst4 h6;exact⟨a₁,H₁,a5z C.ms i pd,actg,φ₁,J⟩
end
theorem Inv.norm[Ext]{C:Ctx}(ok:C.Ok){L:Array Bool}{act:Act}{w:World}{bl:Nat→Nat}: ∀(rest done:List Nat) (a:VT) (H:VH) (pd:List Nat) (actg:Act) (φ:Phi),Inv C done rest a H pd L act actg w φ bl→
  ∃done' rest' a' H' pd' actg' φ',Inv C done' rest' a' H' pd' L act actg' w φ' bl∧(rest'= []∨ ∃i r,rest'=i::r∧Lb L i=false∧a1D C.ks i≠ .r)
 | [],done,a,H,pd,actg,φ,I=>⟨done,[],a,H,pd,actg,φ,I,.inl rfl⟩
 |i::rest,done,a,H,pd,actg,φ,I=>by
  cases hk:a1D C.ks i with
  |r=>obtain⟨a₁,pd₁,actg₁,I₁⟩:=I.advR ok hk;exact Inv.norm ok rest _ _ _ _ _ _ I₁
  |a=>
   cases hL:Lb L i with
   |false=>exact⟨done,i::rest,a,H,pd,actg,φ,I,.inr ⟨i,rest,rfl,hL,by rw[hk];simp⟩⟩
   |true=>obtain⟨a₁,H₁,pd₁,actg₁,φ₁,I₁⟩:=I.advA ok hk hL;exact Inv.norm ok rest _ _ _ _ _ _ I₁
  |e=>
   have hL:Lb L i=false:=by
    cases h:Lb L i with
    |false=>rfl
    |true=>have:=I.early i (by simp) h;rw[hk]at this;cases this
   exact⟨done,i::rest,a,H,pd,actg,φ,I,.inr ⟨i,rest,rfl,hL,by rw[hk];simp⟩⟩
end Go.Ev
