/- Engine, part R: regions that draw their order: the steps. -/
import Derived.Test.YtcblehiddfnafaaEvQ
namespace Go.Ev
section
variable{C:Ctx}{done rest:List Nat}{a:VT}{H:VH}{pd:List Nat}{L:Array Bool}{act actg:Act}{w:World}{φ:Phi}{bl:Nat→Nat}
theorem a3W{nt:Nat}(hb:nt≤top){all:List Oper}{o:Oper}{a a₁:VT}{d:Option Nat}{v:VV}(h:a4o nt a d v=some a₁)(hn: ∀t,d=some t→t∉looks all o):SameV all o a a₁:=by
 intro t ht
 rw[a2I hb h]
 rw[if_neg (fun e=>hn t e ht)]
theorem Told.step{o:Oper}{i:Nat}{a₁:VT}{pd₁:List Nat}{H₁:VH}(h:Told C a H pd i o)(hs:SameV C.all o a a₁)(hd: ∀d,o.dst=some d→a1d a₁ d=a1d a d)(hp:i∈pd→i∈pd₁)(hb:H₁.base=H.base)
  (hH:cls C.P o.op=0∨(i∈pd→still C.P a H₁ o=true)∨H₁=H):Told C a₁ H₁ pd₁ i o:=by
 obtain⟨h0,h⟩:=h
 refine⟨by rw[←hs.gOk];exact h0, ?_⟩
 rcases h with⟨h1,h2⟩|⟨h1,v,h2,h3,h4⟩
 ·exact .inl ⟨by rw[←hs.wanted];exact h1,fun d hdd=>by rw[hd d hdd];exact h2 d hdd⟩
 ·refine .inr ⟨by rw[←hs.wanted];exact h1, ?_⟩
  have case0:cls C.P o.op=0→ ∃v,(evR C.P o.op a₁ H₁).get=some v∧(∀d,o.dst=some d→a1d a₁ d=v)∧(cls C.P o.op=0∨i∈pd₁):=fun h0=>
   ⟨v,by rw[←hs.evR,b4k hb h0];exact h2,fun d hdd=>by rw[hd d hdd];exact h3 d hdd,.inl h0⟩
  rcases hH with h0|hH|rfl
  ·exact case0 h0
  ·rcases h4 with h0|h4
   ·exact case0 h0
   ·obtain⟨u,k1,k2⟩:=b1X (hH h4)
    exact⟨u,by rw[←hs.evR];exact k1,fun d hdd=>by rw[hd d hdd];exact k2 d hdd,.inr (hp h4)⟩
  ·exact⟨v,by rw[←hs.evR];exact h2,fun d hdd=>by rw[hd d hdd];exact h3 d hdd,h4.imp id hp⟩
theorem Inv.advR1(ok:C.Ok){i:Nat}(I:Inv C done (i::rest) a H pd L act actg w φ bl)(hk:a1N C.ks i= .r){o:Oper}(ho:a0k C.all i=some o){v:VV}{v':Value}(hv:VR φ v v'){a₁:VT}(hp:a4o C.nt a o.dst v=some a₁){pd₁:List Nat}
  (hrun:a8b C.P C.fe C.nt C.all C.ks C.ms C.ld rest a₁ H pd₁=some C.res) (hpd: ∀x∈pd,x∈pd₁) (ht:SameV C.all o a a₁→Told C a₁ H pd₁ i o):Inv C (i::done) rest a₁ H pd₁ L act (actg.put o.dst v') w φ bl:=by
 have hL:Lb L i=false:=by
  cases h:Lb L i with
  |false=>rfl
  |true=>have:=I.early i (by simp) h;rw[hk]at this;cases this
 obtain⟨o',ho',hnd,hed,_,_,hord⟩:=a0j I.ord
 rw[ho]at ho'
 cases ho'
 have hno: ∀k∈done,∀d,o.dst=some d→d∉a0y C.all k∧a1S C.all k≠some d:=fun k hkd d hd=>I.nohit ok hnd hkd (by rw[a0O ho];exact hd) (.inl (by rw[hk];simp))
 obtain⟨p1,p2,p3⟩:=a2f I.tr (by rw[I.sz2];exact ok.sz) ok.nt hv hp
 refine⟨hrun,hord, ?_, ?_, ?_,I.Lsz,I.Lcl, ?_, ?_,p1,I.sz1,by rw[p2];exact I.sz2,I.defs, ?_, ?_, ?_, ?_,I.lval,I.sim,I.st,I.base⟩
 ·intro j hj
  rcases I.cov j hj with h|h
  ·exact .inl (by simp[h])
  ·rcases List.mem_cons.1 h with rfl|h
   ·exact .inl (by simp)
   ·exact .inr h
 ·intro j hj
  rcases List.mem_cons.1 hj with rfl|hj
  ·exact⟨o,ho⟩
  ·exact I.dlt j hj
 ·intro j oj hj hoj e he hb
  rcases List.mem_cons.1 hj with rfl|hj
  ·rw[ho]at hoj;cases hoj;exact List.mem_cons_of_mem _ (hed e he hb)
  ·exact List.mem_cons_of_mem _ (I.closed j oj hj hoj e he hb)
 ·exact fun j hj=>I.early j (List.mem_cons_of_mem _ hj)
 ·intro j hj hq
  rcases List.mem_cons.1 hj with rfl|hj
  ·exact hk
  ·exact I.late j hj hq
 ·intro t h
  have hne:o.dst≠some t:=fun e=>by
   have:=(h i (by rw[a0O ho];exact e)).1 (by simp)
   rw[hL]at this;cases this
  rw[a0c,if_neg (fun e=>hne e.1)]
  refine I.agree t fun x hx=>⟨fun hd=>(h x hx).1 (List.mem_cons_of_mem _ hd),fun hr=> ?_⟩
  rcases List.mem_cons.1 hr with rfl|hr
  ·exact hL
  ·exact(h x hx).2 hr
 ·intro j oj hj hq hoj
  rcases List.mem_cons.1 hj with rfl|hj
  ·rw[ho]at hoj
   cases hoj
   refine ht (a3W ok.nt hp fun t h=> ?_)
   have:=ok.pairs.self j t (a0e ho) (by rw[a0O ho];exact h) (by rw[hk];simp)
   rwa [a0v ho]at this
  ·refine Told.step (I.reads j oj hj hq hoj) (a3W ok.nt hp fun t h=> ?_) (fun d hd=> ?_) (hpd j) rfl (.inr (.inr rfl))
   ·have:=(hno j hj t h).1
    rwa [a0v hoj]at this
   ·rw[a2I ok.nt hp,if_neg]
    intro e
    exact(hno j hj d e).2 (by rw[a0O hoj];exact hd)
 ·exact fun j oj hj hq hoj=>I.allocs j oj (List.mem_cons_of_mem _ hj) hq hoj
 ·exact fun x y hx hy=>I.dist x y (List.mem_cons_of_mem _ hx) (List.mem_cons_of_mem _ hy)
theorem Inv.advR(ok:C.Ok){i:Nat}(I:Inv C done (i::rest) a H pd L act actg w φ bl)(hk:a1N C.ks i= .r): ∃a₁ pd₁ actg₁,Inv C (i::done) rest a₁ H pd₁ L act actg₁ w φ bl:=by
 obtain⟨o,ho,_⟩:=a0j I.ord
 obtain⟨h0,hc⟩:=a3R I.run ho
 rcases hc with⟨h1,a₁,h2,h3⟩|⟨h1,h2,v,a₁,h3,h4,h5⟩|⟨_,h2,_⟩
 ·refine⟨a₁,pd,_,I.advR1 ok hk ho (a2z φ) h2 h3 (fun _ h=>h) fun hs=> ?_⟩
  exact⟨by rw[←hs.gOk];exact h0,.inl ⟨by rw[←hs.wanted];exact h1,fun d hd=>by rw[a2I ok.nt h2,if_pos hd]⟩⟩
 ·obtain⟨v',k1,k2⟩:=a4P h3 (a4g (P:=C.P) I.tr I.sim o)
  refine⟨a₁,_,_,I.advR1 ok hk ho k2 h4 h5 (fun x hx=> ?_) fun hs=> ?_⟩
  ·split
   ·exact hx
   ·exact List.mem_cons_of_mem _ hx
  ·refine⟨by rw[←hs.gOk];exact h0,.inr ⟨by rw[←hs.wanted];exact h1,v,by rw[←hs.evR];exact h3,fun d hd=>by rw[a2I ok.nt h4,if_pos hd], ?_⟩⟩
   split
   ·exact .inl (by assumption)
   ·exact .inr (by simp)
 ·exact absurd hk h2
theorem b2h{P:Program}{fe:FE}{op:Op}{a:VT}{H:VH}{v:VV}{H₁:VH}(hc:cls P op=2)(h:a2g P fe op a H=some (v,H₁)): ∃k o,a2y P op a=some (k,o)∧H.next<top∧v=k.vv H.next∧H₁=H.alloc o:=by
 have e:evE P op a H=b1l H (a2y P op a):=by
  cases op with
  |alloc t=>rfl
  |box t x=>rfl
  |buildSlice t n ps=>rfl
  |makeMap t r=>rfl
  |makeSlice t l c=>rfl
  |convert s d x=>simp only[cls]at hc;split at hc<;>cases hc
  |call c=>
   obtain⟨callee,args,ts⟩:=c
   cases callee with
   |builtin bi=>cases bi<;>simp[cls]at hc
   |_=>simp[cls]at hc
  |_=>simp[cls]at hc
 simp only[a2g,hc,e]at h
 cases hn:a2y P op a with
 |none=>rw[hn]at h;simp[b1l,Out.get]at h
 |some ko=>
  obtain⟨k,o⟩:=ko
  rw[hn]at h
  simp only[b1l]at h
  cases hb:Nat.blt H.next top with
  |false=>rw[hb]at h;simp[Out.get]at h
  |true=>
   rw[hb]at h
   simp only[Out.get,Option.some.injEq,Prod.mk.injEq]at h
   exact⟨k,o,rfl,a1B hb,h.1.symm,h.2.symm⟩
theorem b5m{P:Program}{fe:FE}{op:Op}{a:VT}{H:VH}{v:VV}{H₁:VH}(hu:isU op=true)(h:a2g P fe op a H=some (v,H₁)):evU P op a=some v∧H₁=H:=by
 simp only[a2g,b2q hu]at h
 rw[b6B hu]at h
 cases he:evU P op a with
 |none=>rw[he]at h;cases h
 |some u=>rw[he]at h;simp only[Option.some.injEq,Prod.mk.injEq]at h;exact⟨by rw[h.1],h.2.symm⟩
theorem Early.mono{φ₁:Phi}{H₁:VH}{act₁:Act}{w₁:World}{b:Nat}{o:Oper}(h:Early C φ H act w b o)(hw:(∃ob,w.heap[b]? =some ob)→cls C.P o.op=2→(∀j inf,φ j=some inf→inf.blk≠b)→w₁.heap[b]? =w.heap[b]? ∧ ∀j inf,φ₁ j=some inf→inf.blk≠b)(ha: ∀d,o.dst=some d→act₁.tmps.getD d undef=act.tmps.getD d undef)(hb:H₁.base=H.base)
  (hop: ∀x∈o.op.operands,act₁.eval x=act.eval x):Early C φ₁ H₁ act₁ w₁ b o:=by
 obtain⟨ρe,h1,h2⟩:=h
 refine⟨ρe,fun x hx=>by rw[hop x hx];exact h1 x hx, ?_⟩
 rcases h2 with⟨hc,k,obj,e1,e2,e3,e4,e5,e6,e7⟩|⟨hu,v',e1,e2⟩
 ·obtain⟨g1,g2⟩:=hw ⟨_,e2⟩ hc e7
  exact .inl ⟨hc,k,obj,e1,by rw[g1];exact e2,fun d hd=>by rw[ha d hd];exact e3 d hd,e4,e5,by rw[hb];exact e6,g2⟩
 ·exact .inr ⟨hu,v',e1,fun d hd=>by rw[ha d hd];exact e2 d hd⟩
theorem a5l{act act₁:Act}{o:Oper}{all:List Oper}(h: ∀t∈looks all o,act₁.tmps.getD t undef=act.tmps.getD t undef): ∀x∈o.op.operands,act₁.eval x=act.eval x:=
 Same.eval (all:=all) (act:=act₁) (act':=act) h
theorem Inv.sameA(ok:C.Ok){i:Nat}(I:Inv C done (i::rest) a H pd L act actg w φ bl)(hk:a1N C.ks i= .a)(hL:Lb L i=true){o:Oper}(ho:a0k C.all i=some o):Same C.all o act actg:=by
 obtain⟨o',ho',hnd,hed,_,_,hord⟩:=a0j I.ord
 rw[ho]at ho'
 cases ho'
 have hed': ∀o',a0k C.all i=some o'→ ∀e∈o'.after.toList,a1M e=true→e.on∈done:=fun o' ho'=>by rw[ho]at ho';cases ho';exact hed
 intro t ht
 have ht':t∈a0y C.all i:=by rw[a0v ho];exact ht
 refine I.agree t fun x hx=> ?_
 have hr:=ok.pairs.wr i (a0e ho) hk x t hx ht'
 have hxL:=I.predL ok hr fun o' ho'=>I.Lcl i o' hL ho'
 refine⟨fun _=>hxL,fun hxr=> ?_⟩
 exact absurd (I.predD ok hr hed') (I.apart hxr)
theorem Inv.advA1(ok:C.Ok){i:Nat}(I:Inv C done (i::rest) a H pd L act actg w φ bl)(hk:a1N C.ks i= .a)(hL:Lb L i=true){o:Oper}(ho:a0k C.all i=some o){v:VV}{v':Value}{φ₁:Phi}{H₁:VH}{a₁:VT}
  (hle:φ.le φ₁) (hv:VR φ₁ v v') (hs:HSim C.w0 φ₁ H₁ w) (hst:St C.φ0 C.ws φ₁ w) (hb:H₁.base=H.base) (hda: ∀d,o.dst=some d→act.tmps.getD d undef=v') (hst4:a3r C.P C.all C.ms i a H₁ pd=true) (h5:a4o C.nt a o.dst v=some a₁) (h6:a8b C.P C.fe C.nt C.all C.ks C.ms C.ld rest a₁ H₁ (a4z C.ms i pd)=some C.res)
  (hφ: ∀k inf,φ₁ k=some inf→φ k=some inf∨(isN C i∧inf.blk=bl i)):Inv C (i::done) rest a₁ H₁ (a4z C.ms i pd) L act (actg.put o.dst v') w φ₁ bl:=by
 obtain⟨o',ho',hnd,hed,hga,_,hord⟩:=a0j I.ord
 rw[ho]at ho'
 cases ho'
 have hno: ∀k∈done,∀d,o.dst=some d→d∉a0y C.all k∧a1S C.all k≠some d:=fun k hkd d hd=>I.nohit ok hnd hkd (by rw[a0O ho];exact hd) (.inl (by rw[hk];simp))
 obtain⟨p1,p2,p3⟩:=a2f (act:=actg) (I.tr.mono hle) (by rw[I.sz2];exact ok.sz) ok.nt hv h5
 have apt:=a3G hord
 refine⟨h6,hord, ?_, ?_, ?_,I.Lsz,I.Lcl, ?_, ?_,p1,I.sz1,by rw[p2];exact I.sz2,I.defs, ?_, ?_, ?_, ?_, ?_,hs,hst,hb.trans I.base⟩
 ·intro j hj
  rcases I.cov j hj with h|h
  ·exact .inl (by simp[h])
  ·rcases List.mem_cons.1 h with rfl|h
   ·exact .inl (by simp)
   ·exact .inr h
 ·intro j hj
  rcases List.mem_cons.1 hj with rfl|hj
  ·exact⟨o,ho⟩
  ·exact I.dlt j hj
 ·intro j oj hj hoj e he hb
  rcases List.mem_cons.1 hj with rfl|hj
  ·rw[ho]at hoj;cases hoj;exact List.mem_cons_of_mem _ (hed e he hb)
  ·exact List.mem_cons_of_mem _ (I.closed j oj hj hoj e he hb)
 ·exact fun j hj=>I.early j (List.mem_cons_of_mem _ hj)
 ·intro j hj hq
  rcases List.mem_cons.1 hj with rfl|hj
  ·rw[hL]at hq;cases hq
  ·exact I.late j hj hq
 ·intro t' h
  rw[a0c]
  by_cases hd:o.dst=some t'
  ·have hlt:t'<actg.tmps.size:=by
    rcases a7M h5 with⟨q,_⟩|⟨u,q,hu,_⟩
    ·rw[q]at hd;cases hd
    ·rw[q]at hd
     cases hd
     rw[I.sz2]
     exact Nat.lt_of_lt_of_le hu ok.sz
   rw[if_pos ⟨hd,hlt⟩]
   exact hda t' hd
  ·rw[if_neg (fun e=>hd e.1)]
   refine I.agree t' fun x hx=>⟨fun hxd=>(h x hx).1 (List.mem_cons_of_mem _ hxd),fun hr=> ?_⟩
   rcases List.mem_cons.1 hr with rfl|hr
   ·rw[a0O ho]at hx;exact absurd hx hd
   ·exact(h x hx).2 hr
 ·intro j oj hj hq hoj
  rcases List.mem_cons.1 hj with rfl|hj
  ·rw[hL]at hq;cases hq
  ·have hrf:rch C.ms j i=false:=by
    cases hr:rch C.ms j i with
    |false=>rfl
    |true=>rw[I.predL ok hr (fun o' ho'=>I.Lcl i o' hL ho')]at hq;cases hq
   refine Told.step (I.reads j oj hj hq hoj) (a3W ok.nt h5 fun t h=> ?_) (fun d hd=> ?_) (fun hp=>a6V hp hrf) hb (.inr (.inl fun hp=>a4C hst4 j hp hrf oj hoj))
   ·have:=(hno j hj t h).1
    rwa [a0v hoj]at this
   ·rw[a2I ok.nt h5,if_neg]
    intro e
    exact(hno j hj d e).2 (by rw[a0O hoj];exact hd)
 ·intro j oj hj hq hoj
  refine(I.allocs j oj (List.mem_cons_of_mem _ hj) hq hoj).mono (fun _ hc hun=>⟨rfl,fun k inf hki=> ?_⟩) (fun _ _=>rfl) hb (fun _ _=>rfl)
  rcases hφ k inf hki with h|⟨hN,h⟩
  ·exact hun k inf h
  ·intro hbb
   have:=I.dist i j (by simp) (List.mem_cons_of_mem _ hj) hL hq hN ⟨oj,hoj,hc⟩ (by rw[←h,hbb])
   subst this
   exact(apt i hj).1 (by simp)
 ·exact fun x y hx hy=>I.dist x y (List.mem_cons_of_mem _ hx) (List.mem_cons_of_mem _ hy)
 ·exact fun j oj hj hq hoj d hd=>(I.lval j oj hj hq hoj d hd).mono hle
theorem b5n{w:World}{o o':Obj}(h:w.alloc o=w.alloc o'):o=o':=by
 have h1:(w.alloc o).heap[w.heap.size]? =some o:=a4n
 have h2:(w.alloc o').heap[w.heap.size]? =some o':=a4n
 rw[h,h2]at h1
 cases h1;rfl
theorem Inv.advA(ok:C.Ok){i:Nat}(I:Inv C done (i::rest) a H pd L act actg w φ bl)(hk:a1N C.ks i= .a)(hL:Lb L i=true): ∃a₁ H₁ pd₁ actg₁ φ₁,Inv C (i::done) rest a₁ H₁ pd₁ L act actg₁ w φ₁ bl:=by
 obtain⟨o,ho,hnd,hed,hga,_,hord⟩:=a0j I.ord
 have hg:=(hga hk).1
 have hsm:=I.sameA ok hk hL ho
 obtain⟨_,hc⟩:=a3R I.run ho
 rcases hc with⟨h1,_⟩|⟨_,h2,_⟩|⟨_,_,_,v,H₁,a₁,h3,h4,h5,h6⟩
 ·rw[hg]at h1;cases h1
 ·rw[hk]at h2;cases h2
 ·obtain⟨ρe,hρ,hE⟩:=I.allocs i o (by simp) hL ho
  have hex:execOp ρe o=execOp actg.eval o:=execOp_congr o (a3u h3) fun x hx=>by rw[hρ x hx];exact hsm.eval x hx
  rcases hE with⟨hcl,k,obj,e3,e4,e5,e6,e7,e8,e9⟩|⟨hu,v',e3,e5⟩
  ·obtain⟨k',vo,q1,q2,rfl,rfl⟩:=b2h hcl h3
   obtain⟨obj',r1,r2⟩:=a1R I.tr o q1
   have eqr: ∀w':World,(Result.ok (Next.value (k.real w'.heap.size)) (w'.alloc obj):Result Next)= .ok (.value (k'.real w'.heap.size)) (w'.alloc obj'):=fun w'=>by rw[←e3 w',←r1 w',hex]
   have eo:obj=obj':=by
    have:=eqr w
    simp only[Result.ok.injEq]at this
    exact b5n this.2
   subst eo
   have ek:k.real (bl i)=k'.real (bl i):=by
    have:=eqr {w with heap:=Array.replicate (bl i) default}
    simp only[Result.ok.injEq,Next.value.injEq,Array.size_replicate]at this
    exact this.1
   have hfresh:=I.sim.fresh H.next (Nat.le_refl _)
   have hle:=Phi.le_ext (φ:=φ) ⟨bl i,0,0⟩ hfresh
   refine⟨a₁,H.alloc vo,a4z C.ms i pd,actg.put o.dst (k'.real (bl i)),φ.ext H.next ⟨bl i,0,0⟩, ?_⟩
   refine I.advA1 ok hk hL ho hle (k'.rel φ H.next (bl i)) (I.sim.adopt q2 e4 e9 e8 e7 (r2 _)) (I.st.adopt hfresh e6) rfl (fun d hd=>by rw[←ek];exact e5 d hd) h4 h5 h6 ?_
   intro k2 inf hki
   simp only[Phi.ext]at hki
   split at hki
   ·cases hki;exact .inr ⟨⟨o,ho,hcl⟩,rfl⟩
   ·exact .inl hki
  ·obtain⟨q1,rfl⟩:=b5m hu h3
   obtain⟨v'',r1,r2⟩:=a9S I.tr o q1
   have ev:v'=v'':=by
    have h1:=e3 w
    rw[hex,r1 w]at h1
    simp only[Result.ok.injEq,Next.value.injEq]at h1
    exact h1.1.symm
   subst ev
   refine⟨a₁,H₁,a4z C.ms i pd,actg.put o.dst v',φ, ?_⟩
   exact I.advA1 ok hk hL ho φ.le_refl r2 I.sim I.st rfl e5 h4 h5 h6 fun k inf hki=>.inl hki
end
theorem Inv.norm{C:Ctx}(ok:C.Ok){L:Array Bool}{act:Act}{w:World}{bl:Nat→Nat}: ∀(rest done:List Nat) (a:VT) (H:VH) (pd:List Nat) (actg:Act) (φ:Phi),Inv C done rest a H pd L act actg w φ bl→
  ∃done' rest' a' H' pd' actg' φ',Inv C done' rest' a' H' pd' L act actg' w φ' bl∧(rest'= []∨ ∃i r,rest'=i::r∧Lb L i=false∧a1N C.ks i≠ .r)
 | [],done,a,H,pd,actg,φ,I=>⟨done,[],a,H,pd,actg,φ,I,.inl rfl⟩
 |i::rest,done,a,H,pd,actg,φ,I=>by
  cases hk:a1N C.ks i with
  |r=>
   obtain⟨a₁,pd₁,actg₁,I₁⟩:=I.advR ok hk
   exact Inv.norm ok rest _ _ _ _ _ _ I₁
  |a=>
   cases hL:Lb L i with
   |false=>exact⟨done,i::rest,a,H,pd,actg,φ,I,.inr ⟨i,rest,rfl,hL,by rw[hk];simp⟩⟩
   |true=>
    obtain⟨a₁,H₁,pd₁,actg₁,φ₁,I₁⟩:=I.advA ok hk hL
    exact Inv.norm ok rest _ _ _ _ _ _ I₁
  |e=>
   have hL:Lb L i=false:=by
    cases h:Lb L i with
    |false=>rfl
    |true=>have:=I.early i (by simp) h;rw[hk]at this;cases this
   exact⟨done,i::rest,a,H,pd,actg,φ,I,.inr ⟨i,rest,rfl,hL,by rw[hk];simp⟩⟩
end Go.Ev
