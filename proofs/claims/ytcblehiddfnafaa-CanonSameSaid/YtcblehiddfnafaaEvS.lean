/- Engine, part S: regions that draw their order: sound. -/
import Derived.Test.YtcblehiddfnafaaEvR
namespace Go.Ev
theorem a4R{r:Option Nat}{P:Program}{all:List Oper}{Q:Exit→Act→World→Prop}{i:Nat}{K:Act→World→Prop}{act:Act}{w:World}{o:Oper}(ho:a0k all i=some o)
  (h1:Region.wanted o (yielded ⟨all⟩ act.tmps)=true→o.wpIn (Fr r) 0 P act w K Q) (h2:Region.wanted o (yielded ⟨all⟩ act.tmps)=false→K (act.put o.dst undef) w):wpOpIn (Fr r) 0 P ⟨all⟩ Q i K act w:=by
 have hg:(⟨all⟩:Array Oper)[i]? =some o:=by rw[a1H]at ho;simpa using ho
 unfold wpOpIn
 rw[hg]
 simp only
 cases hw:Region.wanted o (yielded ⟨all⟩ act.tmps)with
 |true=>rw[if_pos rfl];exact h1 hw
 |false=>rw[if_neg (by simp)];exact⟨fun _ _=>trivial,h2 hw⟩
theorem a3f{t:Nat}{tmps:Array Value}(h: ¬t<tmps.size):tmps.getD t undef=undef:=by simp[Array.getD,h]
section
variable{C:Ctx}{done rest:List Nat}{a:VT}{H:VH}{pd:List Nat}{L:Array Bool}{act actg:Act}{w:World}{φ:Phi}{bl:Nat→Nat}
theorem a1Z{i j:Nat}(hi:i<L.size)(h:j≠i):Lb (L.setIfInBounds i true) j=Lb L j:=by rw[b3i hi,if_neg h]
theorem b2G{i j:Nat}(hi:i<L.size)(h:Lb L j=true):Lb (L.setIfInBounds i true) j=true:=by
 rw[b3i hi];split
 ·rfl
 ·exact h
theorem a3U{i:Nat}(hi:i<L.size):Lb (L.setIfInBounds i true) i=true:=by rw[b3i hi,if_pos rfl]
theorem Inv.stepD1(ok:C.Ok)(I:Inv C done rest a H pd L act actg w φ bl){i:Nat}(hi:i∈done)(hL:Lb L i=false){o:Oper}(ho:a0k C.all i=some o)(hr: ∀e∈o.after.toList,a1M e=true→Lb L e.on=true)
  {v:VV} {v':Value} (hv:VR φ v v') (hd: ∀d,o.dst=some d→a1d a d=v):Inv C done rest a H pd (L.setIfInBounds i true) (act.put o.dst v') (actg.put o.dst v') w φ bl:=by
 have hsz:i<L.size:=by rw[I.Lsz];exact a0e ho
 refine⟨I.run,I.ord,I.cov,I.dlt,I.closed,by simpa using I.Lsz, ?_, ?_, ?_, ?_,by rw[a5f];exact I.sz1,by rw[a5f];exact I.sz2,by rw[a7k];exact I.defs, ?_, ?_, ?_, ?_, ?_,I.sim,I.st,I.base⟩
 ·intro j oj hj hoj e he hb
  by_cases hji:j=i
  ·subst hji;rw[ho]at hoj;cases hoj;exact b2G hsz (hr e he hb)
  ·rw[a1Z hsz hji]at hj
   exact b2G hsz (I.Lcl j oj hj hoj e he hb)
 ·intro j hj hq
  have hji:j≠i:=fun e=>I.apart hj (e▸hi)
  rw[a1Z hsz hji]at hq
  exact I.early j hj hq
 ·intro j hj hq
  have hji:j≠i:=fun e=>by subst e;rw[a3U hsz]at hq;cases hq
  rw[a1Z hsz hji]at hq
  exact I.late j hj hq
 ·intro t
  rw[a0c]
  by_cases h:o.dst=some t∧t<actg.tmps.size
  ·rw[if_pos h,hd t h.1];exact hv
  ·rw[if_neg h];exact I.tr t
 ·intro t h
  rw[a0c,a0c,I.sz1,I.sz2]
  by_cases hc:o.dst=some t∧t<C.sz
  ·rw[if_pos hc,if_pos hc]
  ·rw[if_neg hc,if_neg hc]
   by_cases hdt:o.dst=some t
   ·have hlt: ¬t<C.sz:=fun hx=>hc ⟨hdt,hx⟩
    rw[a3f (by rw[I.sz1];exact hlt),a3f (by rw[I.sz2];exact hlt)]
   ·refine I.agree t fun x hx=> ?_
    have hxi:x≠i:=fun e=>by subst e;rw[a0O ho]at hx;exact hdt hx
    have:=h x hx
    rw[a1Z hsz hxi]at this
    exact this
 ·intro j oj hj hq hoj
  have hji:j≠i:=fun e=>by subst e;rw[a3U hsz]at hq;cases hq
  rw[a1Z hsz hji]at hq
  exact I.reads j oj hj hq hoj
 ·intro j oj hj hq hoj
  have hji:j≠i:=fun e=>I.apart hj (e▸hi)
  rw[a1Z hsz hji]at hq
  have hka:=I.early j hj hq
  refine(I.allocs j oj hj hq hoj).mono (fun _ _ hu=>⟨rfl,hu⟩) (fun d hdj=> ?_) rfl (a5l (all:=C.all) fun t ht=> ?_)
  ·rw[a0c,if_neg]
   rintro⟨e,_⟩
   exact ok.pairs.sole j d (by rw[a0O hoj];exact hdj) hka i (a0e ho) (Ne.symm hji) (by rw[a0O ho];exact e)
  ·rw[a0c,if_neg]
   rintro⟨e,_⟩
   have:=ok.pairs.wr j (a0e hoj) hka i t (by rw[a0O ho];exact e) (by rw[a0v hoj];exact ht)
   rw[I.predL ok this fun o' ho'=>I.Lcl j o' hq ho']at hL
   cases hL
 ·intro x y hx hy hlx hly
  have hxi:x≠i:=fun e=>I.apart hx (e▸hi)
  have hyi:y≠i:=fun e=>I.apart hy (e▸hi)
  rw[a1Z hsz hxi]at hlx
  rw[a1Z hsz hyi]at hly
  exact I.dist x y hx hy hlx hly
 ·intro j oj hkj hq hoj d hdj
  have hji:j≠i:=fun e=>by subst e;have:=I.late j hi hL;rw[hkj]at this;cases this
  rw[a1Z hsz hji]at hq
  rw[a0c,if_neg]
  ·exact I.lval j oj hkj hq hoj d hdj
  ·rintro⟨e,_⟩
   exact ok.pairs.sole j d (by rw[a0O hoj];exact hdj) hkj i (a0e ho) (Ne.symm hji) (by rw[a0O ho];exact e)
theorem Inv.stepD(ok:C.Ok)(I:Inv C done rest a H pd L act actg w φ bl){i:Nat}(hi:i∈done)(hL:Lb L i=false){o:Oper}(ho:a0k C.all i=some o)(hr: ∀e∈o.after.toList,a1M e=true→Lb L e.on=true)
  (r:Option Nat) {K:Act→World→Prop} {Q:Exit→Act→World→Prop} (hK: ∀act' actg',Inv C done rest a H pd (L.setIfInBounds i true) act' actg' w φ bl→K act' w):wpOpIn (Fr r) 0 C.P ⟨C.all⟩ Q i K act w:=by
 have hsm:=I.same ok ho hL (fun e he hb=>I.closed i o hi ho e he hb) hr
 obtain⟨hgo,hrd⟩:=I.reads i o hi hL ho
 have hwant:=hsm.wanted.trans (a2p (ops:=C.all) I.tr o hgo)
 refine a4R ho (fun hw=> ?_) (fun hw=> ?_)
 ·rcases hrd with⟨h1,_⟩|⟨h1,v,h2,h3,_⟩
  ·rw[hwant,h1]at hw;cases hw
  ·obtain⟨hs1,hs2⟩:=a9T h2
   refine⟨fun _ _=>trivial, ?_⟩
   rw[show(Fr r).round=r from rfl,Oper.semAt_eq _ _ _ hs2,hsm.exec hs1]
   obtain⟨v',k1,k2⟩:=a4P h2 (a4g (P:=C.P) I.tr I.sim o)
   rw[k1]
   exact hK _ _ (I.stepD1 ok hi hL ho hr k2 h3)
 ·rcases hrd with⟨_,h2⟩|⟨h1,_⟩
  ·exact hK _ _ (I.stepD1 ok hi hL ho hr (a2z φ) h2)
  ·rw[hwant,h1]at hw;cases hw
theorem a9i{P:Program}{fe:FE}{nt:Nat}(hb:nt≤top){all:List Oper}{ks:List SK}{mk:List Nat}{ld:List (Nat×VV)}{i:Nat}{r:VT×VH}(hk:a1N ks i= .a){o:Oper}(ho:a0k all i=some o): ∀{rest before:List Nat} {a:VT} {H:VH} {pd:List Nat},a5Z all ks mk before rest=true→a8b P fe nt all ks mk ld rest a H pd=some r→i∈rest→
  (∀x∈rest,∀t∈looks all o,a1S all x=some t→a1N ks x= .a)→o.guard=none∧ ∃a₁,a7S P ld o a₁=true∧ ∀t∈looks all o,a1d a₁ t=a1d a t∨ ∃x,a1S all x=some t∧a1N ks x= .a
 | [],_,_,_,_,_,_,hi,_=>by cases hi
 |x::rest,before,a,H,pd,hord,hrun,hi,hw=>by
  obtain⟨ox,hox,_,_,hga,_,hord'⟩:=a0j hord
  by_cases hxi:i=x
  ·subst hxi
   rw[ho]at hox
   cases hox
   have hg:=(hga hk).1
   refine⟨hg, ?_⟩
   obtain⟨_,hc⟩:=a3R hrun ho
   rcases hc with⟨h1,_⟩|⟨_,h2,_⟩|⟨_,_,h3,_⟩
   ·rw[hg]at h1;cases h1
   ·rw[hk]at h2;cases h2
   ·exact⟨a,h3 hk,fun t _=>.inl rfl⟩
  ·have hi':i∈rest:=by
    rcases List.mem_cons.1 hi with h|h
    ·exact absurd h hxi
    ·exact h
   have step: ∀{a₁:VT} {H₁:VH} {pd₁:List Nat} {v:VV},a4o nt a ox.dst v=some a₁→a8b P fe nt all ks mk ld rest a₁ H₁ pd₁=some r→o.guard=none∧ ∃a₂,a7S P ld o a₂=true∧ ∀t∈looks all o,a1d a₂ t=a1d a t∨ ∃x,a1S all x=some t∧a1N ks x= .a:=by
    intro a₁ H₁ pd₁ v hp h
    obtain⟨h1,a₂,h2,h3⟩:=a9i hb hk ho hord' h hi' fun y hy=>hw y (List.mem_cons_of_mem _ hy)
    refine⟨h1,a₂,h2,fun t ht=> ?_⟩
    rcases h3 t ht with h|h
    ·rw[a2I hb hp]at h
     by_cases hd:ox.dst=some t
     ·have hdx:a1S all x=some t:=by rw[a0O hox];exact hd
      exact .inr ⟨x,hdx,hw x (by simp) t ht hdx⟩
     ·rw[if_neg hd]at h;exact .inl h
    ·exact .inr h
   obtain⟨_,hc⟩:=a3R hrun hox
   rcases hc with⟨_,_,hp,h⟩|⟨_,_,_,_,_,hp,h⟩|⟨_,_,_,_,_,_,_,_,hp,h⟩
   ·exact step hp h
   ·exact step hp h
   ·exact step hp h
theorem Inv.lateRuns(ok:C.Ok)(I:Inv C done rest a H pd L act actg w φ bl){i:Nat}(hi:i∈rest)(hk:a1N C.ks i= .a){o:Oper}(ho:a0k C.all i=some o)(hr: ∀e∈o.after.toList,a1M e=true→Lb L e.on=true):
  o.guard=none∧((cls C.P o.op=2∧ ∃(k:NK) (obj:Obj),(∀w',(execOp act.eval o).run C.P w'= .ok (.value (k.real w'.heap.size)) (w'.alloc obj))∧a4a C.P o.type= .one)∨
   (isU o.op=true∧ ∃v',(∀w',(execOp act.eval o).run C.P w'= .ok (.value v') w')∧VR φ (a4a C.P o.type) v')):=by
 have hr': ∀o',a0k C.all i=some o'→ ∀e∈o'.after.toList,a1M e=true→Lb L e.on=true:=fun o' ho'=>by rw[ho]at ho';cases ho';exact hr
 have hwr: ∀x t,a1S C.all x=some t→t∈looks C.all o→Lb L x=true:=fun x t hx ht=>
  I.predL ok (ok.pairs.wr i (a0e ho) hk x t hx (by rw[a0v ho];exact ht)) hr'
 obtain⟨hg,a₁,hl,ha₁⟩:=a9i ok.nt hk ho I.ord I.run hi fun x hx t ht hd=>I.early x hx (hwr x t hd ht)
 refine⟨hg, ?_⟩
 have htop: ∀p∈C.ld,p.1<top:=fun p hp=>Nat.lt_of_lt_of_le (ok.ldt p hp) ok.nt
 have hlsz: ∀t v,(t,v)∈C.ld→t<C.sz:=fun t v h=>Nat.lt_of_lt_of_le (ok.ldt _ h) ok.sz
 have hlv: ∀t v,(t,v)∈C.ld→t∈looks C.all o→VR φ v (act.tmps.getD t undef):=by
  intro t v h ht
  rw[ok.ld]at h
  obtain⟨x,ox,h1,h2,h3,rfl⟩:=a4y _ _ h
  have hx:a1S C.all x=some t:=by rw[a0O h1];exact h3
  exact I.lval x ox (by simp[a1N,h2]) (hwr x t hx ht) h1 t h3
 have hinh: ∀t v,(t,v)∈C.ld→ ∃u,VR φ v u:=by
  intro t v h
  rw[ok.ld]at h
  obtain⟨x,ox,h1,h2,h3,rfl⟩:=a4y _ _ h
  exact b2l C.P φ ox.type
 have hfr: ∃actm:Act,TR φ (a2V C.ld a) actm.tmps∧Same C.all o act actm:=by
  have hval: ∀t,∃u,(t<C.sz→VR φ (a1d (a2V C.ld a) t) u)∧(t∈looks C.all o→t<C.sz→u=act.tmps.getD t undef):=by
   intro t
   rcases a3b C.ld htop (t:=t)with⟨v,h1,h2⟩|⟨h1,h2⟩
   ·by_cases ht:t∈looks C.all o
    ·exact⟨_,fun _=>by rw[h2];exact hlv t v h1 ht,fun _ _=>rfl⟩
    ·obtain⟨u,hu⟩:=hinh t v h1
     exact⟨u,fun _=>by rw[h2];exact hu,fun h=>absurd h ht⟩
   ·refine⟨actg.tmps.getD t undef,fun _=>by rw[h2];exact I.tr t,fun ht _=> ?_⟩
    refine(I.agree t fun x hx=> ?_).symm
    have hxL:=hwr x t hx ht
    refine⟨fun _=>hxL,fun hxr=> ?_⟩
    have hxa:=I.early x hxr hxL
    have hxl:=a2Y hx
    have hox:a0k C.all x=some C.all[x]:=by rw[a1H];simp[hxl]
    have:=a2h (P:=C.P) C.all C.ks x _ hox (b1B hxa) (by rw[←a0O hox];exact hx)
    rw[←ok.ld]at this
    exact absurd this (h1 _)
  have hgen: ∃g:Nat→Value,∀t,(t<C.sz→VR φ (a1d (a2V C.ld a) t) (g t))∧(t∈looks C.all o→t<C.sz→g t=act.tmps.getD t undef):=⟨fun t=>(hval t).choose,fun t=>(hval t).choose_spec⟩
  obtain⟨g,hgs⟩:=hgen
  have getg: ∀t,((Array.range C.sz).map g).getD t undef=if t<C.sz then g t else undef:=by
   intro t
   by_cases h:t<C.sz
   ·simp[Array.getD,h]
   ·simp[Array.getD,h]
  refine⟨{tmps:=(Array.range C.sz).map g,defers:=[]},fun t=> ?_,fun t ht=> ?_⟩
  ·simp only[getg]
   by_cases h:t<C.sz
   ·rw[if_pos h];exact(hgs t).1 h
   ·rw[if_neg h]
    rcases a3b C.ld htop (t:=t)with⟨v,h1,h2⟩|⟨h1,h2⟩
    ·exact absurd (hlsz t v h1) h
    ·rw[h2]
     have:=I.tr t
     rwa [a3f (by rw[I.sz2];exact h)]at this
  ·simp only[getg]
   by_cases h:t<C.sz
   ·rw[if_pos h];exact((hgs t).2 ht h).symm
   ·rw[if_neg h,a3f (by rw[I.sz1];exact h)]
 obtain⟨actm,htm,hsm⟩:=hfr
 have hcon: ∀x∈o.op.operands,a0C (a2V C.ld a₁) x=a0C (a2V C.ld a) x:=by
  refine SameV.operands (all:=C.all) (o:=o) fun t ht=> ?_
  rcases a3b C.ld htop (t:=t)with⟨v,_,h2⟩|⟨h1,h2⟩
  ·rw[h2,h2]
  ·rw[h2,h2]
   rcases ha₁ t ht with h|⟨x,hx,hxa⟩
   ·exact h
   ·exfalso
    have hxl:=a2Y hx
    have hox:a0k C.all x=some C.all[x]:=by rw[a1H];simp[hxl]
    have:=a2h (P:=C.P) C.all C.ks x _ hox (b1B hxa) (by rw[←a0O hox];exact hx)
    rw[←ok.ld]at this
    exact h1 _ this
 unfold a7S at hl
 cases hu:isU o.op with
 |true=>
  rw[hu]at hl
  simp only at hl
  rw[b3D hcon]at hl
  cases he:evU C.P o.op (a2V C.ld a)with
  |none=>rw[he]at hl;cases hl
  |some v=>
   rw[he]at hl
   simp only at hl
   obtain⟨v',r1,r2⟩:=a9S htm o he
   refine .inr ⟨rfl,v',fun w'=> ?_,b0U hl r2⟩
   rw[hsm.exec (by intro cs b e;rw[e]at hu;cases hu)]
   exact r1 w'
 |false=>
  rw[hu]at hl
  simp only at hl
  rw[b0X hcon]at hl
  cases he:a2y C.P o.op (a2V C.ld a)with
  |none=>rw[he]at hl;cases hl
  |some ko=>
   obtain⟨k,vo⟩:=ko
   rw[he]at hl
   simp only at hl
   obtain⟨obj,r1,_⟩:=a1R htm o he
   have hc:cls C.P o.op=2:=by
    rcases b7L ho (by rw[ok.ks]at hk;exact hk)with h|h
    ·exact h
    ·rw[hu]at h;cases h
   refine .inl ⟨hc,k,obj,fun w'=> ?_,b4Z hl⟩
   rw[hsm.exec (by intro cs b e;rw[e]at he;cases he)]
   exact r1 w'
theorem Inv.stepA1(ok:C.Ok)(I:Inv C done rest a H pd L act actg w φ bl){i:Nat}(hi:i∈rest)(hk:a1N C.ks i= .a)(hL:Lb L i=false){o:Oper}(ho:a0k C.all i=some o)(hr: ∀e∈o.after.toList,a1M e=true→Lb L e.on=true)
  {v':Value} {w₁:World} {bl':Nat→Nat} (hw: ∀k,k<w.heap.size→w₁.heap[k]? =w.heap[k]?) (hs:HSim C.w0 φ H w₁) (hst:St C.φ0 C.ws φ w₁) (hmv:VR φ (a4a C.P o.type) v') (hbl: ∀j,j≠i→bl' j=bl j) (hnew:isN C i→w.heap.size≤bl' i)
  (hE:Early C φ H (act.put o.dst v') w₁ (bl' i) o):Inv C done rest a H pd (L.setIfInBounds i true) (act.put o.dst v') actg w₁ φ bl':=by
 have hsz:i<L.size:=by rw[I.Lsz];exact a0e ho
 refine⟨I.run,I.ord,I.cov,I.dlt,I.closed,by simpa using I.Lsz, ?_, ?_, ?_,I.tr,by rw[a5f];exact I.sz1,I.sz2,by rw[a7k];exact I.defs, ?_, ?_, ?_, ?_, ?_,hs,hst,I.base⟩
 ·intro j oj hj hoj e he hb
  by_cases hji:j=i
  ·subst hji;rw[ho]at hoj;cases hoj;exact b2G hsz (hr e he hb)
  ·rw[a1Z hsz hji]at hj
   exact b2G hsz (I.Lcl j oj hj hoj e he hb)
 ·intro j hj hq
  by_cases hji:j=i
  ·subst hji;exact hk
  ·rw[a1Z hsz hji]at hq
   exact I.early j hj hq
 ·intro j hj hq
  have hji:j≠i:=fun e=>by subst e;rw[a3U hsz]at hq;cases hq
  rw[a1Z hsz hji]at hq
  exact I.late j hj hq
 ·intro t' h
  have hne:o.dst≠some t':=fun e=>by
   have:=(h i (by rw[a0O ho];exact e)).2 hi
   rw[a3U hsz]at this;cases this
  rw[a0c,if_neg (fun e=>hne e.1)]
  refine I.agree t' fun x hx=> ?_
  have hxi:x≠i:=fun e=>by subst e;rw[a0O ho]at hx;exact hne hx
  have:=h x hx
  rw[a1Z hsz hxi]at this
  exact this
 ·intro j oj hj hq hoj
  have hji:j≠i:=fun e=>by subst e;rw[a3U hsz]at hq;cases hq
  rw[a1Z hsz hji]at hq
  exact I.reads j oj hj hq hoj
 ·intro j oj hj hq hoj
  by_cases hji:j=i
  ·subst hji
   rw[ho]at hoj
   cases hoj
   exact hE
  ·rw[a1Z hsz hji]at hq
   have hka:=I.early j hj hq
   rw[hbl j hji]
   refine(I.allocs j oj hj hq hoj).mono (fun hob _ hu=>⟨?_,hu⟩) (fun d hdj=> ?_) rfl (a5l (all:=C.all) fun t ht=> ?_)
   ·obtain⟨ob,hob⟩:=hob
    exact hw _ (a6c hob)
   ·rw[a0c,if_neg]
    rintro⟨e,_⟩
    exact ok.pairs.sole j d (by rw[a0O hoj];exact hdj) hka i (a0e ho) (Ne.symm hji) (by rw[a0O ho];exact e)
   ·rw[a0c,if_neg]
    rintro⟨e,_⟩
    have:=ok.pairs.wr j (a0e hoj) hka i t (by rw[a0O ho];exact e) (by rw[a0v hoj];exact ht)
    rw[I.predL ok this fun o' ho'=>I.Lcl j o' hq ho']at hL
    cases hL
 ·intro x y hx hy hlx hly hnx hny hbb
  have small: ∀u,u∈rest→u≠i→Lb L u=true→isN C u→bl u<w.heap.size:=by
   intro u hu _ hlu hnu
   obtain⟨ou,hou,hcu⟩:=hnu
   obtain⟨_,_,hE'⟩:=I.allocs u ou hu hlu hou
   rcases hE' with⟨_,_,_,_,hb,_⟩|⟨hU,_⟩
   ·exact a6c hb
   ·rw[b1H hcu]at hU;cases hU
  by_cases hxi:x=i
  ·by_cases hyi:y=i
   ·rw[hxi,hyi]
   ·rw[a1Z hsz hyi]at hly
    subst hxi
    rw[hbl y hyi]at hbb
    have:=small y hy hyi hly hny
    have:=hnew hnx
    omega
  ·rw[a1Z hsz hxi]at hlx
   by_cases hyi:y=i
   ·subst hyi
    rw[hbl x hxi]at hbb
    have:=small x hx hxi hlx hnx
    have:=hnew hny
    omega
   ·rw[a1Z hsz hyi]at hly
    rw[hbl x hxi,hbl y hyi]at hbb
    exact I.dist x y hx hy hlx hly hnx hny hbb
 ·intro j oj hkj hq hoj d hdj
  by_cases hji:j=i
  ·subst hji
   rw[ho]at hoj
   cases hoj
   have hin:(d,a4a C.P o.type)∈C.ld:=by rw[ok.ld];exact a2h C.all C.ks j o ho (b1B hk) hdj
   rw[a0c,if_pos ⟨hdj,by rw[I.sz1];exact Nat.lt_of_lt_of_le (ok.ldt _ hin) ok.sz⟩]
   exact hmv
  ·rw[a1Z hsz hji]at hq
   rw[a0c,if_neg]
   ·exact I.lval j oj hkj hq hoj d hdj
   ·rintro⟨e,_⟩
    exact ok.pairs.sole j d (by rw[a0O hoj];exact hdj) hkj i (a0e ho) (Ne.symm hji) (by rw[a0O ho];exact e)
theorem Inv.stepA(ok:C.Ok)(I:Inv C done rest a H pd L act actg w φ bl){i:Nat}(hi:i∈rest)(hk:a1N C.ks i= .a)(hL:Lb L i=false){o:Oper}(ho:a0k C.all i=some o)(hr: ∀e∈o.after.toList,a1M e=true→Lb L e.on=true)
  (r:Option Nat) {K:Act→World→Prop} {Q:Exit→Act→World→Prop} (hK: ∀act' w' bl',Inv C done rest a H pd (L.setIfInBounds i true) act' actg w' φ bl'→K act' w'):wpOpIn (Fr r) 0 C.P ⟨C.all⟩ Q i K act w:=by
 obtain⟨hg,hrun⟩:=I.lateRuns ok hi hk ho hr
 refine a4R ho (fun hw=> ?_) (fun hw=>by rw[a4A,hg]at hw;cases hw)
 refine⟨fun _ _=>trivial, ?_⟩
 have hself: ∀v',∀x∈o.op.operands,act.eval x=(act.put o.dst v').eval x:=by
  intro v' x hx
  refine(a5l (all:=C.all) (act:=act) (act₁:=act.put o.dst v') (fun t ht=> ?_) x hx).symm
  rw[a0c,if_neg]
  rintro⟨e,_⟩
  have:=ok.pairs.self i t (a0e ho) (by rw[a0O ho];exact e) (by rw[hk];simp)
  rw[a0v ho]at this
  exact this ht
 have hdst: ∀v' d,o.dst=some d→(act.put o.dst v').tmps.getD d undef=v':=by
  intro v' d hd
  have hin:(d,a4a C.P o.type)∈C.ld:=by rw[ok.ld];exact a2h C.all C.ks i o ho (b1B hk) hd
  rw[a0c,if_pos ⟨hd,by rw[I.sz1];exact Nat.lt_of_lt_of_le (ok.ldt _ hin) ok.sz⟩]
 rcases hrun with⟨hc,k,obj,hr1,hm⟩|⟨hu,v',hr1,hm⟩
 ·rw[show(Fr r).round=r from rfl,Oper.semAt_eq _ _ _ (by intro c hcc;rw[hcc]at hc;simp[cls]at hc),hr1]
  refine hK _ _ (fun x=>if x=i then w.heap.size else bl x) ?_
  refine I.stepA1 ok hi hk hL ho hr (fun k hk=>alloc_old hk) (I.sim.grow _) (I.st.trans (St.grow _ _ _)) (by rw[hm];simp only[VR];exact k.one _) (fun j hj=>if_neg hj) (fun _=>by simp) ?_
  refine⟨act.eval,hself _,.inl ⟨hc,k,obj,hr1, ?_, ?_, ?_, ?_, ?_, ?_⟩⟩
  ·simp only[if_true];exact a4n
  ·intro d hd;simp only[if_true];exact hdst _ d hd
  ·simp only[if_true];exact I.st.wk.size
  ·simp only[if_true];exact I.sim.oldSize
  ·simp only[if_true]
   cases hb:H.base.blk w.heap.size with
   |none=>rfl
   |some y=>obtain⟨ob,hw,_⟩:=I.sim.base _ y hb;have:=a6c hw;omega
  ·simp only[if_true]
   intro k inf hki
   have:=I.sim.bound k inf hki
   omega
 ·rw[show(Fr r).round=r from rfl,Oper.semAt_eq _ _ _ (by intro c hcc;rw[hcc]at hu;cases hu),hr1]
  refine hK _ _ bl ?_
  refine I.stepA1 ok hi hk hL ho hr (fun _ _=>rfl) I.sim I.st hm (fun _ _=>rfl) (fun hN=> ?_) ?_
  ·obtain⟨o',ho',hc'⟩:=hN
   rw[ho]at ho'
   cases ho'
   rw[b1H hc']at hu;cases hu
  ·exact⟨act.eval,hself _,.inr ⟨hu,v',hr1,fun d hd=>hdst _ d hd⟩⟩
theorem Inv.stepE1(ok:C.Ok){i:Nat}(I:Inv C done (i::rest) a H pd L act actg w φ bl)(hk:a1N C.ks i= .e)(hL:Lb L i=false){o:Oper}(ho:a0k C.all i=some o)(hr: ∀e∈o.after.toList,a1M e=true→Lb L e.on=true)
  {v:VV} {v':Value} {φ₁:Phi} {w₁:World} {H₁:VH} {a₁:VT} {pd₁:List Nat} (hst:St φ w φ₁ w₁) (hv:VR φ₁ v v') (hs:HSim C.w0 φ₁ H₁ w₁) (hb:H₁.base=H.base) (hp:a4o C.nt a o.dst v=some a₁) (hrun:a8b C.P C.fe C.nt C.all C.ks C.ms C.ld rest a₁ H₁ pd₁=some C.res)
  (hT: ∀j oj,a0k C.all j=some oj→rch C.ms j i=false→(j∈pd→j∈pd₁)∧(cls C.P oj.op=0∨(j∈pd→still C.P a H₁ oj=true)∨H₁=H)):
  Inv C (i::done) rest a₁ H₁ pd₁ (L.setIfInBounds i true) (act.put o.dst v') (actg.put o.dst v') w₁ φ₁ bl:=by
 obtain⟨o',ho',hnd,hed,_,_,hord⟩:=a0j I.ord
 rw[ho]at ho'
 cases ho'
 have hsz:i<L.size:=by rw[I.Lsz];exact a0e ho
 have hed': ∀o',a0k C.all i=some o'→ ∀e∈o'.after.toList,a1M e=true→e.on∈done:=fun o' ho'=>by rw[ho]at ho';cases ho';exact hed
 have hr': ∀o',a0k C.all i=some o'→ ∀e∈o'.after.toList,a1M e=true→Lb L e.on=true:=fun o' ho'=>by rw[ho]at ho';cases ho';exact hr
 have apt:=a3G hord
 obtain⟨p1,p2,p3⟩:=a2f (act:=actg) (I.tr.mono hst.le) (by rw[I.sz2];exact ok.sz) ok.nt hv hp
 refine⟨hrun,hord, ?_, ?_, ?_,by simpa using I.Lsz, ?_, ?_, ?_,p1,by rw[a5f];exact I.sz1,by rw[p2];exact I.sz2,by rw[a7k];exact I.defs, ?_, ?_, ?_, ?_, ?_,hs,I.st.trans hst,hb.trans I.base⟩
 ·intro j hj
  rcases I.cov j hj with h|h
  ·exact .inl (by simp[h])
  ·rcases List.mem_cons.1 h with rfl|h
   ·exact .inl (by simp)
   ·exact .inr h
 ·intro j hj
  rcases List.mem_cons.1 hj with rfl|hj
  ·exact⟨o,ho⟩
  ·exact I.dlt j hj
 ·intro j oj hj hoj e he hb
  rcases List.mem_cons.1 hj with rfl|hj
  ·rw[ho]at hoj;cases hoj;exact List.mem_cons_of_mem _ (hed e he hb)
  ·exact List.mem_cons_of_mem _ (I.closed j oj hj hoj e he hb)
 ·intro j oj hj hoj e he hb
  by_cases hji:j=i
  ·subst hji;rw[ho]at hoj;cases hoj;exact b2G hsz (hr e he hb)
  ·rw[a1Z hsz hji]at hj
   exact b2G hsz (I.Lcl j oj hj hoj e he hb)
 ·intro j hj hq
  have hji:j≠i:=fun e=>by subst e;exact(apt j hj).1 (by simp)
  rw[a1Z hsz hji]at hq
  exact I.early j (List.mem_cons_of_mem _ hj) hq
 ·intro j hj hq
  have hji:j≠i:=fun e=>by subst e;rw[a3U hsz]at hq;cases hq
  rw[a1Z hsz hji]at hq
  rcases List.mem_cons.1 hj with h|hj
  ·exact absurd h hji
  ·exact I.late j hj hq
 ·intro t h
  rw[a0c,a0c,I.sz1,I.sz2]
  by_cases hc:o.dst=some t∧t<C.sz
  ·rw[if_pos hc,if_pos hc]
  ·rw[if_neg hc,if_neg hc]
   by_cases hdt:o.dst=some t
   ·have hlt: ¬t<C.sz:=fun hx=>hc ⟨hdt,hx⟩
    rw[a3f (by rw[I.sz1];exact hlt),a3f (by rw[I.sz2];exact hlt)]
   ·refine I.agree t fun x hx=> ?_
    have hxi:x≠i:=fun e=>by subst e;rw[a0O ho]at hx;exact hdt hx
    have:=h x hx
    rw[a1Z hsz hxi]at this
    refine⟨fun hxd=>this.1 (List.mem_cons_of_mem _ hxd),fun hxr=> ?_⟩
    rcases List.mem_cons.1 hxr with e|hxr
    ·exact absurd e hxi
    ·exact this.2 hxr
 ·intro j oj hj hq hoj
  have hji:j≠i:=fun e=>by subst e;rw[a3U hsz]at hq;cases hq
  rw[a1Z hsz hji]at hq
  have hjd:j∈done:=by
   rcases List.mem_cons.1 hj with h|hj
   ·exact absurd h hji
   ·exact hj
  have hrf:rch C.ms j i=false:=by
   cases hx:rch C.ms j i with
   |false=>rfl
   |true=>rw[I.predL ok hx hr']at hq;cases hq
  have hno: ∀d,o.dst=some d→d∉a0y C.all j∧a1S C.all j≠some d:=fun d hd=>I.nohit ok hnd hjd (by rw[a0O ho];exact hd) (.inr hrf)
  obtain⟨t1,t2⟩:=hT j oj hoj hrf
  refine Told.step (I.reads j oj hjd hq hoj) (a3W ok.nt hp fun t h=> ?_) (fun d hd=> ?_) t1 hb t2
  ·have:=(hno t h).1
   rwa [a0v hoj]at this
  ·rw[a2I ok.nt hp,if_neg]
   intro e
   exact(hno d e).2 (by rw[a0O hoj];exact hd)
 ·intro j oj hj hq hoj
  have hji:j≠i:=fun e=>by subst e;exact(apt j hj).1 (by simp)
  rw[a1Z hsz hji]at hq
  have hj':=List.mem_cons_of_mem i hj
  have hka:=I.early j hj' hq
  refine(I.allocs j oj hj' hq hoj).mono (fun hob _ hu=> ?_) (fun d hdj=> ?_) hb (a5l (all:=C.all) fun t ht=> ?_)
  ·obtain⟨ob,hob⟩:=hob
   have hlt:=a6c hob
   refine⟨hst.frame _ hlt hu,fun k inf hki hbb=> ?_⟩
   rcases hst.own k inf hki with⟨k',jnf,h1,h2⟩|h
   ·exact hu k' jnf h1 (h2.trans hbb)
   ·omega
  ·rw[a0c,if_neg]
   rintro⟨e,_⟩
   exact ok.pairs.sole j d (by rw[a0O hoj];exact hdj) hka i (a0e ho) (Ne.symm hji) (by rw[a0O ho];exact e)
  ·rw[a0c,if_neg]
   rintro⟨e,_⟩
   have:=ok.pairs.wr j (a0e hoj) hka i t (by rw[a0O ho];exact e) (by rw[a0v hoj];exact ht)
   rw[I.predL ok this fun o' ho'=>I.Lcl j o' hq ho']at hL
   cases hL
 ·intro x y hx hy hlx hly
  have hxi:x≠i:=fun e=>by subst e;exact(apt x hx).1 (by simp)
  have hyi:y≠i:=fun e=>by subst e;exact(apt y hy).1 (by simp)
  rw[a1Z hsz hxi]at hlx
  rw[a1Z hsz hyi]at hly
  exact I.dist x y (List.mem_cons_of_mem _ hx) (List.mem_cons_of_mem _ hy) hlx hly
 ·intro j oj hkj hq hoj d hdj
  have hji:j≠i:=fun e=>by subst e;rw[hk]at hkj;cases hkj
  rw[a1Z hsz hji]at hq
  rw[a0c,if_neg]
  ·exact(I.lval j oj hkj hq hoj d hdj).mono hst.le
  ·rintro⟨e,_⟩
   exact ok.pairs.sole j d (by rw[a0O hoj];exact hdj) hkj i (a0e ho) (Ne.symm hji) (by rw[a0O ho];exact e)
theorem Inv.stepE(ok:C.Ok){i:Nat}(I:Inv C done (i::rest) a H pd L act actg w φ bl)(hk:a1N C.ks i= .e)(hL:Lb L i=false){o:Oper}(ho:a0k C.all i=some o)(hr: ∀e∈o.after.toList,a1M e=true→Lb L e.on=true)
  (r:Option Nat) {K:Act→World→Prop} {Q:Exit→Act→World→Prop} (hK: ∀a₁ H₁ pd₁ act' actg' w' φ',Inv C (i::done) rest a₁ H₁ pd₁ (L.setIfInBounds i true) act' actg' w' φ' bl→K act' w'):wpOpIn (Fr r) 0 C.P ⟨C.all⟩ Q i K act w:=by
 obtain⟨o',ho',_,hed,_⟩:=a0j I.ord
 rw[ho]at ho'
 cases ho'
 have hsm:=I.same ok ho hL hed hr
 obtain⟨hgo,hcc⟩:=a3R I.run ho
 have hwant:=hsm.wanted.trans (a2p (ops:=C.all) I.tr o hgo)
 rcases hcc with⟨h1,a₁,h2,h3⟩|⟨_,h2,_⟩|⟨h1,_,_,v,H₁,a₁,h3,h4,h5,h6⟩
 ·refine a4R ho (fun hw=>by rw[hwant,h1]at hw;cases hw) (fun _=> ?_)
  exact hK _ _ _ _ _ _ _ (I.stepE1 ok hk hL ho hr (.refl φ w) (a2z φ) I.sim rfl h2 h3 fun j oj _ _=>⟨id,.inr (.inr rfl)⟩)
 ·rw[hk]at h2;cases h2
 ·refine a4R ho (fun _=> ?_) (fun hw=>by rw[hwant,h1]at hw;cases hw)
  refine b1i ok.ng ok.fe I.tr I.sim hsm h3 r _ _ ?_
  intro v' w₁ φ₁ k1 k2 k3 k4
  exact hK _ _ _ _ _ _ _ (I.stepE1 ok hk hL ho hr k1 k2 k3 k4 h5 h6 fun j oj hoj hrf=>⟨fun hp=>a6V hp hrf,.inr (.inl fun hp=>a4C h4 j hp hrf oj hoj)⟩)
theorem Inv.finish(ok:C.Ok)(I:Inv C done rest a H pd L act actg w φ bl)(hall: ∀i,i<C.all.length→Lb L i=true):
  ∃φ',St C.φ0 C.ws φ' w∧TR φ' C.res.1 act.tmps∧HSim C.w0 φ' C.res.2 w∧C.res.2.base=C.H0.base∧act.tmps.size=C.sz∧act.defers=C.ds:=by
 obtain⟨done',rest',a',H',pd',actg',φ',J,hJ⟩:=Inv.norm ok rest done a H pd actg φ I
 rcases hJ with rfl|⟨i,r,rfl,hL,_⟩
 ·have hrun:=J.run
  simp only[a8b,Option.some.injEq]at hrun
  refine⟨φ',J.st, ?_, ?_, ?_,J.sz1,J.defs⟩
  ·rw[←hrun]
   intro t
   rw[J.agree t fun x hx=>⟨fun _=>hall x (a2Y hx),fun h=>by cases h⟩]
   exact J.tr t
  ·rw[←hrun];exact J.sim
  ·rw[←hrun];exact J.base
 ·obtain⟨_,o,ho⟩:=a3G J.ord i (by simp)
  rw[hall i (a0e ho)]at hL
  cases hL
theorem a5S(hsz:L.size=C.all.length){i:Nat}(hi:i<C.all.length):L.getD i true=Lb L i:=by
 unfold Lb
 have:i<L.size:=by omega
 simp[this]
theorem a6H(hsz:L.size=C.all.length){i:Nat}:i∈Region.ready .any ⟨C.all⟩ L↔Lb L i=false∧ ∃o,a0k C.all i=some o∧ ∀e∈o.after.toList,a1M e=true→Lb L e.on=true:=by
 rw[mem_ready]
 have e0:(⟨C.all⟩:Array Oper)[i]? =a0k C.all i:=by rw[a1H];simp
 rw[e0]
 constructor
 ·rintro⟨h1,o,h2,h3⟩
  rw[a5S hsz (a0e h2)]at h1
  exact⟨h1,o,h2,fun e he hb=>h3 e (by simpa using he) (by rw[←b1M];exact hb)⟩
 ·rintro⟨h1,o,h2,h3⟩
  rw[←a5S hsz (a0e h2)]at h1
  exact⟨h1,o,h2,fun e he hb=>h3 e (by simpa using he) (by rw[b1M];exact hb)⟩
theorem a7P(hsz:L.size=C.all.length)(hr:Region.ready .any ⟨C.all⟩ L= []){ks:List SK}{mk:List Nat}: ∀{rest before:List Nat},a5Z C.all ks mk before rest=true→(∀x∈before,Lb L x=true)→ ∀x∈rest,Lb L x=true
 | [],_,_,_,x,hx=>by cases hx
 |i::rest,before,ho,hb,x,hx=>by
  obtain⟨o,h1,_,h2,_,_,h3⟩:=a0j ho
  have hi:Lb L i=true:=by
   cases hq:Lb L i with
   |true=>rfl
   |false=>
    have:i∈Region.ready .any ⟨C.all⟩ L:=(a6H hsz).2 ⟨hq,o,h1,fun e he hbe=>hb _ (h2 e he hbe)⟩
    rw[hr]at this
    cases this
  rcases List.mem_cons.1 hx with rfl|hx
  ·exact hi
  ·exact a7P hsz hr h3 (fun y hy=>by
    rcases List.mem_cons.1 hy with rfl|hy
    ·exact hi
    ·exact hb y hy) x hx
end
theorem Inv.any{C:Ctx}(ok:C.Ok){ord:List Nat}(hord:a5Z C.all C.ks C.ms [] ord=true)(hcov: ∀i,i<C.all.length→i∈ord)(r:Option Nat){Q:Exit→Act→World→Prop}
  (hQ: ∀act w φ,St C.φ0 C.ws φ w→TR φ C.res.1 act.tmps→HSim C.w0 φ C.res.2 w→C.res.2.base=C.H0.base→act.tmps.size=C.sz→act.defers=C.ds→Q .normal act w): ∀(fuel:Nat) (l:List Nat) (done rest:List Nat) (a:VT) (H:VH) (pd:List Nat) (L:Array Bool) (act actg:Act) (w:World) (φ:Phi) (bl:Nat→Nat),
  Inv C done rest a H pd L act actg w φ bl→(∀i,i<C.all.length→Lb L i=false→i∈l)→l.length≤fuel→wpAnyIn (Fr r) 0 C.P .any ⟨C.all⟩ Q fuel L act w:=by
 intro fuel
 have fin: ∀{done rest:List Nat} {a:VT} {H:VH} {pd:List Nat} {L:Array Bool} {act actg:Act} {w:World} {φ:Phi} {bl:Nat→Nat},Inv C done rest a H pd L act actg w φ bl→(∀i,i<C.all.length→Lb L i=true)→Q .normal act w:=by
  intro done rest a H pd L act actg w φ bl I hall
  obtain⟨φ',h1,h2,h3,h4,h5,h6⟩:=I.finish ok hall
  exact hQ act w φ' h1 h2 h3 h4 h5 h6
 induction fuel with
 |zero=>
  intro l done rest a H pd L act actg w φ bl I hl hlen
  have hall: ∀i,i<C.all.length→Lb L i=true:=by
   intro i hi
   cases hq:Lb L i with
   |true=>rfl
   |false=>have:=hl i hi hq;rw[List.length_eq_zero_iff.1 (Nat.le_zero.1 hlen)]at this;cases this
  refine⟨?_,fin I hall⟩
  refine List.eq_nil_iff_forall_not_mem.2 fun i hi=> ?_
  obtain⟨h1,o,h2,_⟩:=(a6H I.Lsz).1 hi
  rw[hall i (a0e h2)]at h1
  cases h1
 |succ fuel ih=>
  intro l done rest a H pd L act actg w φ bl I hl hlen
  refine⟨fun hr=>fin I fun i hi=>a7P I.Lsz hr hord (fun x hx=>by cases hx) i (hcov i hi), ?_⟩
  intro i hi
  obtain⟨hL,o,ho,hrd⟩:=(a6H I.Lsz).1 hi
  have hil:=a0e ho
  have hisz:i<L.size:=by rw[I.Lsz];exact hil
  have hl': ∀j,j<C.all.length→Lb (L.setIfInBounds i true) j=false→j∈l.erase i:=by
   intro j hj hq
   have hji:j≠i:=fun e=>by subst e;rw[a3U hisz]at hq;cases hq
   rw[a1Z hisz hji]at hq
   exact(List.mem_erase_of_ne hji).2 (hl j hj hq)
  have hlen':(l.erase i).length≤fuel:=by
   rw[List.length_erase_of_mem (hl i hil hL)]
   omega
  obtain⟨done',rest',a',H',pd',actg',φ',J,hJ⟩:=Inv.norm ok rest done a H pd actg φ I
  have hrdo: ∀o',a0k C.all i=some o'→ ∀e∈o'.after.toList,a1M e=true→Lb L e.on=true:=fun o' ho'=>by rw[ho]at ho';cases ho';exact hrd
  rcases J.cov i hil with hd|hd
  ·exact J.stepD ok hd hL ho hrd r fun act' actg'' K=>ih _ _ _ _ _ _ _ _ _ _ _ _ K hl' hlen'
  ·by_cases hka:a1N C.ks i= .a
   ·exact J.stepA ok hd hka hL ho hrd r fun act' w' bl' K=>ih _ _ _ _ _ _ _ _ _ _ _ _ K hl' hlen'
   ·rcases hJ with rfl|⟨h,rr,rfl,hLh,hkh⟩
    ·cases hd
    ·have hih:i=h:=by
      rcases List.mem_cons.1 hd with e|hd
      ·exact e
      ·exfalso
       have key: ∀x,rch C.ms x i=true→Lb L x=true:=fun x hx=>J.predL ok hx hrdo
       cases hkk:a1N C.ks h with
       |r=>exact hkh hkk
       |e=>
        obtain⟨p,q,hpq⟩:=List.append_of_mem hd
        have:=a6N J.ord (h::p) i q (by simp[hpq]) hka h (.inr (by simp)) hkk
        rw[key h this]at hLh
        cases hLh
       |a=>
        obtain⟨_,_,_,_,hga,_,hordr⟩:=a0j J.ord
        obtain⟨pre,k,post,h1,h2,h3,h4⟩:=a6Y (hga hkk).2 i hd hka
        rcases h4 with rfl|h4
        ·rw[key h h3]at hLh;cases hLh
        ·obtain⟨p,q,hpq⟩:=List.append_of_mem h4
         have hr1:=a6N hordr (pre++k::p) i q (by rw[h1,hpq];simp) hka k (.inr (by simp)) h2
         have hLk:=key k hr1
         have:=J.early k (by rw[h1];simp) hLk
         rw[h2]at this
         cases this
     subst hih
     have hke:a1N C.ks i= .e:=by
      cases hkk:a1N C.ks i with
      |r=>exact absurd hkk hkh
      |a=>exact absurd hkk hka
      |e=>rfl
     exact J.stepE ok hke hL ho hrd r fun a₁ H₁ pd₁ act' actg'' w' φ'' K=>ih _ _ _ _ _ _ _ _ _ _ _ _ K hl' hlen'
theorem a8X{P:Program}(hng:b0q P)(hm:P.follows .mixedOrders=true){fe:FE}(hfe:FEok P fe):b7i P (a6o P fe):=by
 intro w0 nt id ops a H a₁ H₁ h hb r φ act w ht hs hn b hd
 unfold a6o b7V b5N at h
 generalize hms:a3m ops []=ms at h
 generalize hks:kinds P ops ms ops.length 0 [] 0 ops=ks at h
 generalize hord:b1K ks ms ops.length=ord at h
 generalize hld:a1c P ops ks=ld at h
 cases hok:b5g ops ks ms ord ops.length with
 |false=>rw[hok]at h;cases h
 |true=>
  rw[hok]at h
  simp only at h
  cases hlt:b7J nt ld with
  |false=>rw[hlt]at h;cases h
  |true=>
  rw[hlt]at h
  simp only at h
  unfold b5g at hok
  cases h1:a5Z ops ks ms [] ord with
  |false=>rw[h1]at hok;cases hok
  |true=>
   rw[h1]at hok
   simp only at hok
   cases h2:b6V (fun i=>a8z i ord) (upto ops.length 0)with
   |false=>rw[h2]at hok;cases hok
   |true=>
    rw[h2]at hok
    simp only at hok
    cases h3:a9o ops ks ms ops.length (upto ops.length 0)with
    |false=>rw[h3]at hok;cases hok
    |true=>
    rw[h3]at hok
    simp only at hok
    have hcov: ∀i,i<ops.length→i∈ord:=fun i hi=>a4Z.1 (a8f.1 h2 i (a1n.2 ⟨by omega,by omega⟩))
    have hpairs:Pairs ops ks ms:=b4I rfl h3 fun x hx=>a8f.1 hok x (a1n.2 ⟨by omega,by omega⟩)
    refine wpIn_region_any hm ?_
    let C:Ctx:={P,fe,nt,all:=ops,ks,ms,w0,ws:={w with drawn:=w.drawn+1},φ0:=φ,H0:=H,sz:=act.tmps.size,ld,ds:=act.defers,res:=(a₁,H₁)}
    have ok:C.Ok:=⟨hng,hfe,hb,hn,hms.symm,hks.symm,hld.symm,a9D hlt,hpairs⟩
    have hL0: ∀i,Lb (Array.replicate ops.length false) i=false:=by
     intro i
     unfold Lb
     simp only[Array.getD_eq_getD_getElem?,Array.getElem?_replicate]
     split<;>rfl
    have hdr:St φ w φ {w with drawn:=w.drawn+1}:=St.drew rfl rfl rfl rfl
    refine Inv.any (C:=C) ok h1 hcov r (Q:=PostC b w0 φ w act.tmps.size H .normal a₁ H₁) ?_ ops.length (upto ops.length 0) [] ord a H [] (Array.replicate ops.length false) act act {w with drawn:=w.drawn+1} φ (fun _=>0) ?_ ?_ ?_
    ·intro act' w' φ' k1 k2 k3 k4 k5 k6
     exact⟨φ',rfl,hdr.trans k1,k2,k3,k4,k5,by rw[k6];exact hd.step (hdr.trans k1) k4⟩
    ·refine⟨h,h1,fun i hi=>.inr (hcov i hi),(fun i hi=>by cases hi),(fun j o hj=>by cases hj),(by simp[C]), ?_, ?_,(fun i hi=>by cases hi),ht,rfl,rfl,rfl,(fun _ _=>rfl),(fun i o hi=>by cases hi), ?_, ?_, ?_,hs.heap rfl,St.refl _ _,rfl⟩
     ·intro j o hj;rw[hL0]at hj;cases hj
     ·intro i _ hq;rw[hL0]at hq;cases hq
     ·intro i o _ hq;rw[hL0]at hq;cases hq
     ·intro i j _ _ hq;rw[hL0]at hq;cases hq
     ·intro i o _ hq;rw[hL0]at hq;cases hq
    ·intro i hi _
     exact a1n.2 ⟨by omega,by simpa[C]using hi⟩
    ·have: ∀n s,(upto n s).length=n:=by
      intro n
      induction n with
      |zero=>intro s;rfl
      |succ n ih=>intro s;simp[upto,ih]
     rw[this]
     exact Nat.le_refl _
end Go.Ev
