/- Engine, part S: regions that draw their order: sound. -/
import Derived.Test.YtcblehiddfnafaaEvR
namespace Go.Ev
theorem wpOpIn_of{r:Option Nat}{P:Program}{all:List Oper}{Q:Exit→Act→World→Prop}{i:Nat}{K:Act→World→Prop}{act:Act}{w:World}{o:Oper}(ho:lget all i=some o)
  (h1:Region.wanted o (yielded ⟨all⟩ act.tmps)=true→o.wpIn (Fr r) 0 P act w K Q) (h2:Region.wanted o (yielded ⟨all⟩ act.tmps)=false→K (act.put o.dst undef) w):wpOpIn (Fr r) 0 P ⟨all⟩ Q i K act w:=by
 have hg:(⟨all⟩:Array Oper)[i]? =some o:=by rw[lget_eq]at ho;simpa using ho
 unfold wpOpIn
 rw[hg]
 simp only
 cases hw:Region.wanted o (yielded ⟨all⟩ act.tmps)with
 |true=>rw[if_pos rfl];exact h1 hw
 |false=>rw[if_neg (by simp)];exact⟨fun _ _=>trivial,h2 hw⟩
theorem getD_big{t:Nat}{tmps:Array Value}(h: ¬t<tmps.size):tmps.getD t undef=undef:=by simp[Array.getD,h]
section
variable{C:Ctx}{done rest:List Nat}{a:VT}{H:VH}{pd:List Nat}{L:Array Bool}{act actg:Act}{w:World}{φ:Phi}{bl:Nat→Nat}
theorem Lb_ne{i j:Nat}(hi:i<L.size)(h:j≠i):Lb (L.setIfInBounds i true) j=Lb L j:=by rw[Lb_set hi,if_neg h]
theorem Lb_up{i j:Nat}(hi:i<L.size)(h:Lb L j=true):Lb (L.setIfInBounds i true) j=true:=by
 rw[Lb_set hi];split
 ·rfl
 ·exact h
theorem Lb_self{i:Nat}(hi:i<L.size):Lb (L.setIfInBounds i true) i=true:=by rw[Lb_set hi,if_pos rfl]
theorem Inv.stepD1(ok:C.Ok)(I:Inv C done rest a H pd L act actg w φ bl){i:Nat}(hi:i∈done)(hL:Lb L i=false){o:Oper}(ho:lget C.all i=some o)(hr: ∀e∈o.after.toList,bindB e=true→Lb L e.on=true)
  {v:VV} {v':Value} (hv:VR φ v v') (hd: ∀d,o.dst=some d→tget a d=v):Inv C done rest a H pd (L.setIfInBounds i true) (act.put o.dst v') (actg.put o.dst v') w φ bl:=by
 have hsz:i<L.size:=by rw[I.Lsz];exact lget_lt ho
 refine⟨I.run,I.ord,I.cov,I.dlt,I.closed,by simpa using I.Lsz, ?_, ?_, ?_, ?_,by rw[put_size];exact I.sz1,by rw[put_size];exact I.sz2,by rw[put_defs];exact I.defs, ?_, ?_, ?_, ?_, ?_,I.sim,I.st,I.base⟩
 ·intro j oj hj hoj e he hb
  by_cases hji:j=i
  ·subst hji;rw[ho]at hoj;cases hoj;exact Lb_up hsz (hr e he hb)
  ·rw[Lb_ne hsz hji]at hj
   exact Lb_up hsz (I.Lcl j oj hj hoj e he hb)
 ·intro j hj hq
  have hji:j≠i:=fun e=>I.apart hj (e▸hi)
  rw[Lb_ne hsz hji]at hq
  exact I.early j hj hq
 ·intro j hj hq
  have hji:j≠i:=fun e=>by subst e;rw[Lb_self hsz]at hq;cases hq
  rw[Lb_ne hsz hji]at hq
  exact I.late j hj hq
 ·intro t
  rw[put_getD]
  by_cases h:o.dst=some t∧t<actg.tmps.size
  ·rw[if_pos h,hd t h.1];exact hv
  ·rw[if_neg h];exact I.tr t
 ·intro t h
  rw[put_getD,put_getD,I.sz1,I.sz2]
  by_cases hc:o.dst=some t∧t<C.sz
  ·rw[if_pos hc,if_pos hc]
  ·rw[if_neg hc,if_neg hc]
   by_cases hdt:o.dst=some t
   ·have hlt: ¬t<C.sz:=fun hx=>hc ⟨hdt,hx⟩
    rw[getD_big (by rw[I.sz1];exact hlt),getD_big (by rw[I.sz2];exact hlt)]
   ·refine I.agree t fun x hx=> ?_
    have hxi:x≠i:=fun e=>by subst e;rw[dstOf_eq ho]at hx;exact hdt hx
    have:=h x hx
    rw[Lb_ne hsz hxi]at this
    exact this
 ·intro j oj hj hq hoj
  have hji:j≠i:=fun e=>by subst e;rw[Lb_self hsz]at hq;cases hq
  rw[Lb_ne hsz hji]at hq
  exact I.reads j oj hj hq hoj
 ·intro j oj hj hq hoj
  have hji:j≠i:=fun e=>I.apart hj (e▸hi)
  rw[Lb_ne hsz hji]at hq
  have hka:=I.early j hj hq
  refine(I.allocs j oj hj hq hoj).mono (fun _ _ hu=>⟨rfl,hu⟩) (fun d hdj=> ?_) rfl (evalP_of (all:=C.all) fun t ht=> ?_)
  ·rw[put_getD,if_neg]
   rintro⟨e,_⟩
   exact ok.pairs.sole j d (by rw[dstOf_eq hoj];exact hdj) hka i (lget_lt ho) (Ne.symm hji) (by rw[dstOf_eq ho];exact e)
  ·rw[put_getD,if_neg]
   rintro⟨e,_⟩
   have:=ok.pairs.wr j (lget_lt hoj) hka i t (by rw[dstOf_eq ho];exact e) (by rw[looksOf_eq hoj];exact ht)
   rw[I.predL ok this fun o' ho'=>I.Lcl j o' hq ho']at hL
   cases hL
 ·intro x y hx hy hlx hly
  have hxi:x≠i:=fun e=>I.apart hx (e▸hi)
  have hyi:y≠i:=fun e=>I.apart hy (e▸hi)
  rw[Lb_ne hsz hxi]at hlx
  rw[Lb_ne hsz hyi]at hly
  exact I.dist x y hx hy hlx hly
 ·intro j oj hkj hq hoj d hdj
  have hji:j≠i:=fun e=>by subst e;have:=I.late j hi hL;rw[hkj]at this;cases this
  rw[Lb_ne hsz hji]at hq
  rw[put_getD,if_neg]
  ·exact I.lval j oj hkj hq hoj d hdj
  ·rintro⟨e,_⟩
   exact ok.pairs.sole j d (by rw[dstOf_eq hoj];exact hdj) hkj i (lget_lt ho) (Ne.symm hji) (by rw[dstOf_eq ho];exact e)
theorem Inv.stepD(ok:C.Ok)(I:Inv C done rest a H pd L act actg w φ bl){i:Nat}(hi:i∈done)(hL:Lb L i=false){o:Oper}(ho:lget C.all i=some o)(hr: ∀e∈o.after.toList,bindB e=true→Lb L e.on=true)
  (r:Option Nat) {K:Act→World→Prop} {Q:Exit→Act→World→Prop} (hK: ∀act' actg',Inv C done rest a H pd (L.setIfInBounds i true) act' actg' w φ bl→K act' w):wpOpIn (Fr r) 0 C.P ⟨C.all⟩ Q i K act w:=by
 have hsm:=I.same ok ho hL (fun e he hb=>I.closed i o hi ho e he hb) hr
 obtain⟨hgo,hrd⟩:=I.reads i o hi hL ho
 have hwant:=hsm.wanted.trans (wantedV_sound (ops:=C.all) I.tr o hgo)
 refine wpOpIn_of ho (fun hw=> ?_) (fun hw=> ?_)
 ·rcases hrd with⟨h1,_⟩|⟨h1,v,h2,h3,_⟩
  ·rw[hwant,h1]at hw;cases hw
  ·obtain⟨hs1,hs2⟩:=evR_noSelect h2
   refine⟨fun _ _=>trivial, ?_⟩
   rw[show(Fr r).round=r from rfl,Oper.semAt_eq _ _ _ hs2,hsm.exec hs1]
   obtain⟨v',k1,k2⟩:=RNR_get h2 (evR_sound (P:=C.P) I.tr I.sim o)
   rw[k1]
   exact hK _ _ (I.stepD1 ok hi hL ho hr k2 h3)
 ·rcases hrd with⟨_,h2⟩|⟨h1,_⟩
  ·exact hK _ _ (I.stepD1 ok hi hL ho hr (VR_undef φ) h2)
  ·rw[hwant,h1]at hw;cases hw
theorem cRun_late{P:Program}{fe:FE}{nt:Nat}(hb:nt≤top){all:List Oper}{ks:List SK}{mk:List Nat}{ld:List (Nat×VV)}{i:Nat}{r:VT×VH}(hk:getK ks i= .a){o:Oper}(ho:lget all i=some o): ∀{rest before:List Nat} {a:VT} {H:VH} {pd:List Nat},ordOk all ks mk before rest=true→cRun P fe nt all ks mk ld rest a H pd=some r→i∈rest→
  (∀x∈rest,∀t∈looks all o,dstOf all x=some t→getK ks x= .a)→o.guard=none∧ ∃a₁,lateOk P ld o a₁=true∧ ∀t∈looks all o,tget a₁ t=tget a t∨ ∃x,dstOf all x=some t∧getK ks x= .a
 | [],_,_,_,_,_,_,hi,_=>by cases hi
 |x::rest,before,a,H,pd,hord,hrun,hi,hw=>by
  obtain⟨ox,hox,_,_,hga,_,hord'⟩:=ordOk_cons hord
  by_cases hxi:i=x
  ·subst hxi
   rw[ho]at hox
   cases hox
   have hg:=(hga hk).1
   refine⟨hg, ?_⟩
   obtain⟨_,hc⟩:=cRun_cons hrun ho
   rcases hc with⟨h1,_⟩|⟨_,h2,_⟩|⟨_,_,h3,_⟩
   ·rw[hg]at h1;cases h1
   ·rw[hk]at h2;cases h2
   ·exact⟨a,h3 hk,fun t _=>.inl rfl⟩
  ·have hi':i∈rest:=by
    rcases List.mem_cons.1 hi with h|h
    ·exact absurd h hxi
    ·exact h
   have step: ∀{a₁:VT} {H₁:VH} {pd₁:List Nat} {v:VV},putD nt a ox.dst v=some a₁→cRun P fe nt all ks mk ld rest a₁ H₁ pd₁=some r→o.guard=none∧ ∃a₂,lateOk P ld o a₂=true∧ ∀t∈looks all o,tget a₂ t=tget a t∨ ∃x,dstOf all x=some t∧getK ks x= .a:=by
    intro a₁ H₁ pd₁ v hp h
    obtain⟨h1,a₂,h2,h3⟩:=cRun_late hb hk ho hord' h hi' fun y hy=>hw y (List.mem_cons_of_mem _ hy)
    refine⟨h1,a₂,h2,fun t ht=> ?_⟩
    rcases h3 t ht with h|h
    ·rw[tget_putD hb hp]at h
     by_cases hd:ox.dst=some t
     ·have hdx:dstOf all x=some t:=by rw[dstOf_eq hox];exact hd
      exact .inr ⟨x,hdx,hw x (by simp) t ht hdx⟩
     ·rw[if_neg hd]at h;exact .inl h
    ·exact .inr h
   obtain⟨_,hc⟩:=cRun_cons hrun hox
   rcases hc with⟨_,_,hp,h⟩|⟨_,_,_,_,_,hp,h⟩|⟨_,_,_,_,_,_,_,_,hp,h⟩
   ·exact step hp h
   ·exact step hp h
   ·exact step hp h
theorem Inv.lateRuns(ok:C.Ok)(I:Inv C done rest a H pd L act actg w φ bl){i:Nat}(hi:i∈rest)(hk:getK C.ks i= .a){o:Oper}(ho:lget C.all i=some o)(hr: ∀e∈o.after.toList,bindB e=true→Lb L e.on=true):
  o.guard=none∧((cls C.P o.op=2∧ ∃(k:NK) (obj:Obj),(∀w',(execOp act.eval o).run C.P w'= .ok (.value (k.real w'.heap.size)) (w'.alloc obj))∧maskV C.P o.type= .one)∨
   (isU o.op=true∧ ∃v',(∀w',(execOp act.eval o).run C.P w'= .ok (.value v') w')∧VR φ (maskV C.P o.type) v')):=by
 have hr': ∀o',lget C.all i=some o'→ ∀e∈o'.after.toList,bindB e=true→Lb L e.on=true:=fun o' ho'=>by rw[ho]at ho';cases ho';exact hr
 have hwr: ∀x t,dstOf C.all x=some t→t∈looks C.all o→Lb L x=true:=fun x t hx ht=>
  I.predL ok (ok.pairs.wr i (lget_lt ho) hk x t hx (by rw[looksOf_eq ho];exact ht)) hr'
 obtain⟨hg,a₁,hl,ha₁⟩:=cRun_late ok.nt hk ho I.ord I.run hi fun x hx t ht hd=>I.early x hx (hwr x t hd ht)
 refine⟨hg, ?_⟩
 have htop: ∀p∈C.ld,p.1<top:=fun p hp=>Nat.lt_of_lt_of_le (ok.ldt p hp) ok.nt
 have hlsz: ∀t v,(t,v)∈C.ld→t<C.sz:=fun t v h=>Nat.lt_of_lt_of_le (ok.ldt _ h) ok.sz
 have hlv: ∀t v,(t,v)∈C.ld→t∈looks C.all o→VR φ v (act.tmps.getD t undef):=by
  intro t v h ht
  rw[ok.ld]at h
  obtain⟨x,ox,h1,h2,h3,rfl⟩:=lateDs_mem _ _ h
  have hx:dstOf C.all x=some t:=by rw[dstOf_eq h1];exact h3
  exact I.lval x ox (by simp[getK,h2]) (hwr x t hx ht) h1 t h3
 have hinh: ∀t v,(t,v)∈C.ld→ ∃u,VR φ v u:=by
  intro t v h
  rw[ok.ld]at h
  obtain⟨x,ox,h1,h2,h3,rfl⟩:=lateDs_mem _ _ h
  exact maskV_inh C.P φ ox.type
 have hfr: ∃actm:Act,TR φ (putAll C.ld a) actm.tmps∧Same C.all o act actm:=by
  have hval: ∀t,∃u,(t<C.sz→VR φ (tget (putAll C.ld a) t) u)∧(t∈looks C.all o→t<C.sz→u=act.tmps.getD t undef):=by
   intro t
   rcases putAll_get C.ld htop (t:=t)with⟨v,h1,h2⟩|⟨h1,h2⟩
   ·by_cases ht:t∈looks C.all o
    ·exact⟨_,fun _=>by rw[h2];exact hlv t v h1 ht,fun _ _=>rfl⟩
    ·obtain⟨u,hu⟩:=hinh t v h1
     exact⟨u,fun _=>by rw[h2];exact hu,fun h=>absurd h ht⟩
   ·refine⟨actg.tmps.getD t undef,fun _=>by rw[h2];exact I.tr t,fun ht _=> ?_⟩
    refine(I.agree t fun x hx=> ?_).symm
    have hxL:=hwr x t hx ht
    refine⟨fun _=>hxL,fun hxr=> ?_⟩
    have hxa:=I.early x hxr hxL
    have hxl:=dstOf_lt hx
    have hox:lget C.all x=some C.all[x]:=by rw[lget_eq];simp[hxl]
    have:=mem_lateDs (P:=C.P) C.all C.ks x _ hox (getK_a hxa) (by rw[←dstOf_eq hox];exact hx)
    rw[←ok.ld]at this
    exact absurd this (h1 _)
  have hgen: ∃g:Nat→Value,∀t,(t<C.sz→VR φ (tget (putAll C.ld a) t) (g t))∧(t∈looks C.all o→t<C.sz→g t=act.tmps.getD t undef):=⟨fun t=>(hval t).choose,fun t=>(hval t).choose_spec⟩
  obtain⟨g,hgs⟩:=hgen
  have getg: ∀t,((Array.range C.sz).map g).getD t undef=if t<C.sz then g t else undef:=by
   intro t
   by_cases h:t<C.sz
   ·simp[Array.getD,h]
   ·simp[Array.getD,h]
  refine⟨{tmps:=(Array.range C.sz).map g,defers:=[]},fun t=> ?_,fun t ht=> ?_⟩
  ·simp only[getg]
   by_cases h:t<C.sz
   ·rw[if_pos h];exact(hgs t).1 h
   ·rw[if_neg h]
    rcases putAll_get C.ld htop (t:=t)with⟨v,h1,h2⟩|⟨h1,h2⟩
    ·exact absurd (hlsz t v h1) h
    ·rw[h2]
     have:=I.tr t
     rwa [getD_big (by rw[I.sz2];exact h)]at this
  ·simp only[getg]
   by_cases h:t<C.sz
   ·rw[if_pos h];exact((hgs t).2 ht h).symm
   ·rw[if_neg h,getD_big (by rw[I.sz1];exact h)]
 obtain⟨actm,htm,hsm⟩:=hfr
 have hcon: ∀x∈o.op.operands,evOperand (putAll C.ld a₁) x=evOperand (putAll C.ld a) x:=by
  refine SameV.operands (all:=C.all) (o:=o) fun t ht=> ?_
  rcases putAll_get C.ld htop (t:=t)with⟨v,_,h2⟩|⟨h1,h2⟩
  ·rw[h2,h2]
  ·rw[h2,h2]
   rcases ha₁ t ht with h|⟨x,hx,hxa⟩
   ·exact h
   ·exfalso
    have hxl:=dstOf_lt hx
    have hox:lget C.all x=some C.all[x]:=by rw[lget_eq];simp[hxl]
    have:=mem_lateDs (P:=C.P) C.all C.ks x _ hox (getK_a hxa) (by rw[←dstOf_eq hox];exact hx)
    rw[←ok.ld]at this
    exact h1 _ this
 unfold lateOk at hl
 cases hu:isU o.op with
 |true=>
  rw[hu]at hl
  simp only at hl
  rw[evU_congr hcon]at hl
  cases he:evU C.P o.op (putAll C.ld a)with
  |none=>rw[he]at hl;cases hl
  |some v=>
   rw[he]at hl
   simp only at hl
   obtain⟨v',r1,r2⟩:=evU_sound htm o he
   refine .inr ⟨rfl,v',fun w'=> ?_,fitsV_sound hl r2⟩
   rw[hsm.exec (by intro cs b e;rw[e]at hu;cases hu)]
   exact r1 w'
 |false=>
  rw[hu]at hl
  simp only at hl
  rw[evNew_congr hcon]at hl
  cases he:evNew C.P o.op (putAll C.ld a)with
  |none=>rw[he]at hl;cases hl
  |some ko=>
   obtain⟨k,vo⟩:=ko
   rw[he]at hl
   simp only at hl
   obtain⟨obj,r1,_⟩:=evNew_sound htm o he
   have hc:cls C.P o.op=2:=by
    rcases kind_a ho (by rw[ok.ks]at hk;exact hk)with h|h
    ·exact h
    ·rw[hu]at h;cases h
   refine .inl ⟨hc,k,obj,fun w'=> ?_,isOne_eq hl⟩
   rw[hsm.exec (by intro cs b e;rw[e]at he;cases he)]
   exact r1 w'
theorem Inv.stepA1(ok:C.Ok)(I:Inv C done rest a H pd L act actg w φ bl){i:Nat}(hi:i∈rest)(hk:getK C.ks i= .a)(hL:Lb L i=false){o:Oper}(ho:lget C.all i=some o)(hr: ∀e∈o.after.toList,bindB e=true→Lb L e.on=true)
  {v':Value} {w₁:World} {bl':Nat→Nat} (hw: ∀k,k<w.heap.size→w₁.heap[k]? =w.heap[k]?) (hs:HSim C.w0 φ H w₁) (hst:St C.φ0 C.ws φ w₁) (hmv:VR φ (maskV C.P o.type) v') (hbl: ∀j,j≠i→bl' j=bl j) (hnew:isN C i→w.heap.size≤bl' i)
  (hE:Early C φ H (act.put o.dst v') w₁ (bl' i) o):Inv C done rest a H pd (L.setIfInBounds i true) (act.put o.dst v') actg w₁ φ bl':=by
 have hsz:i<L.size:=by rw[I.Lsz];exact lget_lt ho
 refine⟨I.run,I.ord,I.cov,I.dlt,I.closed,by simpa using I.Lsz, ?_, ?_, ?_,I.tr,by rw[put_size];exact I.sz1,I.sz2,by rw[put_defs];exact I.defs, ?_, ?_, ?_, ?_, ?_,hs,hst,I.base⟩
 ·intro j oj hj hoj e he hb
  by_cases hji:j=i
  ·subst hji;rw[ho]at hoj;cases hoj;exact Lb_up hsz (hr e he hb)
  ·rw[Lb_ne hsz hji]at hj
   exact Lb_up hsz (I.Lcl j oj hj hoj e he hb)
 ·intro j hj hq
  by_cases hji:j=i
  ·subst hji;exact hk
  ·rw[Lb_ne hsz hji]at hq
   exact I.early j hj hq
 ·intro j hj hq
  have hji:j≠i:=fun e=>by subst e;rw[Lb_self hsz]at hq;cases hq
  rw[Lb_ne hsz hji]at hq
  exact I.late j hj hq
 ·intro t' h
  have hne:o.dst≠some t':=fun e=>by
   have:=(h i (by rw[dstOf_eq ho];exact e)).2 hi
   rw[Lb_self hsz]at this;cases this
  rw[put_getD,if_neg (fun e=>hne e.1)]
  refine I.agree t' fun x hx=> ?_
  have hxi:x≠i:=fun e=>by subst e;rw[dstOf_eq ho]at hx;exact hne hx
  have:=h x hx
  rw[Lb_ne hsz hxi]at this
  exact this
 ·intro j oj hj hq hoj
  have hji:j≠i:=fun e=>by subst e;rw[Lb_self hsz]at hq;cases hq
  rw[Lb_ne hsz hji]at hq
  exact I.reads j oj hj hq hoj
 ·intro j oj hj hq hoj
  by_cases hji:j=i
  ·subst hji
   rw[ho]at hoj
   cases hoj
   exact hE
  ·rw[Lb_ne hsz hji]at hq
   have hka:=I.early j hj hq
   rw[hbl j hji]
   refine(I.allocs j oj hj hq hoj).mono (fun hob _ hu=>⟨?_,hu⟩) (fun d hdj=> ?_) rfl (evalP_of (all:=C.all) fun t ht=> ?_)
   ·obtain⟨ob,hob⟩:=hob
    exact hw _ (get_lt hob)
   ·rw[put_getD,if_neg]
    rintro⟨e,_⟩
    exact ok.pairs.sole j d (by rw[dstOf_eq hoj];exact hdj) hka i (lget_lt ho) (Ne.symm hji) (by rw[dstOf_eq ho];exact e)
   ·rw[put_getD,if_neg]
    rintro⟨e,_⟩
    have:=ok.pairs.wr j (lget_lt hoj) hka i t (by rw[dstOf_eq ho];exact e) (by rw[looksOf_eq hoj];exact ht)
    rw[I.predL ok this fun o' ho'=>I.Lcl j o' hq ho']at hL
    cases hL
 ·intro x y hx hy hlx hly hnx hny hbb
  have small: ∀u,u∈rest→u≠i→Lb L u=true→isN C u→bl u<w.heap.size:=by
   intro u hu _ hlu hnu
   obtain⟨ou,hou,hcu⟩:=hnu
   obtain⟨_,_,hE'⟩:=I.allocs u ou hu hlu hou
   rcases hE' with⟨_,_,_,_,hb,_⟩|⟨hU,_⟩
   ·exact get_lt hb
   ·rw[cls2_isU hcu]at hU;cases hU
  by_cases hxi:x=i
  ·by_cases hyi:y=i
   ·rw[hxi,hyi]
   ·rw[Lb_ne hsz hyi]at hly
    subst hxi
    rw[hbl y hyi]at hbb
    have:=small y hy hyi hly hny
    have:=hnew hnx
    omega
  ·rw[Lb_ne hsz hxi]at hlx
   by_cases hyi:y=i
   ·subst hyi
    rw[hbl x hxi]at hbb
    have:=small x hx hxi hlx hnx
    have:=hnew hny
    omega
   ·rw[Lb_ne hsz hyi]at hly
    rw[hbl x hxi,hbl y hyi]at hbb
    exact I.dist x y hx hy hlx hly hnx hny hbb
 ·intro j oj hkj hq hoj d hdj
  by_cases hji:j=i
  ·subst hji
   rw[ho]at hoj
   cases hoj
   have hin:(d,maskV C.P o.type)∈C.ld:=by rw[ok.ld];exact mem_lateDs C.all C.ks j o ho (getK_a hk) hdj
   rw[put_getD,if_pos ⟨hdj,by rw[I.sz1];exact Nat.lt_of_lt_of_le (ok.ldt _ hin) ok.sz⟩]
   exact hmv
  ·rw[Lb_ne hsz hji]at hq
   rw[put_getD,if_neg]
   ·exact I.lval j oj hkj hq hoj d hdj
   ·rintro⟨e,_⟩
    exact ok.pairs.sole j d (by rw[dstOf_eq hoj];exact hdj) hkj i (lget_lt ho) (Ne.symm hji) (by rw[dstOf_eq ho];exact e)
theorem Inv.stepA(ok:C.Ok)(I:Inv C done rest a H pd L act actg w φ bl){i:Nat}(hi:i∈rest)(hk:getK C.ks i= .a)(hL:Lb L i=false){o:Oper}(ho:lget C.all i=some o)(hr: ∀e∈o.after.toList,bindB e=true→Lb L e.on=true)
  (r:Option Nat) {K:Act→World→Prop} {Q:Exit→Act→World→Prop} (hK: ∀act' w' bl',Inv C done rest a H pd (L.setIfInBounds i true) act' actg w' φ bl'→K act' w'):wpOpIn (Fr r) 0 C.P ⟨C.all⟩ Q i K act w:=by
 obtain⟨hg,hrun⟩:=I.lateRuns ok hi hk ho hr
 refine wpOpIn_of ho (fun hw=> ?_) (fun hw=>by rw[wanted_getD,hg]at hw;cases hw)
 refine⟨fun _ _=>trivial, ?_⟩
 have hself: ∀v',∀x∈o.op.operands,act.eval x=(act.put o.dst v').eval x:=by
  intro v' x hx
  refine(evalP_of (all:=C.all) (act:=act) (act₁:=act.put o.dst v') (fun t ht=> ?_) x hx).symm
  rw[put_getD,if_neg]
  rintro⟨e,_⟩
  have:=ok.pairs.self i t (lget_lt ho) (by rw[dstOf_eq ho];exact e) (by rw[hk];simp)
  rw[looksOf_eq ho]at this
  exact this ht
 have hdst: ∀v' d,o.dst=some d→(act.put o.dst v').tmps.getD d undef=v':=by
  intro v' d hd
  have hin:(d,maskV C.P o.type)∈C.ld:=by rw[ok.ld];exact mem_lateDs C.all C.ks i o ho (getK_a hk) hd
  rw[put_getD,if_pos ⟨hd,by rw[I.sz1];exact Nat.lt_of_lt_of_le (ok.ldt _ hin) ok.sz⟩]
 rcases hrun with⟨hc,k,obj,hr1,hm⟩|⟨hu,v',hr1,hm⟩
 ·rw[show(Fr r).round=r from rfl,Oper.semAt_eq _ _ _ (by intro c hcc;rw[hcc]at hc;simp[cls]at hc),hr1]
  refine hK _ _ (fun x=>if x=i then w.heap.size else bl x) ?_
  refine I.stepA1 ok hi hk hL ho hr (fun k hk=>alloc_old hk) (I.sim.grow _) (I.st.trans (St.grow _ _ _)) (by rw[hm];simp only[VR];exact k.one _) (fun j hj=>if_neg hj) (fun _=>by simp) ?_
  refine⟨act.eval,hself _,.inl ⟨hc,k,obj,hr1, ?_, ?_, ?_, ?_, ?_, ?_⟩⟩
  ·simp only[if_true];exact alloc_new
  ·intro d hd;simp only[if_true];exact hdst _ d hd
  ·simp only[if_true];exact I.st.wk.size
  ·simp only[if_true];exact I.sim.oldSize
  ·simp only[if_true]
   cases hb:H.base.blk w.heap.size with
   |none=>rfl
   |some y=>obtain⟨ob,hw,_⟩:=I.sim.base _ y hb;have:=get_lt hw;omega
  ·simp only[if_true]
   intro k inf hki
   have:=I.sim.bound k inf hki
   omega
 ·rw[show(Fr r).round=r from rfl,Oper.semAt_eq _ _ _ (by intro c hcc;rw[hcc]at hu;cases hu),hr1]
  refine hK _ _ bl ?_
  refine I.stepA1 ok hi hk hL ho hr (fun _ _=>rfl) I.sim I.st hm (fun _ _=>rfl) (fun hN=> ?_) ?_
  ·obtain⟨o',ho',hc'⟩:=hN
   rw[ho]at ho'
   cases ho'
   rw[cls2_isU hc']at hu;cases hu
  ·exact⟨act.eval,hself _,.inr ⟨hu,v',hr1,fun d hd=>hdst _ d hd⟩⟩
theorem Inv.stepE1(ok:C.Ok){i:Nat}(I:Inv C done (i::rest) a H pd L act actg w φ bl)(hk:getK C.ks i= .e)(hL:Lb L i=false){o:Oper}(ho:lget C.all i=some o)(hr: ∀e∈o.after.toList,bindB e=true→Lb L e.on=true)
  {v:VV} {v':Value} {φ₁:Phi} {w₁:World} {H₁:VH} {a₁:VT} {pd₁:List Nat} (hst:St φ w φ₁ w₁) (hv:VR φ₁ v v') (hs:HSim C.w0 φ₁ H₁ w₁) (hb:H₁.base=H.base) (hp:putD C.nt a o.dst v=some a₁) (hrun:cRun C.P C.fe C.nt C.all C.ks C.ms C.ld rest a₁ H₁ pd₁=some C.res)
  (hT: ∀j oj,lget C.all j=some oj→rch C.ms j i=false→(j∈pd→j∈pd₁)∧(cls C.P oj.op=0∨(j∈pd→still C.P a H₁ oj=true)∨H₁=H)):
  Inv C (i::done) rest a₁ H₁ pd₁ (L.setIfInBounds i true) (act.put o.dst v') (actg.put o.dst v') w₁ φ₁ bl:=by
 obtain⟨o',ho',hnd,hed,_,_,hord⟩:=ordOk_cons I.ord
 rw[ho]at ho'
 cases ho'
 have hsz:i<L.size:=by rw[I.Lsz];exact lget_lt ho
 have hed': ∀o',lget C.all i=some o'→ ∀e∈o'.after.toList,bindB e=true→e.on∈done:=fun o' ho'=>by rw[ho]at ho';cases ho';exact hed
 have hr': ∀o',lget C.all i=some o'→ ∀e∈o'.after.toList,bindB e=true→Lb L e.on=true:=fun o' ho'=>by rw[ho]at ho';cases ho';exact hr
 have apt:=ordOk_mem hord
 obtain⟨p1,p2,p3⟩:=putD_sound (act:=actg) (I.tr.mono hst.le) (by rw[I.sz2];exact ok.sz) ok.nt hv hp
 refine⟨hrun,hord, ?_, ?_, ?_,by simpa using I.Lsz, ?_, ?_, ?_,p1,by rw[put_size];exact I.sz1,by rw[p2];exact I.sz2,by rw[put_defs];exact I.defs, ?_, ?_, ?_, ?_, ?_,hs,I.st.trans hst,hb.trans I.base⟩
 ·intro j hj
  rcases I.cov j hj with h|h
  ·exact .inl (by simp[h])
  ·rcases List.mem_cons.1 h with rfl|h
   ·exact .inl (by simp)
   ·exact .inr h
 ·intro j hj
  rcases List.mem_cons.1 hj with rfl|hj
  ·exact⟨o,ho⟩
  ·exact I.dlt j hj
 ·intro j oj hj hoj e he hb
  rcases List.mem_cons.1 hj with rfl|hj
  ·rw[ho]at hoj;cases hoj;exact List.mem_cons_of_mem _ (hed e he hb)
  ·exact List.mem_cons_of_mem _ (I.closed j oj hj hoj e he hb)
 ·intro j oj hj hoj e he hb
  by_cases hji:j=i
  ·subst hji;rw[ho]at hoj;cases hoj;exact Lb_up hsz (hr e he hb)
  ·rw[Lb_ne hsz hji]at hj
   exact Lb_up hsz (I.Lcl j oj hj hoj e he hb)
 ·intro j hj hq
  have hji:j≠i:=fun e=>by subst e;exact(apt j hj).1 (by simp)
  rw[Lb_ne hsz hji]at hq
  exact I.early j (List.mem_cons_of_mem _ hj) hq
 ·intro j hj hq
  have hji:j≠i:=fun e=>by subst e;rw[Lb_self hsz]at hq;cases hq
  rw[Lb_ne hsz hji]at hq
  rcases List.mem_cons.1 hj with h|hj
  ·exact absurd h hji
  ·exact I.late j hj hq
 ·intro t h
  rw[put_getD,put_getD,I.sz1,I.sz2]
  by_cases hc:o.dst=some t∧t<C.sz
  ·rw[if_pos hc,if_pos hc]
  ·rw[if_neg hc,if_neg hc]
   by_cases hdt:o.dst=some t
   ·have hlt: ¬t<C.sz:=fun hx=>hc ⟨hdt,hx⟩
    rw[getD_big (by rw[I.sz1];exact hlt),getD_big (by rw[I.sz2];exact hlt)]
   ·refine I.agree t fun x hx=> ?_
    have hxi:x≠i:=fun e=>by subst e;rw[dstOf_eq ho]at hx;exact hdt hx
    have:=h x hx
    rw[Lb_ne hsz hxi]at this
    refine⟨fun hxd=>this.1 (List.mem_cons_of_mem _ hxd),fun hxr=> ?_⟩
    rcases List.mem_cons.1 hxr with e|hxr
    ·exact absurd e hxi
    ·exact this.2 hxr
 ·intro j oj hj hq hoj
  have hji:j≠i:=fun e=>by subst e;rw[Lb_self hsz]at hq;cases hq
  rw[Lb_ne hsz hji]at hq
  have hjd:j∈done:=by
   rcases List.mem_cons.1 hj with h|hj
   ·exact absurd h hji
   ·exact hj
  have hrf:rch C.ms j i=false:=by
   cases hx:rch C.ms j i with
   |false=>rfl
   |true=>rw[I.predL ok hx hr']at hq;cases hq
  have hno: ∀d,o.dst=some d→d∉looksOf C.all j∧dstOf C.all j≠some d:=fun d hd=>I.nohit ok hnd hjd (by rw[dstOf_eq ho];exact hd) (.inr hrf)
  obtain⟨t1,t2⟩:=hT j oj hoj hrf
  refine Told.step (I.reads j oj hjd hq hoj) (sameV_putD ok.nt hp fun t h=> ?_) (fun d hd=> ?_) t1 hb t2
  ·have:=(hno t h).1
   rwa [looksOf_eq hoj]at this
  ·rw[tget_putD ok.nt hp,if_neg]
   intro e
   exact(hno d e).2 (by rw[dstOf_eq hoj];exact hd)
 ·intro j oj hj hq hoj
  have hji:j≠i:=fun e=>by subst e;exact(apt j hj).1 (by simp)
  rw[Lb_ne hsz hji]at hq
  have hj':=List.mem_cons_of_mem i hj
  have hka:=I.early j hj' hq
  refine(I.allocs j oj hj' hq hoj).mono (fun hob _ hu=> ?_) (fun d hdj=> ?_) hb (evalP_of (all:=C.all) fun t ht=> ?_)
  ·obtain⟨ob,hob⟩:=hob
   have hlt:=get_lt hob
   refine⟨hst.frame _ hlt hu,fun k inf hki hbb=> ?_⟩
   rcases hst.own k inf hki with⟨k',jnf,h1,h2⟩|h
   ·exact hu k' jnf h1 (h2.trans hbb)
   ·omega
  ·rw[put_getD,if_neg]
   rintro⟨e,_⟩
   exact ok.pairs.sole j d (by rw[dstOf_eq hoj];exact hdj) hka i (lget_lt ho) (Ne.symm hji) (by rw[dstOf_eq ho];exact e)
  ·rw[put_getD,if_neg]
   rintro⟨e,_⟩
   have:=ok.pairs.wr j (lget_lt hoj) hka i t (by rw[dstOf_eq ho];exact e) (by rw[looksOf_eq hoj];exact ht)
   rw[I.predL ok this fun o' ho'=>I.Lcl j o' hq ho']at hL
   cases hL
 ·intro x y hx hy hlx hly
  have hxi:x≠i:=fun e=>by subst e;exact(apt x hx).1 (by simp)
  have hyi:y≠i:=fun e=>by subst e;exact(apt y hy).1 (by simp)
  rw[Lb_ne hsz hxi]at hlx
  rw[Lb_ne hsz hyi]at hly
  exact I.dist x y (List.mem_cons_of_mem _ hx) (List.mem_cons_of_mem _ hy) hlx hly
 ·intro j oj hkj hq hoj d hdj
  have hji:j≠i:=fun e=>by subst e;rw[hk]at hkj;cases hkj
  rw[Lb_ne hsz hji]at hq
  rw[put_getD,if_neg]
  ·exact(I.lval j oj hkj hq hoj d hdj).mono hst.le
  ·rintro⟨e,_⟩
   exact ok.pairs.sole j d (by rw[dstOf_eq hoj];exact hdj) hkj i (lget_lt ho) (Ne.symm hji) (by rw[dstOf_eq ho];exact e)
theorem Inv.stepE(ok:C.Ok){i:Nat}(I:Inv C done (i::rest) a H pd L act actg w φ bl)(hk:getK C.ks i= .e)(hL:Lb L i=false){o:Oper}(ho:lget C.all i=some o)(hr: ∀e∈o.after.toList,bindB e=true→Lb L e.on=true)
  (r:Option Nat) {K:Act→World→Prop} {Q:Exit→Act→World→Prop} (hK: ∀a₁ H₁ pd₁ act' actg' w' φ',Inv C (i::done) rest a₁ H₁ pd₁ (L.setIfInBounds i true) act' actg' w' φ' bl→K act' w'):wpOpIn (Fr r) 0 C.P ⟨C.all⟩ Q i K act w:=by
 obtain⟨o',ho',_,hed,_⟩:=ordOk_cons I.ord
 rw[ho]at ho'
 cases ho'
 have hsm:=I.same ok ho hL hed hr
 obtain⟨hgo,hcc⟩:=cRun_cons I.run ho
 have hwant:=hsm.wanted.trans (wantedV_sound (ops:=C.all) I.tr o hgo)
 rcases hcc with⟨h1,a₁,h2,h3⟩|⟨_,h2,_⟩|⟨h1,_,_,v,H₁,a₁,h3,h4,h5,h6⟩
 ·refine wpOpIn_of ho (fun hw=>by rw[hwant,h1]at hw;cases hw) (fun _=> ?_)
  exact hK _ _ _ _ _ _ _ (I.stepE1 ok hk hL ho hr (.refl φ w) (VR_undef φ) I.sim rfl h2 h3 fun j oj _ _=>⟨id,.inr (.inr rfl)⟩)
 ·rw[hk]at h2;cases h2
 ·refine wpOpIn_of ho (fun _=> ?_) (fun hw=>by rw[hwant,h1]at hw;cases hw)
  refine opRun_same ok.ng ok.fe I.tr I.sim hsm h3 r _ _ ?_
  intro v' w₁ φ₁ k1 k2 k3 k4
  exact hK _ _ _ _ _ _ _ (I.stepE1 ok hk hL ho hr k1 k2 k3 k4 h5 h6 fun j oj hoj hrf=>⟨fun hp=>keepP_mem hp hrf,.inr (.inl fun hp=>stable_spec h4 j hp hrf oj hoj)⟩)
theorem Inv.finish(ok:C.Ok)(I:Inv C done rest a H pd L act actg w φ bl)(hall: ∀i,i<C.all.length→Lb L i=true):
  ∃φ',St C.φ0 C.ws φ' w∧TR φ' C.res.1 act.tmps∧HSim C.w0 φ' C.res.2 w∧C.res.2.base=C.H0.base∧act.tmps.size=C.sz∧act.defers=C.ds:=by
 obtain⟨done',rest',a',H',pd',actg',φ',J,hJ⟩:=Inv.norm ok rest done a H pd actg φ I
 rcases hJ with rfl|⟨i,r,rfl,hL,_⟩
 ·have hrun:=J.run
  simp only[cRun,Option.some.injEq]at hrun
  refine⟨φ',J.st, ?_, ?_, ?_,J.sz1,J.defs⟩
  ·rw[←hrun]
   intro t
   rw[J.agree t fun x hx=>⟨fun _=>hall x (dstOf_lt hx),fun h=>by cases h⟩]
   exact J.tr t
  ·rw[←hrun];exact J.sim
  ·rw[←hrun];exact J.base
 ·obtain⟨_,o,ho⟩:=ordOk_mem J.ord i (by simp)
  rw[hall i (lget_lt ho)]at hL
  cases hL
theorem getD_true_Lb(hsz:L.size=C.all.length){i:Nat}(hi:i<C.all.length):L.getD i true=Lb L i:=by
 unfold Lb
 have:i<L.size:=by omega
 simp[this]
theorem ready_iff(hsz:L.size=C.all.length){i:Nat}:i∈Region.ready .any ⟨C.all⟩ L↔Lb L i=false∧ ∃o,lget C.all i=some o∧ ∀e∈o.after.toList,bindB e=true→Lb L e.on=true:=by
 rw[mem_ready]
 have e0:(⟨C.all⟩:Array Oper)[i]? =lget C.all i:=by rw[lget_eq];simp
 rw[e0]
 constructor
 ·rintro⟨h1,o,h2,h3⟩
  rw[getD_true_Lb hsz (lget_lt h2)]at h1
  exact⟨h1,o,h2,fun e he hb=>h3 e (by simpa using he) (by rw[←bindB_eq];exact hb)⟩
 ·rintro⟨h1,o,h2,h3⟩
  rw[←getD_true_Lb hsz (lget_lt h2)]at h1
  exact⟨h1,o,h2,fun e he hb=>h3 e (by simpa using he) (by rw[bindB_eq];exact hb)⟩
theorem none_ready(hsz:L.size=C.all.length)(hr:Region.ready .any ⟨C.all⟩ L= []){ks:List SK}{mk:List Nat}: ∀{rest before:List Nat},ordOk C.all ks mk before rest=true→(∀x∈before,Lb L x=true)→ ∀x∈rest,Lb L x=true
 | [],_,_,_,x,hx=>by cases hx
 |i::rest,before,ho,hb,x,hx=>by
  obtain⟨o,h1,_,h2,_,_,h3⟩:=ordOk_cons ho
  have hi:Lb L i=true:=by
   cases hq:Lb L i with
   |true=>rfl
   |false=>
    have:i∈Region.ready .any ⟨C.all⟩ L:=(ready_iff hsz).2 ⟨hq,o,h1,fun e he hbe=>hb _ (h2 e he hbe)⟩
    rw[hr]at this
    cases this
  rcases List.mem_cons.1 hx with rfl|hx
  ·exact hi
  ·exact none_ready hsz hr h3 (fun y hy=>by
    rcases List.mem_cons.1 hy with rfl|hy
    ·exact hi
    ·exact hb y hy) x hx
end
theorem Inv.any{C:Ctx}(ok:C.Ok){ord:List Nat}(hord:ordOk C.all C.ks C.ms [] ord=true)(hcov: ∀i,i<C.all.length→i∈ord)(r:Option Nat){Q:Exit→Act→World→Prop}
  (hQ: ∀act w φ,St C.φ0 C.ws φ w→TR φ C.res.1 act.tmps→HSim C.w0 φ C.res.2 w→C.res.2.base=C.H0.base→act.tmps.size=C.sz→act.defers=C.ds→Q .normal act w): ∀(fuel:Nat) (l:List Nat) (done rest:List Nat) (a:VT) (H:VH) (pd:List Nat) (L:Array Bool) (act actg:Act) (w:World) (φ:Phi) (bl:Nat→Nat),
  Inv C done rest a H pd L act actg w φ bl→(∀i,i<C.all.length→Lb L i=false→i∈l)→l.length≤fuel→wpAnyIn (Fr r) 0 C.P .any ⟨C.all⟩ Q fuel L act w:=by
 intro fuel
 have fin: ∀{done rest:List Nat} {a:VT} {H:VH} {pd:List Nat} {L:Array Bool} {act actg:Act} {w:World} {φ:Phi} {bl:Nat→Nat},Inv C done rest a H pd L act actg w φ bl→(∀i,i<C.all.length→Lb L i=true)→Q .normal act w:=by
  intro done rest a H pd L act actg w φ bl I hall
  obtain⟨φ',h1,h2,h3,h4,h5,h6⟩:=I.finish ok hall
  exact hQ act w φ' h1 h2 h3 h4 h5 h6
 induction fuel with
 |zero=>
  intro l done rest a H pd L act actg w φ bl I hl hlen
  have hall: ∀i,i<C.all.length→Lb L i=true:=by
   intro i hi
   cases hq:Lb L i with
   |true=>rfl
   |false=>have:=hl i hi hq;rw[List.length_eq_zero_iff.1 (Nat.le_zero.1 hlen)]at this;cases this
  refine⟨?_,fin I hall⟩
  refine List.eq_nil_iff_forall_not_mem.2 fun i hi=> ?_
  obtain⟨h1,o,h2,_⟩:=(ready_iff I.Lsz).1 hi
  rw[hall i (lget_lt h2)]at h1
  cases h1
 |succ fuel ih=>
  intro l done rest a H pd L act actg w φ bl I hl hlen
  refine⟨fun hr=>fin I fun i hi=>none_ready I.Lsz hr hord (fun x hx=>by cases hx) i (hcov i hi), ?_⟩
  intro i hi
  obtain⟨hL,o,ho,hrd⟩:=(ready_iff I.Lsz).1 hi
  have hil:=lget_lt ho
  have hisz:i<L.size:=by rw[I.Lsz];exact hil
  have hl': ∀j,j<C.all.length→Lb (L.setIfInBounds i true) j=false→j∈l.erase i:=by
   intro j hj hq
   have hji:j≠i:=fun e=>by subst e;rw[Lb_self hisz]at hq;cases hq
   rw[Lb_ne hisz hji]at hq
   exact(List.mem_erase_of_ne hji).2 (hl j hj hq)
  have hlen':(l.erase i).length≤fuel:=by
   rw[List.length_erase_of_mem (hl i hil hL)]
   omega
  obtain⟨done',rest',a',H',pd',actg',φ',J,hJ⟩:=Inv.norm ok rest done a H pd actg φ I
  have hrdo: ∀o',lget C.all i=some o'→ ∀e∈o'.after.toList,bindB e=true→Lb L e.on=true:=fun o' ho'=>by rw[ho]at ho';cases ho';exact hrd
  rcases J.cov i hil with hd|hd
  ·exact J.stepD ok hd hL ho hrd r fun act' actg'' K=>ih _ _ _ _ _ _ _ _ _ _ _ _ K hl' hlen'
  ·by_cases hka:getK C.ks i= .a
   ·exact J.stepA ok hd hka hL ho hrd r fun act' w' bl' K=>ih _ _ _ _ _ _ _ _ _ _ _ _ K hl' hlen'
   ·rcases hJ with rfl|⟨h,rr,rfl,hLh,hkh⟩
    ·cases hd
    ·have hih:i=h:=by
      rcases List.mem_cons.1 hd with e|hd
      ·exact e
      ·exfalso
       have key: ∀x,rch C.ms x i=true→Lb L x=true:=fun x hx=>J.predL ok hx hrdo
       cases hkk:getK C.ks h with
       |r=>exact hkh hkk
       |e=>
        obtain⟨p,q,hpq⟩:=List.append_of_mem hd
        have:=ordOk_eff J.ord (h::p) i q (by simp[hpq]) hka h (.inr (by simp)) hkk
        rw[key h this]at hLh
        cases hLh
       |a=>
        obtain⟨_,_,_,_,hga,_,hordr⟩:=ordOk_cons J.ord
        obtain⟨pre,k,post,h1,h2,h3,h4⟩:=headOk_spec (hga hkk).2 i hd hka
        rcases h4 with rfl|h4
        ·rw[key h h3]at hLh;cases hLh
        ·obtain⟨p,q,hpq⟩:=List.append_of_mem h4
         have hr1:=ordOk_eff hordr (pre++k::p) i q (by rw[h1,hpq];simp) hka k (.inr (by simp)) h2
         have hLk:=key k hr1
         have:=J.early k (by rw[h1];simp) hLk
         rw[h2]at this
         cases this
     subst hih
     have hke:getK C.ks i= .e:=by
      cases hkk:getK C.ks i with
      |r=>exact absurd hkk hkh
      |a=>exact absurd hkk hka
      |e=>rfl
     exact J.stepE ok hke hL ho hrd r fun a₁ H₁ pd₁ act' actg'' w' φ'' K=>ih _ _ _ _ _ _ _ _ _ _ _ _ K hl' hlen'
theorem drawRun_sound{P:Program}(hng:NoNG P)(hm:P.follows .mixedOrders=true){fe:FE}(hfe:FEok P fe):DEok P (drawRun P fe):=by
 intro w0 nt id ops a H a₁ H₁ h hb r φ act w ht hs hn b hd
 unfold drawRun drawK drawGo at h
 generalize hms:masks ops []=ms at h
 generalize hks:kinds P ops ms ops.length 0 [] 0 ops=ks at h
 generalize hord:canonOrd ks ms ops.length=ord at h
 generalize hld:lateDs P ops ks=ld at h
 cases hok:regOk ops ks ms ord ops.length with
 |false=>rw[hok]at h;cases h
 |true=>
  rw[hok]at h
  simp only at h
  cases hlt:ldOk nt ld with
  |false=>rw[hlt]at h;cases h
  |true=>
  rw[hlt]at h
  simp only at h
  unfold regOk at hok
  cases h1:ordOk ops ks ms [] ord with
  |false=>rw[h1]at hok;cases hok
  |true=>
   rw[h1]at hok
   simp only at hok
   cases h2:allN (fun i=>memN i ord) (upto ops.length 0)with
   |false=>rw[h2]at hok;cases hok
   |true=>
    rw[h2]at hok
    simp only at hok
    cases h3:wrsOk ops ks ms ops.length (upto ops.length 0)with
    |false=>rw[h3]at hok;cases hok
    |true=>
    rw[h3]at hok
    simp only at hok
    have hcov: ∀i,i<ops.length→i∈ord:=fun i hi=>memN_iff.1 (allN_iff.1 h2 i (mem_upto.2 ⟨by omega,by omega⟩))
    have hpairs:Pairs ops ks ms:=pairs_of rfl h3 fun x hx=>allN_iff.1 hok x (mem_upto.2 ⟨by omega,by omega⟩)
    refine wpIn_region_any hm ?_
    let C:Ctx:={P,fe,nt,all:=ops,ks,ms,w0,ws:={w with drawn:=w.drawn+1},φ0:=φ,H0:=H,sz:=act.tmps.size,ld,ds:=act.defers,res:=(a₁,H₁)}
    have ok:C.Ok:=⟨hng,hfe,hb,hn,hms.symm,hks.symm,hld.symm,ldOk_spec hlt,hpairs⟩
    have hL0: ∀i,Lb (Array.replicate ops.length false) i=false:=by
     intro i
     unfold Lb
     simp only[Array.getD_eq_getD_getElem?,Array.getElem?_replicate]
     split<;>rfl
    have hdr:St φ w φ {w with drawn:=w.drawn+1}:=St.drew rfl rfl rfl rfl
    refine Inv.any (C:=C) ok h1 hcov r (Q:=PostC b w0 φ w act.tmps.size H .normal a₁ H₁) ?_ ops.length (upto ops.length 0) [] ord a H [] (Array.replicate ops.length false) act act {w with drawn:=w.drawn+1} φ (fun _=>0) ?_ ?_ ?_
    ·intro act' w' φ' k1 k2 k3 k4 k5 k6
     exact⟨φ',rfl,hdr.trans k1,k2,k3,k4,k5,by rw[k6];exact hd.step (hdr.trans k1) k4⟩
    ·refine⟨h,h1,fun i hi=>.inr (hcov i hi),(fun i hi=>by cases hi),(fun j o hj=>by cases hj),(by simp[C]), ?_, ?_,(fun i hi=>by cases hi),ht,rfl,rfl,rfl,(fun _ _=>rfl),(fun i o hi=>by cases hi), ?_, ?_, ?_,hs.heap rfl,St.refl _ _,rfl⟩
     ·intro j o hj;rw[hL0]at hj;cases hj
     ·intro i _ hq;rw[hL0]at hq;cases hq
     ·intro i o _ hq;rw[hL0]at hq;cases hq
     ·intro i j _ _ hq;rw[hL0]at hq;cases hq
     ·intro i o _ hq;rw[hL0]at hq;cases hq
    ·intro i hi _
     exact mem_upto.2 ⟨by omega,by simpa[C]using hi⟩
    ·have: ∀n s,(upto n s).length=n:=by
      intro n
      induction n with
      |zero=>intro s;rfl
      |succ n ih=>intro s;simp[upto,ih]
     rw[this]
     exact Nat.le_refl _
end Go.Ev
