/- Engine, part S: regions that draw their order: sound. -/
import Derived.Test.YtmmmknhdigapkaaEvR
namespace Go.Ev
theorem a5J{r:Option Nat}{P:Program}{all:List Oper}{Q:Exit→Act→World→Prop}{i:Nat}{K:Act→World→Prop}{act:Act}{w:World}{o:Oper}(ho:a0H all i=some o)
  (h1:Region.wanted o (yielded ⟨all⟩ act.tmps)=true→o.wpIn (Fr r) 0 P act w K Q) (h2:Region.wanted o (yielded ⟨all⟩ act.tmps)=false→K (act.put o.dst undef) w):wpOpIn (Fr r) 0 P ⟨all⟩ Q i K act w:=by
 have hg:(⟨all⟩:Array Oper)[i]? =some o:=by rw[a0K]at ho;simpa using ho
 unfold wpOpIn;rw[hg];simp only;cases hw:Region.wanted o (yielded ⟨all⟩ act.tmps)with
 |true=>rw[if_pos rfl];exact h1 hw
 |false=>rw[if_neg (by simp)];exact⟨fun _ _=>trivial,h2 hw⟩
theorem a6o{t:Nat}{tmps:Array Value}(h: ¬t<tmps.size):tmps.getD t undef=undef:=by simp[Array.getD,h]
section
variable{C:Ctx}{done rest:List Nat}{a:VT}{H:VH}{pd:List Nat}{L:Array Bool}{act actg:Act}{w:World}{φ:Phi}{bl:Nat→Nat}
theorem a1y{i j:Nat}(hi:i<L.size)(h:j≠i):Lb (L.setIfInBounds i true) j=Lb L j:=by rw[c3P hi,if_neg h]
theorem c4i{i j:Nat}(hi:i<L.size)(h:Lb L j=true):Lb (L.setIfInBounds i true) j=true:=by
 rw[c3P hi];split
 ·rfl
 ·exact h
theorem a6V{i:Nat}(hi:i<L.size):Lb (L.setIfInBounds i true) i=true:=by rw[c3P hi,if_pos rfl]
theorem d7N{P:Program}{all:List Oper}{mk:List Nat}{n i:Nat}{o:Oper}(ho:a0H all i=some o)(h:cls P o.op=2):a1D (kinds P all mk n 0 [] 0 all) i= .a:=by unfold a1D;obtain⟨late',es',hl⟩:=a5y (P:=P) (all:=all) (mk:=mk) (n:=n) all 0 [] 0 i o ho;rw[hl];simp only;unfold kindOf;simp only[h]
theorem d8S{a b:Nat}(h:a≠b):Nat.beq a b=false:=by
 cases hb:Nat.beq a b with
 |false=>rfl
 |true=>exact absurd (Nat.eq_of_beq_eq_true hb) h
theorem c3u[Ext](ok:C.Ok){u:Nat}{o:Oper}(ho:a0H C.all u=some o)(h:cls C.P o.op=2):a1D C.ks u= .a:=by rw[ok.ks];exact d7N ho h
theorem Pend.isA[Ext](ok:C.Ok){u:Nat}(h:Pend C rest L u):a1D C.ks u= .a:=by
 obtain⟨_,o,h2,h3⟩:=h;refine c3u ok h2 ?_;rcases h3 with⟨h4,_⟩|⟨m,h4,_⟩
 ·exact h4
 ·exact c0T h4
theorem Pend.unset[Ext](ok:C.Ok){i u:Nat}(hsz:i<L.size)(hne:u=i→a1D C.ks u≠ .a)(h:Pend C rest (L.setIfInBounds i true) u):Pend C rest L u:=by have hu:u≠i:=fun e=>hne e (h.isA ok);obtain⟨h1,h2⟩:=h;exact⟨by rwa [a1y hsz hu]at h1,h2⟩
theorem Inv.stepD1[Ext](ok:C.Ok)(I:Inv C done rest a H pd L act actg w φ bl){i:Nat}(hi:i∈done)(hL:Lb L i=false){o:Oper}(ho:a0H C.all i=some o)(hr: ∀e∈o.after.toList,a1h e=true→Lb L e.on=true)
  {v:VV} {v':Value} (hv:VR φ v v') (hd: ∀d,o.dst=some d→a1I a d=v):Inv C done rest a H pd (L.setIfInBounds i true) (act.put o.dst v') (actg.put o.dst v') w φ bl:=by
 have hsz:i<L.size:=by rw[I.Lsz];exact a0M ho
 refine⟨I.run,I.ord,I.cov,I.dlt,I.closed,by simpa using I.Lsz, ?_, ?_, ?_, ?_,by rw[b1Q];exact I.sz1,by rw[b1Q];exact I.sz2,by rw[b4n];exact I.defs, ?_, ?_, ?_, ?_, ?_, ?_,I.sim,I.st,I.base⟩
 ·intro j oj hj hoj e he hb
  by_cases hji:j=i
  ·subst hji;rw[ho]at hoj;cases hoj;exact c4i hsz (hr e he hb)
  ·rw[a1y hsz hji]at hj;exact c4i hsz (I.Lcl j oj hj hoj e he hb)
 ·intro j hj hq;have hji:j≠i:=fun e=>I.apart hj (e▸hi);rw[a1y hsz hji]at hq;exact I.early j hj hq
 ·intro j hj hq;have hji:j≠i:=fun e=>by subst e;rw[a6V hsz]at hq;cases hq
  rw[a1y hsz hji]at hq;exact I.late j hj hq
 ·intro t;rw[a0Y]
  by_cases h:o.dst=some t∧t<actg.tmps.size
  ·rw[if_pos h,hd t h.1];exact hv
  ·rw[if_neg h];exact I.tr t
 ·intro t h;rw[a0Y,a0Y,I.sz1,I.sz2]
  by_cases hc:o.dst=some t∧t<C.sz
  ·rw[if_pos hc,if_pos hc]
  ·rw[if_neg hc,if_neg hc]
   by_cases hdt:o.dst=some t
   ·have hlt: ¬t<C.sz:=fun hx=>hc ⟨hdt,hx⟩;rw[a6o (by rw[I.sz1];exact hlt),a6o (by rw[I.sz2];exact hlt)]
   ·refine I.agree t fun x hx=> ?_;have hxi:x≠i:=fun e=>by subst e;rw[a0E ho]at hx;exact hdt hx
    have:=h x hx;rw[a1y hsz hxi]at this;exact this
 ·intro j oj hj hq hoj;have hji:j≠i:=fun e=>by subst e;rw[a6V hsz]at hq;cases hq
  rw[a1y hsz hji]at hq;exact I.reads j oj hj hq hoj
 ·intro j oj hj hq hoj;have hji:j≠i:=fun e=>I.apart hj (e▸hi);rw[a1y hsz hji]at hq;have hka:=I.early j hj hq;refine(I.allocs j oj hj hq hoj).mono (fun _ _ _ hu=>⟨rfl,hu⟩) (fun d hdj=> ?_) rfl (a4i (all:=C.all) fun t ht=> ?_)
  ·rw[a0Y,if_neg];rintro⟨e,_⟩;exact ok.pairs.sole j d (by rw[a0E hoj];exact hdj) hka i (a0M ho) (Ne.symm hji) (by rw[a0E ho];exact e)
  ·rw[a0Y,if_neg];rintro⟨e,_⟩;have:=ok.pairs.wr j (a0M hoj) hka i t (by rw[a0E ho];exact e) (by rw[a0Q hoj];exact ht);rw[I.predL ok this fun o' ho'=>I.Lcl j o' hq ho']at hL;cases hL
 ·intro g og m h1 h2 h3 h4;have hne:a0o C.all m≠[]:=by obtain⟨z,hz,_⟩:=h4;exact List.ne_nil_of_mem hz
  obtain⟨g1,g2,_⟩:=ok.pairs.grp g og m h1 h2 hne;have hir:=I.late i hi hL;have hgi:g≠i:=fun e=>by subst e;rw[g1]at hir;cases hir
  rw[a1y hsz hgi]at h3;refine(I.maps g og m h1 h2 h3 h4).mono (fun _ hu=>⟨rfl,hu⟩) (fun x hx=>a1y hsz fun e=>by subst e;rw[(g2 x hx).1]at hir;cases hir) ?_ rfl (fun x ox hx hxL hox=>a4i (all:=C.all) fun t ht=> ?_)
  ·rw[a0Y,if_neg];rintro⟨e,_⟩;exact ok.pairs.sole g m (by rw[a0E h1];exact a2u h2) g1 i (a0M ho) (Ne.symm hgi) (by rw[a0E ho];exact e)
  ·rw[a0Y,if_neg];rintro⟨e,_⟩;have:=ok.pairs.wr x (a0M hox) (g2 x hx).1 i t (by rw[a0E ho];exact e) (by rw[a0Q hox];exact ht);rw[I.predL ok this fun o' ho'=>I.Lcl x o' hxL ho']at hL;cases hL
 ·intro x y hx hy;have hir:=I.late i hi hL;have hn: ∀u,Pend C rest (L.setIfInBounds i true) u→Pend C rest L u:=fun u hu=>hu.unset ok hsz fun e=>by rw[e,hir];simp
  exact I.dist x y (hn x hx) (hn y hy)
 ·intro j oj hkj hq hoj d hdj;have hji:j≠i:=fun e=>by subst e;have:=I.late j hi hL;rw[hkj]at this;cases this
  rw[a1y hsz hji]at hq;rw[a0Y,if_neg]
  ·exact I.lval j oj hkj hq hoj d hdj
  ·rintro⟨e,_⟩;exact ok.pairs.sole j d (by rw[a0E hoj];exact hdj) hkj i (a0M ho) (Ne.symm hji) (by rw[a0E ho];exact e)
theorem Inv.stepD[Ext](ok:C.Ok)(I:Inv C done rest a H pd L act actg w φ bl){i:Nat}(hi:i∈done)(hL:Lb L i=false){o:Oper}(ho:a0H C.all i=some o)(hr: ∀e∈o.after.toList,a1h e=true→Lb L e.on=true)
  (r:Option Nat) {K:Act→World→Prop} {Q:Exit→Act→World→Prop} (hK: ∀act' actg',Inv C done rest a H pd (L.setIfInBounds i true) act' actg' w φ bl→K act' w):wpOpIn (Fr r) 0 C.P ⟨C.all⟩ Q i K act w:=by
 have hsm:=I.same ok ho hL (fun e he hb=>I.closed i o hi ho e he hb) hr;obtain⟨hgo,hrd⟩:=I.reads i o hi hL ho;have hwant:=hsm.wanted.trans (a3F (ops:=C.all) I.tr o hgo);refine a5J ho (fun hw=> ?_) (fun hw=> ?_)
 ·rcases hrd with⟨h1,_⟩|⟨h1,v,h2,h3,_⟩
  ·rw[hwant,h1]at hw;cases hw
  ·obtain⟨hs1,hs2⟩:=b8M h2;refine⟨fun _ _=>trivial, ?_⟩;rw[show(Fr r).round=r from rfl,Oper.semAt_eq _ _ _ hs2,hsm.exec hs1];obtain⟨v',k1,k2⟩:=a7n h2 (a8a (P:=C.P) I.tr I.sim o);rw[k1];exact hK _ _ (I.stepD1 ok hi hL ho hr k2 h3)
 ·rcases hrd with⟨_,h2⟩|⟨h1,_⟩
  ·exact hK _ _ (I.stepD1 ok hi hL ho hr (a2R φ) h2)
  ·rw[hwant,h1]at hw;cases hw
def Later(C:Ctx)(a a₁:VT)(T:Nat→Prop):Prop:= ∀t,T t→a1I a₁ t=a1I a t∨ ∃x,a1H C.all x=some t∧a1D C.ks x= .a
theorem Later.trans{a b c:VT}{T:Nat→Prop}(h:Later C a b T)(k:Later C b c T):Later C a c T:=by
 intro t ht;rcases k t ht with k|k
 ·rcases h t ht with h|h
  ·exact .inl (k.trans h)
  ·exact .inr h
 ·exact .inr k
theorem a9P[Ext](ok:C.Ok){i:Nat}{o:Oper}{m:Nat}(ho:a0H C.all i=some o)(hk:a1D C.ks i= .a)(hm:a8x o.op=some m):o.dst=none∧ ∃g og,a0H C.all g=some og∧mkM og=some m∧a1D C.ks g= .a:=by
 rcases c2S ho (by rw[←ok.ks];exact hk)with h|h|⟨m',h1,h2,h3⟩
 ·rw[a8S hm]at h;cases h
 ·obtain⟨t,kk,v,e⟩:=a7Y hm;rw[e]at h;cases h
 ·rw[hm]at h1;cases h1;obtain⟨g,og,hg1,hg2⟩:=a9R h3;exact⟨h2,g,og,hg1,hg2,(ok.pairs.grp g og m hg1 hg2 (List.ne_nil_of_mem (a1d.2 ⟨o,ho,hm⟩))).1⟩
theorem b8v[Ext](ok:C.Ok){x:Nat}{rest:List Nat}{a:VT}{H:VH}{pd:List Nat}{r:VT×VH}(h:a8o C.P C.fe C.nt C.all C.ks C.ms C.H0.base C.ld (x::rest) a H pd=some r){ox:Oper}(hox:a0H C.all x=some ox){T:Nat→Prop}
  (hw: ∀t,T t→a1H C.all x=some t→a1D C.ks x= .a): ∃a₁ H₁ pd₁,a8o C.P C.fe C.nt C.all C.ks C.ms C.H0.base C.ld rest a₁ H₁ pd₁=some r∧Later C a a₁ T:=by
 have step: ∀{a₁:VT} {v:VV},a5T C.nt a ox.dst v=some a₁→Later C a a₁ T:=by
  intro a₁ v hp t ht;rw[a3R ok.nt hp]
  by_cases hd:ox.dst=some t
  ·have hdx:a1H C.all x=some t:=by rw[a0E hox];exact hd
   exact .inr ⟨x,hdx,hw t ht hdx⟩
  ·rw[if_neg hd];exact .inl rfl
 obtain⟨_,hc⟩:=a4S h hox;rcases hc with⟨_,a₁,hp,h⟩|⟨_,_,_,a₁,_,hp,h⟩|⟨_,_,_,_,_,a₁,_,_,hp,h⟩|⟨_,_,_,_,a₁,hp,h⟩|⟨hk,_,m,hm,hc⟩
 ·exact⟨a₁,_,_,h,step hp⟩
 ·exact⟨a₁,_,_,h,step hp⟩
 ·exact⟨a₁,_,_,h,step hp⟩
 ·exact⟨a₁,_,_,h,step hp⟩
 ·rcases hc with⟨_,h⟩|⟨_,a₁,H₁,hse,_,h⟩
  ·exact⟨a,_,_,h,fun t _=>.inl rfl⟩
  ·refine⟨a₁,_,_,h,fun t ht=> ?_⟩;unfold c3j at hse;split at hse
   ·simp only[Option.some.injEq,Prod.mk.injEq]at hse;obtain⟨rfl,rfl⟩:=hse
    by_cases e:t=m
    ·subst e;obtain⟨_,g,og,g1,g2,g3⟩:=a9P ok hox hk hm;exact .inr ⟨g,by rw[a0E g1];exact a2u g2,g3⟩
    ·refine .inl ?_;unfold a1I;rw[TT.get_put_other _ _ _ _ e]
   ·cases hse
theorem b3C[Ext](ok:C.Ok){i:Nat}{r:VT×VH}(hk:a1D C.ks i= .a){o:Oper}(ho:a0H C.all i=some o){T:Nat→Prop}: ∀{rest before:List Nat} {a:VT} {H:VH} {pd:List Nat},a9J C.all C.ks C.ms before rest=true→a8o C.P C.fe C.nt C.all C.ks C.ms C.H0.base C.ld rest a H pd=some r→i∈rest→
  (∀x∈rest,∀t,T t→a1H C.all x=some t→a1D C.ks x= .a)→o.guard=none∧ ∃a₁ rest₁,b0I C.P C.H0.base C.all C.ld rest₁ o a₁=true∧Later C a a₁ T
 | [],_,_,_,_,_,_,hi,_=>by cases hi
 |x::rest,before,a,H,pd,hord,hrun,hi,hw=>by
  obtain⟨ox,hox,_,_,hga,_,hord'⟩:=a0j hord
  by_cases hxi:i=x
  ·subst hxi;rw[ho]at hox;cases hox;have hg:=(hga hk).1;refine⟨hg, ?_⟩;obtain⟨_,hc⟩:=a4S hrun ho;rcases hc with⟨h1,_⟩|⟨_,h2,_⟩|⟨_,_,h3,_⟩|⟨_,h3,_⟩|⟨_,h3,_⟩
   ·rw[hg]at h1;cases h1
   ·rw[hk]at h2;cases h2
   ·exact⟨a,rest,h3 hk,fun t _=>.inl rfl⟩
   ·exact⟨a,rest,h3,fun t _=>.inl rfl⟩
   ·exact⟨a,rest,h3,fun t _=>.inl rfl⟩
  ·have hi':i∈rest:=by
    rcases List.mem_cons.1 hi with h|h
    ·exact absurd h hxi
    ·exact h
   obtain⟨a₁,H₁,pd₁,h,hl⟩:=b8v ok hrun hox (T:=T) (hw x (by simp));obtain⟨h1,a₂,rest₂,h2,h3⟩:=b3C ok hk ho hord' h hi' fun y hy=>hw y (List.mem_cons_of_mem _ hy);exact⟨h1,a₂,rest₂,h2,hl.trans h3⟩
theorem b8w[Ext](ok:C.Ok){m:Nat}{r:VT×VH}(hA: ∀x∈a0o C.all m,a1D C.ks x= .a){T:Nat→Prop}: ∀{rest before:List Nat} {a:VT} {H:VH} {pd:List Nat},a9J C.all C.ks C.ms before rest=true→a8o C.P C.fe C.nt C.all C.ks C.ms C.H0.base C.ld rest a H pd=some r→(∃i∈rest,i∈a0o C.all m)→
  (∀x∈rest,∀t,T t→a1H C.all x=some t→a1D C.ks x= .a)→ ∃a₁,d2m C.P C.H0.base C.all (a1a C.ld a₁) (a0o C.all m)=true∧Later C a a₁ T
 | [],_,_,_,_,_,_,hi,_=>by obtain⟨_,h,_⟩:=hi;cases h
 |x::rest,before,a,H,pd,hord,hrun,hi,hw=>by
  obtain⟨ox,hox,_,_,hga,_,hord'⟩:=a0j hord
  by_cases hex: ∃i∈rest,i∈a0o C.all m
  ·obtain⟨a₁,H₁,pd₁,h,hl⟩:=b8v ok hrun hox (T:=T) (hw x (by simp));obtain⟨a₂,h2,h3⟩:=b8w ok hA hord' h hex fun y hy=>hw y (List.mem_cons_of_mem _ hy);exact⟨a₂,h2,hl.trans h3⟩
  ·obtain⟨i,hi1,hi2⟩:=hi;rcases List.mem_cons.1 hi1 with rfl|hi1
   ·have hk:=hA i hi2;obtain⟨o',ho',hm⟩:=a1d.1 hi2;rw[hox]at ho';cases ho';have hg:=(hga hk).1
    have han:a7m (a0o C.all m) rest=false:=by
     cases h:a7m (a0o C.all m) rest with
     |false=>rfl
     |true=>obtain⟨y,y1,y2⟩:=a6P.1 h;exact absurd ⟨y,y1,y2⟩ hex
    obtain⟨_,hc⟩:=a4S hrun hox;rcases hc with⟨h1,_⟩|⟨_,h2,_⟩|⟨_,h2,_⟩|⟨_,_,_,h2,_⟩|⟨_,h3,_⟩
    ·rw[hg]at h1;cases h1
    ·rw[hk]at h2;cases h2
    ·rcases h2 with h2|⟨_,h2,_⟩
     ·rw[hk]at h2;cases h2
     ·rw[hm]at h2;cases h2
    ·rw[hm]at h2;cases h2
    ·unfold b0I at h3;rw[hm]at h3;simp only[han]at h3;exact⟨a,h3,fun t _=>.inl rfl⟩
   ·exact absurd ⟨i,hi1,hi2⟩ hex
theorem c6v[Ext](ok:C.Ok): ∀p∈C.ld,p.1<top:=fun p hp=>Nat.lt_of_lt_of_le (ok.ldt p hp) ok.nt
theorem Later.same[Ext](ok:C.Ok){a a₁:VT}{T:Nat→Prop}(h:Later C a a₁ T)(t:Nat)(ht:T t):a1I (a1a C.ld a) t=a1I (a1a C.ld a₁) t:=by
 rcases a6f C.ld (c6v ok) (t:=t)with⟨v,_,h2⟩|⟨h1,h2⟩
 ·rw[h2,h2]
 ·rw[h2,h2];rcases h t ht with h|⟨x,hx,hxa⟩
  ·exact h.symm
  ·exfalso;have hxl:=a3J hx;have hox:a0H C.all x=some C.all[x]:=by rw[a0K];simp[hxl]
   have:=a4K (P:=C.P) C.all C.ks x _ hox (c2Z hxa) (by rw[←a0E hox];exact hx);rw[←ok.ld]at this;exact h1 _ this
theorem Inv.frame[Ext](ok:C.Ok)(I:Inv C done rest a H pd L act actg w φ bl){T:Nat→Prop}(hT: ∀x t,a1H C.all x=some t→T t→Lb L x=true): ∃actm:Act,TR φ (a1a C.ld a) actm.tmps∧ ∀t,T t→act.tmps.getD t undef=actm.tmps.getD t undef:=by
 have hlsz: ∀t v,(t,v)∈C.ld→t<C.sz:=fun t v h=>Nat.lt_of_lt_of_le (ok.ldt _ h) ok.sz
 have hlv: ∀t v,(t,v)∈C.ld→T t→VR φ v (act.tmps.getD t undef):=by
  intro t v h ht;rw[ok.ld]at h;obtain⟨x,ox,h1,h2,h3,rfl⟩:=a9N _ _ h;have hx:a1H C.all x=some t:=by rw[a0E h1];exact h3
  exact I.lval x ox (by simp[a1D,h2]) (hT x t hx ht) h1 t h3
 have hinh: ∀t v,(t,v)∈C.ld→ ∃u,VR φ v u:=by intro t v h;rw[ok.ld]at h;obtain⟨x,ox,h1,h2,h3,rfl⟩:=a9N _ _ h;exact c6i C.P φ ox.type
 have hval: ∀t,∃u,(t<C.sz→VR φ (a1I (a1a C.ld a) t) u)∧(T t→t<C.sz→u=act.tmps.getD t undef):=by
  intro t;rcases a6f C.ld (c6v ok) (t:=t)with⟨v,h1,h2⟩|⟨h1,h2⟩
  ·by_cases ht:T t
   ·exact⟨_,fun _=>by rw[h2];exact hlv t v h1 ht,fun _ _=>rfl⟩
   ·obtain⟨u,hu⟩:=hinh t v h1;exact⟨u,fun _=>by rw[h2];exact hu,fun h=>absurd h ht⟩
  ·refine⟨actg.tmps.getD t undef,fun _=>by rw[h2];exact I.tr t,fun ht _=> ?_⟩;refine(I.agree t fun x hx=> ?_).symm;have hxL:=hT x t hx ht;refine⟨fun _=>hxL,fun hxr=> ?_⟩;have hxa:=I.early x hxr hxL;have hxl:=a3J hx;have hox:a0H C.all x=some C.all[x]:=by rw[a0K];simp[hxl]
   have:=a4K (P:=C.P) C.all C.ks x _ hox (c2Z hxa) (by rw[←a0E hox];exact hx);rw[←ok.ld]at this;exact absurd this (h1 _)
 have hgen: ∃g:Nat→Value,∀t,(t<C.sz→VR φ (a1I (a1a C.ld a) t) (g t))∧(T t→t<C.sz→g t=act.tmps.getD t undef):=⟨fun t=>(hval t).choose,fun t=>(hval t).choose_spec⟩;obtain⟨g,hgs⟩:=hgen
 have getg: ∀t,((Array.range C.sz).map g).getD t undef=if t<C.sz then g t else undef:=by
  intro t
  by_cases h:t<C.sz
  ·simp[Array.getD,h]
  ·simp[Array.getD,h]
 refine⟨{tmps:=(Array.range C.sz).map g,defers:=[]},fun t=> ?_,fun t ht=> ?_⟩
 ·simp only[getg]
  by_cases h:t<C.sz
  ·rw[if_pos h];exact(hgs t).1 h
  ·rw[if_neg h];rcases a6f C.ld (c6v ok) (t:=t)with⟨v,h1,h2⟩|⟨h1,h2⟩
   ·exact absurd (hlsz t v h1) h
   ·rw[h2];have:=I.tr t
    rwa [a6o (by rw[I.sz2];exact h)]at this
 ·simp only[getg]
  by_cases h:t<C.sz
  ·rw[if_pos h];exact((hgs t).2 ht h).symm
  ·rw[if_neg h,a6o (by rw[I.sz1];exact h)]
theorem Inv.lateRuns[Ext](ok:C.Ok)(I:Inv C done rest a H pd L act actg w φ bl){i:Nat}(hi:i∈rest)(hk:a1D C.ks i= .a){o:Oper}(ho:a0H C.all i=some o)(him:a8x o.op=none)(hr: ∀e∈o.after.toList,a1h e=true→Lb L e.on=true):
  o.guard=none∧((cls C.P o.op=2∧ ∃(k:NK) (obj:Obj),(∀w',(execOp act.eval o).run C.P w'= .ok (.value (k.real w'.heap.size)) (w'.alloc obj))∧a8K C.P o.type= .one∧ ∃av vo,a3h C.P o.op av=some (k,vo)∧ ∀b,OR φ ⟨b,0,0⟩ vo obj)∨
   (isU o.op=true∧ ∃v',(∀w',(execOp act.eval o).run C.P w'= .ok (.value v') w')∧VR φ (a8K C.P o.type) v')):=by
 have hr': ∀o',a0H C.all i=some o'→ ∀e∈o'.after.toList,a1h e=true→Lb L e.on=true:=fun o' ho'=>by rw[ho]at ho';cases ho';exact hr
 have hwr: ∀x t,a1H C.all x=some t→t∈looks C.all o→Lb L x=true:=fun x t hx ht=>I.predL ok (ok.pairs.wr i (a0M ho) hk x t hx (by rw[a0Q ho];exact ht)) hr'
 obtain⟨hg,a₁,rest₁,hl,ha₁⟩:=b3C ok hk ho (T:=fun t=>t∈looks C.all o) I.ord I.run hi fun x hx t ht hd=>I.early x hx (hwr x t hd ht);refine⟨hg, ?_⟩;obtain⟨actm,htm,hsm⟩:=I.frame ok (T:=fun t=>t∈looks C.all o) hwr;have hsm:Same C.all o act actm:=hsm
 have hcon: ∀x∈o.op.operands,a0A (a1a C.ld a₁) x=a0A (a1a C.ld a) x:=
  SameV.operands (all:=C.all) (o:=o) fun t ht=>(ha₁.same ok t ht).symm
 unfold b0I at hl;rw[him]at hl;simp only at hl;cases hu:isU o.op with
 |true=>
  rw[hu]at hl;simp only at hl;rw[c7T hcon]at hl;cases he:evU C.P o.op (a1a C.ld a)with
  |none=>rw[he]at hl;cases hl
  |some v=>rw[he]at hl;simp only at hl;obtain⟨v',r1,r2⟩:=b8K htm o he;refine .inr ⟨rfl,v',fun w'=> ?_,c0n hl r2⟩;rw[hsm.exec (by intro cs b e;rw[e]at hu;cases hu)];exact r1 w'
 |false=>
  rw[hu]at hl;simp only at hl;rw[c0u hcon]at hl;cases he:a3h C.P o.op (a1a C.ld a)with
  |none=>rw[he]at hl;cases hl
  |some ko=>
   obtain⟨k,vo⟩:=ko;rw[he]at hl;simp only at hl;obtain⟨obj,r1,r2⟩:=a2C htm o he
   have hc:cls C.P o.op=2:=by
    rcases c2S ho (by rw[ok.ks]at hk;exact hk)with h|h|⟨m,h,_⟩
    ·exact h
    ·rw[hu]at h;cases h
    ·rw[him]at h;cases h
   refine .inl ⟨hc,k,obj,fun w'=> ?_,c9z hl,_,vo,he,r2⟩;rw[hsm.exec (by intro cs b e;rw[e]at he;cases he)];exact r1 w'
theorem a8Y{d:TypeDesc}{k':Value}: ∀{es:List MapEntry} {n:Nat},(∀e∈es,Instr.sameNow d k' e.key=some false)→Instr.findNow d k' es n=some none
 | [],_,_=>rfl
 |e::es,n,h=>by simp only[Instr.findNow,h e (by simp)];exact a8Y fun x hx=>h x (by simp[hx])
theorem Ents.mem{e:MapEntry}: ∀{l:List Nat} {es:List MapEntry},Ents C act l es→e∈es→ ∃x∈l,∃o t m k v,a0H C.all x=some o∧o.op= .insert t (.tmp m) k v∧e.key=act.eval k
 | [],es,h,he=>by simp only[Ents]at h;subst h;cases he
 |x::l,es,h,he=>by
  obtain⟨o,t,m,kk,v,e',es',h1,h2,rfl,h4,h5,h6⟩:=h;rcases List.mem_cons.1 he with rfl|he
  ·exact⟨x,by simp,o,t,m,kk,v,h1,h2,h4⟩
  ·obtain⟨y,hy,r⟩:=Ents.mem h6 he;exact⟨y,by simp[hy],r⟩
theorem Ents.snoc{x:Nat}{o:Oper}{t:TypeId}{m:Nat}{kk v:Operand}{e:MapEntry}(ho:a0H C.all x=some o)(hop:o.op= .insert t (.tmp m) kk v)(hk:e.key=act.eval kk)(hv:e.val=act.eval v): ∀{l:List Nat} {es:List MapEntry},Ents C act l es→Ents C act (l++ [x]) (es++ [e])
 | [],es,h=>by simp only[Ents]at h;subst h;exact⟨o,t,m,kk,v,e,[],ho,hop,rfl,hk,hv,rfl⟩
 |y::l,es,h=>by obtain⟨o',t',m',kk',v',e',es',h1,h2,rfl,h4,h5,h6⟩:=h;exact⟨o',t',m',kk',v',e',es'++ [e],h1,h2,rfl,h4,h5,Ents.snoc ho hop hk hv h6⟩
theorem c0q{ρ:Operand→Value}{o:Oper}{t:TypeId}{m k v:Operand}(h:o.op= .insert t m k v):execOp ρ o=(do Instr.mapUpdate t (ρ m) (ρ k) (ρ v);pure Next.skip):=by obtain⟨dst,op,type,pos,after,guard⟩:=o;simp only at h;subst h;rfl
theorem b7y{all:List Oper}{o:Oper}{m:Nat}(h:a8x o.op=some m):m∈looks all o:=by obtain⟨t,kk,v,e⟩:=a7Y h;refine a6k ?_;rw[e];simp[Op.operands,a4B]
theorem Inv.insRuns[Ext](ok:C.Ok)(I:Inv C done rest a H pd L act actg w φ bl){i:Nat}(hi:i∈rest)(hk:a1D C.ks i= .a)(hL:Lb L i=false){o:Oper}(ho:a0H C.all i=some o){m:Nat}(hm:a8x o.op=some m)(hr: ∀e∈o.after.toList,a1h e=true→Lb L e.on=true):
  o.guard=none∧ ∃t kk v kt et kd,o.op= .insert t (.tmp m) kk v∧C.P.underlying t=some (.map kt et)∧C.P.underlying kt=some kd∧(∀e w',(Instr.checkKey e 10000 kt (act.eval kk)).run C.P w'= .ok () w')∧
   ∀(l:List Nat) (es:List MapEntry),Ents C act l es→(∀x∈l,x∈a0o C.all m∧Lb L x=true)→Instr.findNow kd (act.eval kk) es 0=some none:=by
 have hr': ∀o',a0H C.all i=some o'→ ∀e∈o'.after.toList,a1h e=true→Lb L e.on=true:=fun o' ho'=>by rw[ho]at ho';cases ho';exact hr
 have hmi:i∈a0o C.all m:=a1d.2 ⟨o,ho,hm⟩;obtain⟨hid,g,og,hg1,hg2,hgk⟩:=a9P ok ho hk hm;obtain⟨_,hins,hgrp⟩:=ok.pairs.grp g og m hg1 hg2 (List.ne_nil_of_mem hmi)
 let T:Nat→Prop:=fun t=> ∃x∈a0o C.all m,(x=i∨Lb L x=true)∧t∈a0u C.all x
 have hT: ∀x t,a1H C.all x=some t→T t→Lb L x=true:=by
  rintro x t hx ⟨y,hy,hyL,ht⟩;obtain⟨oy,hoy,_⟩:=a1d.1 hy;have hrc:=ok.pairs.wr y (a0M hoy) (hins y hy).1 x t hx ht;rcases hyL with rfl|hyL
  ·exact I.predL ok hrc hr'
  ·exact I.predL ok hrc fun o' ho'=>I.Lcl y o' hyL ho'
 obtain⟨hg,_⟩:=b3C ok hk ho (T:=T) I.ord I.run hi fun x hx t ht hd=>I.early x hx (hT x t hd ht);refine⟨hg, ?_⟩;obtain⟨a₁,hsk,hl⟩:=b8w ok (fun x hx=>(hins x hx).1) (T:=T) I.ord I.run ⟨i,hi,hmi⟩ fun x hx t ht hd=>I.early x hx (hT x t hd ht);obtain⟨actm,htm,hfr⟩:=I.frame ok hT
 have hop: ∀x ox,x∈a0o C.all m→(x=i∨Lb L x=true)→a0H C.all x=some ox→ ∀y∈ox.op.operands,a0A (a1a C.ld a₁) y=a0A (a1a C.ld a) y∧act.eval y=actm.eval y:=by intro x ox hx hxL hox y hy;refine⟨SameV.operands (all:=C.all) (o:=ox) (fun t ht=>(hl.same ok t ⟨x,hx,hxL,by rw[a0Q hox];exact ht⟩).symm) y hy, ?_⟩;exact Same.eval (all:=C.all) (fun t ht=>hfr t ⟨x,hx,hxL,by rw[a0Q hox];exact ht⟩) y hy
 have hval: ∀x ox t kk v kv,x∈a0o C.all m→(x=i∨Lb L x=true)→a0H C.all x=some ox→ox.op= .insert t (.tmp m) kk v→a0A (a1a C.ld a₁) kk=some kv→VR φ kv (act.eval kk):=by intro x ox t kk v kv hx hxL hox hoo hkv;obtain⟨e1,e2⟩:=hop x ox hx hxL hox kk (by rw[hoo];simp[Op.operands]);rw[e1]at hkv;rw[e2];exact a0B htm hkv
 obtain⟨t,kk,v,hoo⟩:=a7Y hm;unfold d2m at hsk;split at hsk
 ·rename_i hki0;have hki:=a3L.1 hki0 i hmi;clear hki0;have hpr:=a3L.1 hsk i hmi;unfold e2y at hki;rw[ho]at hki;simp only[hoo]at hki;cases hut:C.P.underlying t with
  |none=>rw[hut]at hki;cases hki
  |some dt=>
   rw[hut]at hki;cases dt with
   |map kt et=>
    simp only at hki;cases hukt:C.P.underlying kt with
    |none=>rw[hukt]at hki;cases hki
    |some kd=>
     rw[hukt]at hki;simp only at hki;cases hkv:a0A (a1a C.ld a₁) kk with
     |none=>rw[hkv]at hki;cases hki
     |some kv=>
      rw[hkv]at hki;simp only at hki;have hvk:=hval i o t kk v kv hmi (.inl rfl) ho hoo hkv;refine⟨t,kk,v,kt,et,kd,hoo,hut,hukt,fun e w'=>run_checkKey (P:=C.P) (w:=w') hukt hki hvk e 9999,fun l es hE hl'=> ?_⟩;refine a8Y fun e he=> ?_;obtain⟨x,hx,ox,t',m',k',v'',h1,h2,h3⟩:=hE.mem he;obtain⟨hxm,hxL⟩:=hl' x hx;have hxi:x≠i:=fun e=>by subst e;rw[hL]at hxL;cases hxL
      have hp:=a3L.1 hpr x hxm;unfold d6f at hp;rw[d8S (Ne.symm hxi)]at hp;simp only[e1U,ho,hoo,h1,h2,hkv]at hp;cases hkx:a0A (a1a C.ld a₁) k' with
      |none=>rw[hkx]at hp;cases hp
      |some kx=>
       rw[hkx]at hp;simp only at hp
       have hmm:m'=m:=by obtain⟨ox',hox',hmx⟩:=a1d.1 hxm;rw[h1]at hox';cases hox';rw[h2]at hmx;simp only[a8x,Option.some.injEq]at hmx;exact hmx
       subst hmm;have hvx:=hval x ox t' k' v'' kx hxm (.inr hxL) h1 h2 hkx
       have hke:a1w C.H0.base kv kx=some false:=by
        split at hp
        ·assumption
        ·cases hp
       rw[h3];have he:=I.sim.env;rw[I.base]at he;exact a9D he hki hke hvk hvx
   |_=>cases hki
 ·cases hsk
theorem Inv.stepA1[Ext](ok:C.Ok)(I:Inv C done rest a H pd L act actg w φ bl){i:Nat}(hi:i∈rest)(hk:a1D C.ks i= .a)(hL:Lb L i=false){o:Oper}(ho:a0H C.all i=some o)(hr: ∀e∈o.after.toList,a1h e=true→Lb L e.on=true)
  {v':Value} {w₁:World} {bl':Nat→Nat} {gx:Nat} (hgx:gx=i∨(mkM o=none∧ ∃og,a0H C.all gx=some og∧a6x C.all og≠[])) (hin: ∀m,a8x o.op=some m→ ∃og,a0H C.all gx=some og∧mkM og=some m)
  (hw: ∀j,Pend C rest L j→j≠gx→bl j<w.heap.size→w₁.heap[bl j]? =w.heap[bl j]?) (hs:HSim C.w0 φ H w₁) (hst:St C.φ0 C.ws φ w₁) (hmv: ∀d,o.dst=some d→VR φ (a8K C.P o.type) v') (hbl: ∀j,j≠i→bl' j=bl j) (hnew:cls C.P o.op=2→w.heap.size≤bl' i)
  (hE:Early C φ H (act.put o.dst v') w₁ (bl' i) o)
  (hM: ∀og m,a0H C.all gx=some og→mkM og=some m→(gx=i∨Lb L gx=true)→(∃z∈a0o C.all m,z∈rest)→MapSt C φ H (L.setIfInBounds i true) (act.put o.dst v') w₁ (bl' gx) m):Inv C done rest a H pd (L.setIfInBounds i true) (act.put o.dst v') actg w₁ φ bl':=by
 have hsz:i<L.size:=by rw[I.Lsz];exact a0M ho
 have small: ∀u,Pend C rest L u→bl u<w.heap.size:=by
  intro u ⟨hq,ou,hou,hc⟩;rcases hc with⟨hcu,hgr,hu⟩|⟨m,hmk,hz⟩
  ·rcases I.allocs u ou hu hq hou with hsk|⟨_,_,hE'⟩
   ·rcases hsk with⟨m,hm⟩|h
    ·rw[a8S hm]at hcu;cases hcu
    ·exact absurd hgr h
   ·rcases hE' with⟨_,_,_,_,hb,_⟩|⟨hU,_⟩
    ·exact a7K hb
    ·rw[b5q hcu]at hU;cases hU
  ·obtain⟨_,_,_,h1,_⟩:=I.maps u ou m hou hmk hq hz;exact a7K h1
 refine⟨I.run,I.ord,I.cov,I.dlt,I.closed,by simpa using I.Lsz, ?_, ?_, ?_,I.tr,by rw[b1Q];exact I.sz1,I.sz2,by rw[b4n];exact I.defs, ?_, ?_, ?_, ?_, ?_, ?_,hs,hst,I.base⟩
 ·intro j oj hj hoj e he hb
  by_cases hji:j=i
  ·subst hji;rw[ho]at hoj;cases hoj;exact c4i hsz (hr e he hb)
  ·rw[a1y hsz hji]at hj;exact c4i hsz (I.Lcl j oj hj hoj e he hb)
 ·intro j hj hq
  by_cases hji:j=i
  ·subst hji;exact hk
  ·rw[a1y hsz hji]at hq;exact I.early j hj hq
 ·intro j hj hq;have hji:j≠i:=fun e=>by subst e;rw[a6V hsz]at hq;cases hq
  rw[a1y hsz hji]at hq;exact I.late j hj hq
 ·intro t' h
  have hne:o.dst≠some t':=fun e=>by have:=(h i (by rw[a0E ho];exact e)).2 hi;rw[a6V hsz]at this;cases this
  rw[a0Y,if_neg (fun e=>hne e.1)];refine I.agree t' fun x hx=> ?_;have hxi:x≠i:=fun e=>by subst e;rw[a0E ho]at hx;exact hne hx
  have:=h x hx;rw[a1y hsz hxi]at this;exact this
 ·intro j oj hj hq hoj;have hji:j≠i:=fun e=>by subst e;rw[a6V hsz]at hq;cases hq
  rw[a1y hsz hji]at hq;exact I.reads j oj hj hq hoj
 ·intro j oj hj hq hoj
  by_cases hji:j=i
  ·subst hji;rw[ho]at hoj;cases hoj;exact hE
  ·rw[a1y hsz hji]at hq;have hka:=I.early j hj hq;rw[hbl j hji];refine(I.allocs j oj hj hq hoj).mono (fun hob hc hgr hu=>⟨?_,hu⟩) (fun d hdj=> ?_) rfl (a4i (all:=C.all) fun t ht=> ?_)
   ·obtain⟨ob,hob⟩:=hob;refine hw j ⟨hq,oj,hoj,.inl ⟨hc,hgr,hj⟩⟩ (fun e=> ?_) (a7K hob);rcases hgx with h|⟨_,og,h1,h2⟩
    ·exact hji (e.trans h)
    ·rw[←e,hoj]at h1;cases h1;exact h2 hgr
   ·rw[a0Y,if_neg];rintro⟨e,_⟩;exact ok.pairs.sole j d (by rw[a0E hoj];exact hdj) hka i (a0M ho) (Ne.symm hji) (by rw[a0E ho];exact e)
   ·rw[a0Y,if_neg];rintro⟨e,_⟩;have:=ok.pairs.wr j (a0M hoj) hka i t (by rw[a0E ho];exact e) (by rw[a0Q hoj];exact ht);rw[I.predL ok this fun o' ho'=>I.Lcl j o' hq ho']at hL;cases hL
 ·intro g og m h1 h2 h3 h4
  by_cases hg:g=gx
  ·subst hg;refine hM og m h1 h2 ?_ h4
   by_cases hgi:g=i
   ·exact .inl hgi
   ·exact .inr (by rwa [a1y hsz hgi]at h3)
  ·have hgi:g≠i:=fun e=>by
    subst e;rcases hgx with h|⟨h,_⟩
    ·exact hg h.symm
    ·rw[ho]at h1;cases h1;rw[h]at h2;cases h2
   have hne:a0o C.all m≠[]:=by obtain⟨z,hz,_⟩:=h4;exact List.ne_nil_of_mem hz
   obtain⟨g1,g2,_⟩:=ok.pairs.grp g og m h1 h2 hne;rw[a1y hsz hgi]at h3;rw[hbl g hgi];refine(I.maps g og m h1 h2 h3 h4).mono (fun hob hu=>⟨?_,hu⟩) (fun x hx=>a1y hsz fun e=> ?_) ?_ rfl (fun x ox hx hxL hox=>a4i (all:=C.all) fun t ht=> ?_)
   ·obtain⟨ob,hob⟩:=hob;exact hw g ⟨h3,og,h1,.inr ⟨m,h2,h4⟩⟩ hg (a7K hob)
   ·subst e;obtain⟨ox,hox,hmx⟩:=a1d.1 hx;rw[ho]at hox;cases hox;obtain⟨og',h5,h6⟩:=hin m hmx;exact ok.pairs.sole g m (by rw[a0E h1];exact a2u h2) g1 gx (a0M h5) (Ne.symm hg) (by rw[a0E h5];exact a2u h6)
   ·rw[a0Y,if_neg];rintro⟨e,_⟩;exact ok.pairs.sole g m (by rw[a0E h1];exact a2u h2) g1 i (a0M ho) (Ne.symm hgi) (by rw[a0E ho];exact e)
   ·rw[a0Y,if_neg];rintro⟨e,_⟩;have:=ok.pairs.wr x (a0M hox) (g2 x hx).1 i t (by rw[a0E ho];exact e) (by rw[a0Q hox];exact ht);rw[I.predL ok this fun o' ho'=>I.Lcl x o' hxL ho']at hL;cases hL
 ·have old: ∀u,u≠i→Pend C rest (L.setIfInBounds i true) u→Pend C rest L u:=fun u hu h=>⟨by have:=h.1;rwa [a1y hsz hu]at this,h.2⟩
  have cl2:Pend C rest (L.setIfInBounds i true) i→cls C.P o.op=2:=by
   rintro⟨_,o',ho',h⟩;rw[ho]at ho';cases ho';rcases h with⟨h,_⟩|⟨m,h,_⟩
   ·exact h
   ·exact c0T h
  intro x y hx hy hbb
  by_cases hxi:x=i
  ·by_cases hyi:y=i
   ·rw[hxi,hyi]
   ·have:=small y (old y hyi hy);rw[hbl y hyi,hxi]at hbb;have:=hnew (cl2 (hxi▸hx));omega
  ·by_cases hyi:y=i
   ·have:=small x (old x hxi hx);rw[hbl x hxi,hyi]at hbb;have:=hnew (cl2 (hyi▸hy));omega
   ·rw[hbl x hxi,hbl y hyi]at hbb;exact I.dist x y (old x hxi hx) (old y hyi hy) hbb
 ·intro j oj hkj hq hoj d hdj
  by_cases hji:j=i
  ·subst hji;rw[ho]at hoj;cases hoj;have hin:(d,a8K C.P o.type)∈C.ld:=by rw[ok.ld];exact a4K C.all C.ks j o ho (c2Z hk) hdj
   rw[a0Y,if_pos ⟨hdj,by rw[I.sz1];exact Nat.lt_of_lt_of_le (ok.ldt _ hin) ok.sz⟩];exact hmv d hdj
  ·rw[a1y hsz hji]at hq;rw[a0Y,if_neg]
   ·exact I.lval j oj hkj hq hoj d hdj
   ·rintro⟨e,_⟩;exact ok.pairs.sole j d (by rw[a0E hoj];exact hdj) hkj i (a0M ho) (Ne.symm hji) (by rw[a0E ho];exact e)
theorem b5a{P:Program}{t:TypeId}{r:Option Operand}{av:VT}{k:NK}{vo:VO}(h:a3h P (.makeMap t r) av=some (k,vo)):k= .map∧vo= .map [] 0:=by
 simp only[a3h]at h;cases r with
 |none=>simp only[Option.some.injEq,Prod.mk.injEq]at h;exact⟨h.1.symm,h.2.symm⟩
 |some r=>
  simp only at h;split at h
  ·simp only[Option.some.injEq,Prod.mk.injEq]at h;exact⟨h.1.symm,h.2.symm⟩
  ·cases h
theorem Inv.stepA[Ext](ok:C.Ok)(I:Inv C done rest a H pd L act actg w φ bl){i:Nat}(hi:i∈rest)(hk:a1D C.ks i= .a)(hL:Lb L i=false){o:Oper}(ho:a0H C.all i=some o)(hr: ∀e∈o.after.toList,a1h e=true→Lb L e.on=true)
  (r:Option Nat) {K:Act→World→Prop} {Q:Exit→Act→World→Prop} (hK: ∀act' w' bl',Inv C done rest a H pd (L.setIfInBounds i true) act' actg w' φ bl'→K act' w'):wpOpIn (Fr r) 0 C.P ⟨C.all⟩ Q i K act w:=by
 have hr': ∀o',a0H C.all i=some o'→ ∀e∈o'.after.toList,a1h e=true→Lb L e.on=true:=fun o' ho'=>by rw[ho]at ho';cases ho';exact hr
 have hsz:i<L.size:=by rw[I.Lsz];exact a0M ho
 have hself: ∀v',∀x∈o.op.operands,act.eval x=(act.put o.dst v').eval x:=by intro v' x hx;refine(a4i (all:=C.all) (act:=act) (act₁:=act.put o.dst v') (fun t ht=> ?_) x hx).symm;rw[a0Y,if_neg];rintro⟨e,_⟩;have:=ok.pairs.self i t (a0M ho) (by rw[a0E ho];exact e) (by rw[hk];simp);rw[a0Q ho]at this;exact this ht
 have hdst: ∀v' d,o.dst=some d→(act.put o.dst v').tmps.getD d undef=v':=by
  intro v' d hd;have hin:(d,a8K C.P o.type)∈C.ld:=by rw[ok.ld];exact a4K C.all C.ks i o ho (c2Z hk) hd
  rw[a0Y,if_pos ⟨hd,by rw[I.sz1];exact Nat.lt_of_lt_of_le (ok.ldt _ hin) ok.sz⟩]
 cases him:a8x o.op with
 |none=>
  obtain⟨hg,hrun⟩:=I.lateRuns ok hi hk ho him hr;refine a5J ho (fun hw=> ?_) (fun hw=>by rw[a4U,hg]at hw;cases hw);refine⟨fun _ _=>trivial, ?_⟩;rcases hrun with⟨hc,k,obj,hr1,hm,av,vo,hev,hor⟩|⟨hu,v',hr1,hm⟩
  ·rw[show(Fr r).round=r from rfl,Oper.semAt_eq _ _ _ (by intro c hcc;rw[hcc]at hc;simp[cls]at hc),hr1]
   have nb:H.base.blk w.heap.size=none:=by
    cases hb:H.base.blk w.heap.size with
    |none=>rfl
    |some y=>obtain⟨ob,hw,_⟩:=I.sim.base _ y hb;have:=a7K hw;omega
   have nu: ∀j inf,φ j=some inf→inf.blk≠w.heap.size:=by intro k inf hki;have:=I.sim.bound k inf hki;omega
   refine hK _ _ (fun x=>if x=i then w.heap.size else bl x) ?_;refine I.stepA1 ok hi hk hL ho hr (gx:=i) (.inl rfl) (fun m h=>by rw[him]at h;cases h) (fun j _ _ hlt=>alloc_old hlt) (I.sim.grow _) (I.st.trans (St.grow _ _ _)) (fun _ _=>by rw[hm];simp only[VR];exact k.one _) (fun j hj=>if_neg hj) (fun _=>by simp) ?_ ?_
   ·by_cases hgr:a6x C.all o= []
    ·refine .inr ⟨act.eval,hself _,.inl ⟨hc,k,obj,hr1, ?_, ?_, ?_, ?_, ?_, ?_⟩⟩
     ·simp only[if_true];exact a6Q
     ·intro d hd;simp only[if_true];exact hdst _ d hd
     ·simp only[if_true];exact I.st.wk.size
     ·simp only[if_true];exact I.sim.oldSize
     ·simp only[if_true];exact nb
     ·simp only[if_true];exact nu
    ·exact .inl (.inr hgr)
   ·intro og m h1 h2 _ ⟨z,hz,_⟩;rw[ho]at h1;cases h1;obtain⟨_,g2,_⟩:=ok.pairs.grp i o m ho h2 (List.ne_nil_of_mem hz)
    have hmk: ∃t rr,o.op= .makeMap t rr:=by
     unfold mkM at h2;split at h2
     ·exact⟨_,_,by assumption⟩
     ·cases h2
    obtain⟨t,rr,hmk⟩:=hmk;rw[hmk]at hev;obtain⟨rfl,rfl⟩:=b5a hev;have ho':=hor w.heap.size;simp only[OR,ERs]at ho';obtain⟨es,rfl,rfl⟩:=ho';simp only[if_true];refine⟨[],[],0,a6Q,List.nodup_nil,fun x=> ?_,rfl,hdst _ m (a2u h2),I.st.wk.size,I.sim.oldSize,nb,nu⟩;simp only[List.not_mem_nil,false_iff];rintro⟨hx,hxL⟩;obtain⟨ox,hox,hxm⟩:=a1d.1 hx;have hxi:x≠i:=fun e=>by subst e;rw[ho]at hox;cases hox;rw[him]at hxm;cases hxm
    rw[a1y hsz hxi]at hxL;have:=ok.pairs.wr x (a0M hox) (g2 x hx).1 i m (by rw[a0E ho];exact a2u h2) (by rw[a0Q hox];exact b7y hxm);rw[I.predL ok this fun o' ho'=>I.Lcl x o' hxL ho']at hL;cases hL
  ·rw[show(Fr r).round=r from rfl,Oper.semAt_eq _ _ _ (by intro c hcc;rw[hcc]at hu;cases hu),hr1];refine hK _ _ bl ?_;refine I.stepA1 ok hi hk hL ho hr (gx:=i) (.inl rfl) (fun m h=>by rw[him]at h;cases h) (fun _ _ _ _=>rfl) I.sim I.st (fun _ _=>hm) (fun _ _=>rfl) (fun hc'=> ?_) ?_ ?_
   ·rw[b5q hc']at hu;cases hu
   ·exact .inr ⟨act.eval,hself _,.inr ⟨hu,v',hr1,fun d hd=>hdst _ d hd⟩⟩
   ·intro og m h1 h2 _ _;rw[ho]at h1;cases h1;have:=c0T (P:=C.P) h2;rw[b5q this]at hu;cases hu
 |some m=>
  obtain⟨hg,t,kk,v,kt,et,kd,hop,hut,hukt,hck,hfn⟩:=I.insRuns ok hi hk hL ho him hr;obtain⟨hid,g,og,hg1,hg2,hgk⟩:=a9P ok ho hk him;have hmi:i∈a0o C.all m:=a1d.2 ⟨o,ho,him⟩;have hgL:Lb L g=true:=I.predL ok (ok.pairs.wr i (a0M ho) hk g m (by rw[a0E hg1];exact a2u hg2) (by rw[a0Q ho];exact b7y him)) hr';obtain⟨l,es,c,s1,s2,s3,s4,s5,s6,s7,s8,s9⟩:=I.maps g og m hg1 hg2 hgL ⟨i,hmi,hi⟩;have hf:=hfn l es s4 fun x hx=>(s3 x).1 hx;refine a5J ho (fun hw=> ?_) (fun hw=>by rw[a4U,hg]at hw;cases hw);refine⟨fun _ _=>trivial, ?_⟩;obtain⟨k1,k2⟩:=a2E (P:=C.P) (o₁:=.map ((⟨es⟩:Array MapEntry).push {key:=act.eval kk,val:=act.eval v,born:=c}) (c+1)) s1 (by simp)
  have hr1:(execOp act.eval o).run C.P w= .ok .skip {w with heap:=w.heap.setIfInBounds (bl g) (.map ((⟨es⟩:Array MapEntry).push {key:=act.eval kk,val:=act.eval v,born:=c}) (c+1))}:=by
   have hfk:(Instr.findKey kt (act.eval kk) es).run C.P w= .ok none w:=by simp[Instr.findKey,run_underlying hukt,hf]
   have hem:act.eval (.tmp m)= .map (some (bl g)):=s5;rw[c0q hop,hem];simp only[Instr.mapUpdate,Sem.run_bind,run_underlying hut,Result.andThen_ok,run_getObj_map s1,hck,hfk,k1,Sem.run_pure]
  rw[show(Fr r).round=r from rfl,Oper.semAt_eq _ _ _ (by intro c hcc;rw[hcc]at hop;cases hop),hr1];have hgi:g≠i:=fun e=>by subst e;rw[hgL]at hL;cases hL
  refine hK _ _ bl ?_;refine I.stepA1 ok hi hk hL ho hr (gx:=g) (.inr ⟨?_,og,hg1,b5P hg2 hmi⟩) (fun m' h=>by rw[him]at h;cases h;exact⟨og,hg1,hg2⟩) (fun j hj hne hlt=> ?_) (I.sim.apart k2 s9 s7 s8) (I.st.apart k2 s6) (fun d hd=>by rw[hid]at hd;cases hd) (fun _ _=>rfl) (fun hc'=> ?_) (.inl (.inl ⟨m,him⟩)) ?_
  ·unfold mkM;rw[hop]
  ·refine k2.there _ fun e=>hne ?_;exact I.dist j g hj ⟨hgL,og,hg1,.inr ⟨m,hg2,i,hmi,hi⟩⟩ e
  ·rw[a8S him]at hc';cases hc'
  ·intro og' m' h1 h2 _ _;rw[hg1]at h1;cases h1;rw[hg2]at h2;cases h2;have hput:act.put o.dst undef=act:=by rw[hid];rfl
   rw[hput];refine⟨l++ [i],es++ [{key:=act.eval kk,val:=act.eval v,born:=c}],c+1, ?_, ?_, ?_,Ents.snoc ho hop rfl rfl s4,s5,s6,s7,s8,s9⟩
   ·rw[k2.here];simp
   ·refine List.nodup_append.2 ⟨s2,by simp, ?_⟩;intro x hx y hy e;rw[List.mem_singleton]at hy;subst hy;subst e;rw[((s3 x).1 hx).2]at hL;cases hL
   ·intro x;rw[List.mem_append,List.mem_singleton,s3 x,c3P hsz];constructor
    ·rintro(⟨h1,h2⟩|rfl)
     ·refine⟨h1, ?_⟩;split
      ·rfl
      ·exact h2
     ·exact⟨hmi,by rw[if_pos rfl]⟩
    ·rintro⟨h1,h2⟩
     by_cases e:x=i
     ·exact .inr e
     ·rw[if_neg e]at h2;exact .inl ⟨h1,h2⟩
theorem Inv.stepE1[Ext](ok:C.Ok){i:Nat}(I:Inv C done (i::rest) a H pd L act actg w φ bl)(hk:a1D C.ks i= .e)(hL:Lb L i=false){o:Oper}(ho:a0H C.all i=some o)(hr: ∀e∈o.after.toList,a1h e=true→Lb L e.on=true)
  {v:VV} {v':Value} {φ₁:Phi} {w₁:World} {H₁:VH} {a₁:VT} {pd₁:List Nat} (hst:St φ w φ₁ w₁) (hv:VR φ₁ v v') (hs:HSim C.w0 φ₁ H₁ w₁) (hb:H₁.base=H.base) (hp:a5T C.nt a o.dst v=some a₁) (hrun:a8o C.P C.fe C.nt C.all C.ks C.ms C.H0.base C.ld rest a₁ H₁ pd₁=some C.res)
  (hT: ∀j oj,a0H C.all j=some oj→rch C.ms j i=false→(j∈pd→j∈pd₁)∧(cls C.P oj.op=0∨(j∈pd→still C.P a H₁ oj=true)∨H₁=H)):
  Inv C (i::done) rest a₁ H₁ pd₁ (L.setIfInBounds i true) (act.put o.dst v') (actg.put o.dst v') w₁ φ₁ bl:=by
 obtain⟨o',ho',hnd,hed,_,_,hord⟩:=a0j I.ord;rw[ho]at ho';cases ho';have hsz:i<L.size:=by rw[I.Lsz];exact a0M ho
 have hed': ∀o',a0H C.all i=some o'→ ∀e∈o'.after.toList,a1h e=true→e.on∈done:=fun o' ho'=>by rw[ho]at ho';cases ho';exact hed
 have hr': ∀o',a0H C.all i=some o'→ ∀e∈o'.after.toList,a1h e=true→Lb L e.on=true:=fun o' ho'=>by rw[ho]at ho';cases ho';exact hr
 have apt:=a4H hord;obtain⟨p1,p2,p3⟩:=a2a (act:=actg) (I.tr.mono hst.le) (by rw[I.sz2];exact ok.sz) ok.nt hv hp;refine⟨hrun,hord, ?_, ?_, ?_,by simpa using I.Lsz, ?_, ?_, ?_,p1,by rw[b1Q];exact I.sz1,by rw[p2];exact I.sz2,by rw[b4n];exact I.defs, ?_, ?_, ?_, ?_, ?_, ?_,hs,I.st.trans hst,hb.trans I.base⟩
 ·intro j hj;rcases I.cov j hj with h|h
  ·exact .inl (by simp[h])
  ·rcases List.mem_cons.1 h with rfl|h
   ·exact .inl (by simp)
   ·exact .inr h
 ·intro j hj;rcases List.mem_cons.1 hj with rfl|hj
  ·exact⟨o,ho⟩
  ·exact I.dlt j hj
 ·intro j oj hj hoj e he hb;rcases List.mem_cons.1 hj with rfl|hj
  ·rw[ho]at hoj;cases hoj;exact List.mem_cons_of_mem _ (hed e he hb)
  ·exact List.mem_cons_of_mem _ (I.closed j oj hj hoj e he hb)
 ·intro j oj hj hoj e he hb
  by_cases hji:j=i
  ·subst hji;rw[ho]at hoj;cases hoj;exact c4i hsz (hr e he hb)
  ·rw[a1y hsz hji]at hj;exact c4i hsz (I.Lcl j oj hj hoj e he hb)
 ·intro j hj hq;have hji:j≠i:=fun e=>by subst e;exact(apt j hj).1 (by simp)
  rw[a1y hsz hji]at hq;exact I.early j (List.mem_cons_of_mem _ hj) hq
 ·intro j hj hq;have hji:j≠i:=fun e=>by subst e;rw[a6V hsz]at hq;cases hq
  rw[a1y hsz hji]at hq;rcases List.mem_cons.1 hj with h|hj
  ·exact absurd h hji
  ·exact I.late j hj hq
 ·intro t h;rw[a0Y,a0Y,I.sz1,I.sz2]
  by_cases hc:o.dst=some t∧t<C.sz
  ·rw[if_pos hc,if_pos hc]
  ·rw[if_neg hc,if_neg hc]
   by_cases hdt:o.dst=some t
   ·have hlt: ¬t<C.sz:=fun hx=>hc ⟨hdt,hx⟩;rw[a6o (by rw[I.sz1];exact hlt),a6o (by rw[I.sz2];exact hlt)]
   ·refine I.agree t fun x hx=> ?_;have hxi:x≠i:=fun e=>by subst e;rw[a0E ho]at hx;exact hdt hx
    have:=h x hx;rw[a1y hsz hxi]at this;refine⟨fun hxd=>this.1 (List.mem_cons_of_mem _ hxd),fun hxr=> ?_⟩;rcases List.mem_cons.1 hxr with e|hxr
    ·exact absurd e hxi
    ·exact this.2 hxr
 ·intro j oj hj hq hoj;have hji:j≠i:=fun e=>by subst e;rw[a6V hsz]at hq;cases hq
  rw[a1y hsz hji]at hq
  have hjd:j∈done:=by
   rcases List.mem_cons.1 hj with h|hj
   ·exact absurd h hji
   ·exact hj
  have hrf:rch C.ms j i=false:=by
   cases hx:rch C.ms j i with
   |false=>rfl
   |true=>rw[I.predL ok hx hr']at hq;cases hq
  have hno: ∀d,o.dst=some d→d∉a0u C.all j∧a1H C.all j≠some d:=fun d hd=>I.nohit ok hnd hjd (by rw[a0E ho];exact hd) (.inr hrf);obtain⟨t1,t2⟩:=hT j oj hoj hrf;refine Told.step (I.reads j oj hjd hq hoj) (a6c ok.nt hp fun t h=> ?_) (fun d hd=> ?_) t1 hb t2
  ·have:=(hno t h).1
   rwa [a0Q hoj]at this
  ·rw[a3R ok.nt hp,if_neg];intro e;exact(hno d e).2 (by rw[a0E hoj];exact hd)
 ·intro j oj hj hq hoj;have hji:j≠i:=fun e=>by subst e;exact(apt j hj).1 (by simp)
  rw[a1y hsz hji]at hq;have hj':=List.mem_cons_of_mem i hj;have hka:=I.early j hj' hq;refine(I.allocs j oj hj' hq hoj).mono (fun hob _ _ hu=> ?_) (fun d hdj=> ?_) hb (a4i (all:=C.all) fun t ht=> ?_)
  ·obtain⟨ob,hob⟩:=hob;have hlt:=a7K hob;refine⟨hst.frame _ hlt hu,fun k inf hki hbb=> ?_⟩;rcases hst.own k inf hki with⟨k',jnf,h1,h2⟩|h
   ·exact hu k' jnf h1 (h2.trans hbb)
   ·omega
  ·rw[a0Y,if_neg];rintro⟨e,_⟩;exact ok.pairs.sole j d (by rw[a0E hoj];exact hdj) hka i (a0M ho) (Ne.symm hji) (by rw[a0E ho];exact e)
  ·rw[a0Y,if_neg];rintro⟨e,_⟩;have:=ok.pairs.wr j (a0M hoj) hka i t (by rw[a0E ho];exact e) (by rw[a0Q hoj];exact ht);rw[I.predL ok this fun o' ho'=>I.Lcl j o' hq ho']at hL;cases hL
 ·intro g og m h1 h2 h3 ⟨z,h4,h5⟩;obtain⟨g1,g2,_⟩:=ok.pairs.grp g og m h1 h2 (List.ne_nil_of_mem h4);have hgi:g≠i:=fun e=>by subst e;rw[hk]at g1;cases g1
  rw[a1y hsz hgi]at h3;refine(I.maps g og m h1 h2 h3 ⟨z,h4,List.mem_cons_of_mem _ h5⟩).mono (fun hob hu=> ?_) (fun x hx=>a1y hsz fun e=>by subst e;rw[(g2 x hx).1]at hk;cases hk) ?_ hb (fun x ox hx hxL hox=>a4i (all:=C.all) fun t ht=> ?_)
  ·obtain⟨ob,hob⟩:=hob;have hlt:=a7K hob;refine⟨hst.frame _ hlt hu,fun k inf hki hbb=> ?_⟩;rcases hst.own k inf hki with⟨k',jnf,h1,h2⟩|h
   ·exact hu k' jnf h1 (h2.trans hbb)
   ·omega
  ·rw[a0Y,if_neg];rintro⟨e,_⟩;exact ok.pairs.sole g m (by rw[a0E h1];exact a2u h2) g1 i (a0M ho) (Ne.symm hgi) (by rw[a0E ho];exact e)
  ·rw[a0Y,if_neg];rintro⟨e,_⟩;have:=ok.pairs.wr x (a0M hox) (g2 x hx).1 i t (by rw[a0E ho];exact e) (by rw[a0Q hox];exact ht);rw[I.predL ok this fun o' ho'=>I.Lcl x o' hxL ho']at hL;cases hL
 ·intro x y hx hy;have hn: ∀u,Pend C rest (L.setIfInBounds i true) u→Pend C (i::rest) L u:=fun u hu=>(hu.unset ok hsz fun e=>by rw[e,hk];simp).up;exact I.dist x y (hn x hx) (hn y hy)
 ·intro j oj hkj hq hoj d hdj;have hji:j≠i:=fun e=>by subst e;rw[hk]at hkj;cases hkj
  rw[a1y hsz hji]at hq;rw[a0Y,if_neg]
  ·exact(I.lval j oj hkj hq hoj d hdj).mono hst.le
  ·rintro⟨e,_⟩;exact ok.pairs.sole j d (by rw[a0E hoj];exact hdj) hkj i (a0M ho) (Ne.symm hji) (by rw[a0E ho];exact e)
theorem Inv.stepE[Ext](ok:C.Ok){i:Nat}(I:Inv C done (i::rest) a H pd L act actg w φ bl)(hk:a1D C.ks i= .e)(hL:Lb L i=false){o:Oper}(ho:a0H C.all i=some o)(hr: ∀e∈o.after.toList,a1h e=true→Lb L e.on=true)
  (r:Option Nat) {K:Act→World→Prop} {Q:Exit→Act→World→Prop} (hK: ∀a₁ H₁ pd₁ act' actg' w' φ',Inv C (i::done) rest a₁ H₁ pd₁ (L.setIfInBounds i true) act' actg' w' φ' bl→K act' w'):wpOpIn (Fr r) 0 C.P ⟨C.all⟩ Q i K act w:=by
 obtain⟨o',ho',_,hed,_⟩:=a0j I.ord;rw[ho]at ho';cases ho';have hsm:=I.same ok ho hL hed hr;obtain⟨hgo,hcc⟩:=a4S I.run ho;have hwant:=hsm.wanted.trans (a3F (ops:=C.all) I.tr o hgo);rcases hcc with⟨h1,a₁,h2,h3⟩|⟨_,h2,_⟩|⟨h1,_,_,v,H₁,a₁,h3,h4,h5,h6⟩|⟨h2,_⟩|⟨h2,_⟩
 ·refine a5J ho (fun hw=>by rw[hwant,h1]at hw;cases hw) (fun _=> ?_);exact hK _ _ _ _ _ _ _ (I.stepE1 ok hk hL ho hr (.refl φ w) (a2R φ) I.sim rfl h2 h3 fun j oj _ _=>⟨id,.inr (.inr rfl)⟩)
 ·rw[hk]at h2;cases h2
 ·refine a5J ho (fun _=> ?_) (fun hw=>by rw[hwant,h1]at hw;cases hw);refine c3n ok.ng ok.fe I.tr I.sim hsm h3 r _ _ ?_;intro v' w₁ φ₁ k1 k2 k3 k4;exact hK _ _ _ _ _ _ _ (I.stepE1 ok hk hL ho hr k1 k2 k3 k4 h5 h6 fun j oj hoj hrf=>⟨fun hp=>a8Q hp hrf,.inr (.inl fun hp=>a4X h4 j hp hrf oj hoj)⟩)
 ·rw[hk]at h2;cases h2
 ·rw[hk]at h2;cases h2
theorem Inv.finish[Ext](ok:C.Ok)(I:Inv C done rest a H pd L act actg w φ bl)(hall: ∀i,i<C.all.length→Lb L i=true):
  ∃φ',St C.φ0 C.ws φ' w∧TR φ' C.res.1 act.tmps∧HSim C.w0 φ' C.res.2 w∧C.res.2.base=C.H0.base∧act.tmps.size=C.sz∧act.defers=C.ds:=by
 obtain⟨done',rest',a',H',pd',actg',φ',J,hJ⟩:=Inv.norm ok rest done a H pd actg φ I;rcases hJ with rfl|⟨i,r,rfl,hL,_⟩
 ·have hrun:=J.run;simp only[a8o,Option.some.injEq]at hrun;refine⟨φ',J.st, ?_, ?_, ?_,J.sz1,J.defs⟩
  ·rw[←hrun];intro t;rw[J.agree t fun x hx=>⟨fun _=>hall x (a3J hx),fun h=>by cases h⟩];exact J.tr t
  ·rw[←hrun];exact J.sim
  ·rw[←hrun];exact J.base
 ·obtain⟨_,o,ho⟩:=a4H J.ord i (by simp);rw[hall i (a0M ho)]at hL;cases hL
theorem b0R(hsz:L.size=C.all.length){i:Nat}(hi:i<C.all.length):L.getD i true=Lb L i:=by
 unfold Lb;have:i<L.size:=by omega
 simp[this]
theorem b1w(hsz:L.size=C.all.length){i:Nat}:i∈Region.ready .any ⟨C.all⟩ L↔Lb L i=false∧ ∃o,a0H C.all i=some o∧ ∀e∈o.after.toList,a1h e=true→Lb L e.on=true:=by
 rw[mem_ready];have e0:(⟨C.all⟩:Array Oper)[i]? =a0H C.all i:=by rw[a0K];simp
 rw[e0];constructor
 ·rintro⟨h1,o,h2,h3⟩;rw[b0R hsz (a0M h2)]at h1;exact⟨h1,o,h2,fun e he hb=>h3 e (by simpa using he) (by rw[←c3F];exact hb)⟩
 ·rintro⟨h1,o,h2,h3⟩;rw[←b0R hsz (a0M h2)]at h1;exact⟨h1,o,h2,fun e he hb=>h3 e (by simpa using he) (by rw[c3F];exact hb)⟩
theorem b3x(hsz:L.size=C.all.length)(hr:Region.ready .any ⟨C.all⟩ L= []){ks:List SK}{mk:List Nat}: ∀{rest before:List Nat},a9J C.all ks mk before rest=true→(∀x∈before,Lb L x=true)→ ∀x∈rest,Lb L x=true
 | [],_,_,_,x,hx=>by cases hx
 |i::rest,before,ho,hb,x,hx=>by
  obtain⟨o,h1,_,h2,_,_,h3⟩:=a0j ho
  have hi:Lb L i=true:=by
   cases hq:Lb L i with
   |true=>rfl
   |false=>have:i∈Region.ready .any ⟨C.all⟩ L:=(b1w hsz).2 ⟨hq,o,h1,fun e he hbe=>hb _ (h2 e he hbe)⟩;rw[hr]at this;cases this
  rcases List.mem_cons.1 hx with rfl|hx
  ·exact hi
  ·exact b3x hsz hr h3 (fun y hy=>by
    rcases List.mem_cons.1 hy with rfl|hy
    ·exact hi
    ·exact hb y hy) x hx
end
theorem Inv.any[Ext]{C:Ctx}(ok:C.Ok){ord:List Nat}(hord:a9J C.all C.ks C.ms [] ord=true)(hcov: ∀i,i<C.all.length→i∈ord)(r:Option Nat){Q:Exit→Act→World→Prop}
  (hQ: ∀act w φ,St C.φ0 C.ws φ w→TR φ C.res.1 act.tmps→HSim C.w0 φ C.res.2 w→C.res.2.base=C.H0.base→act.tmps.size=C.sz→act.defers=C.ds→Q .normal act w): ∀(fuel:Nat) (l:List Nat) (done rest:List Nat) (a:VT) (H:VH) (pd:List Nat) (L:Array Bool) (act actg:Act) (w:World) (φ:Phi) (bl:Nat→Nat),
  Inv C done rest a H pd L act actg w φ bl→(∀i,i<C.all.length→Lb L i=false→i∈l)→l.length≤fuel→wpAnyIn (Fr r) 0 C.P .any ⟨C.all⟩ Q fuel L act w:=by
 intro fuel
 have fin: ∀{done rest:List Nat} {a:VT} {H:VH} {pd:List Nat} {L:Array Bool} {act actg:Act} {w:World} {φ:Phi} {bl:Nat→Nat},Inv C done rest a H pd L act actg w φ bl→(∀i,i<C.all.length→Lb L i=true)→Q .normal act w:=by intro done rest a H pd L act actg w φ bl I hall;obtain⟨φ',h1,h2,h3,h4,h5,h6⟩:=I.finish ok hall;exact hQ act w φ' h1 h2 h3 h4 h5 h6
 induction fuel with
 |zero=>
  intro l done rest a H pd L act actg w φ bl I hl hlen
  have hall: ∀i,i<C.all.length→Lb L i=true:=by
   intro i hi;cases hq:Lb L i with
   |true=>rfl
   |false=>have:=hl i hi hq;rw[List.length_eq_zero_iff.1 (Nat.le_zero.1 hlen)]at this;cases this
  refine⟨?_,fin I hall⟩;refine List.eq_nil_iff_forall_not_mem.2 fun i hi=> ?_;obtain⟨h1,o,h2,_⟩:=(b1w I.Lsz).1 hi;rw[hall i (a0M h2)]at h1;cases h1
 |succ fuel ih=>
  intro l done rest a H pd L act actg w φ bl I hl hlen;refine⟨fun hr=>fin I fun i hi=>b3x I.Lsz hr hord (fun x hx=>by cases hx) i (hcov i hi), ?_⟩;intro i hi;obtain⟨hL,o,ho,hrd⟩:=(b1w I.Lsz).1 hi;have hil:=a0M ho;have hisz:i<L.size:=by rw[I.Lsz];exact hil
  have hl': ∀j,j<C.all.length→Lb (L.setIfInBounds i true) j=false→j∈l.erase i:=by
   intro j hj hq;have hji:j≠i:=fun e=>by subst e;rw[a6V hisz]at hq;cases hq
   rw[a1y hisz hji]at hq;exact(List.mem_erase_of_ne hji).2 (hl j hj hq)
  have hlen':(l.erase i).length≤fuel:=by rw[List.length_erase_of_mem (hl i hil hL)];omega
  obtain⟨done',rest',a',H',pd',actg',φ',J,hJ⟩:=Inv.norm ok rest done a H pd actg φ I;have hrdo: ∀o',a0H C.all i=some o'→ ∀e∈o'.after.toList,a1h e=true→Lb L e.on=true:=fun o' ho'=>by rw[ho]at ho';cases ho';exact hrd
  rcases J.cov i hil with hd|hd
  ·exact J.stepD ok hd hL ho hrd r fun act' actg'' K=>ih _ _ _ _ _ _ _ _ _ _ _ _ K hl' hlen'
  ·by_cases hka:a1D C.ks i= .a
   ·exact J.stepA ok hd hka hL ho hrd r fun act' w' bl' K=>ih _ _ _ _ _ _ _ _ _ _ _ _ K hl' hlen'
   ·rcases hJ with rfl|⟨h,rr,rfl,hLh,hkh⟩
    ·cases hd
    ·have hih:i=h:=by
      rcases List.mem_cons.1 hd with e|hd
      ·exact e
      ·exfalso;have key: ∀x,rch C.ms x i=true→Lb L x=true:=fun x hx=>J.predL ok hx hrdo;cases hkk:a1D C.ks h with
       |r=>exact hkh hkk
       |e=>obtain⟨p,q,hpq⟩:=List.append_of_mem hd;have:=b2F J.ord (h::p) i q (by simp[hpq]) hka h (.inr (by simp)) hkk;rw[key h this]at hLh;cases hLh
       |a=>
        obtain⟨_,_,_,_,hga,_,hordr⟩:=a0j J.ord;obtain⟨pre,k,post,h1,h2,h3,h4⟩:=b2X (hga hkk).2 i hd hka;rcases h4 with rfl|h4
        ·rw[key h h3]at hLh;cases hLh
        ·obtain⟨p,q,hpq⟩:=List.append_of_mem h4;have hr1:=b2F hordr (pre++k::p) i q (by rw[h1,hpq];simp) hka k (.inr (by simp)) h2;have hLk:=key k hr1;have:=J.early k (by rw[h1];simp) hLk;rw[h2]at this;cases this
     subst hih
     have hke:a1D C.ks i= .e:=by
      cases hkk:a1D C.ks i with
      |r=>exact absurd hkk hkh
      |a=>exact absurd hkk hka
      |e=>rfl
     exact J.stepE ok hke hL ho hrd r fun a₁ H₁ pd₁ act' actg'' w' φ'' K=>ih _ _ _ _ _ _ _ _ _ _ _ _ K hl' hlen'
theorem a3K[Ext]{P:Program}(hng:a6U P)(hm:P.follows .mixedOrders=true){fe:FE}(hfe:FEok P fe):d9r P (a3a P fe):=by
 intro w0 nt id ops a H a₁ H₁ h hb r φ act w ht hs hn b hd;unfold a3a d7f d1b at h;generalize hms:a6w ops []=ms at h;generalize hks:kinds P ops ms ops.length 0 [] 0 ops=ks at h;generalize hord:c2z ks ms ops.length=ord at h;generalize hld:a2X P ops ks=ld at h;cases hok:d2r ops ks ms ord ops.length with
 |false=>rw[hok]at h;cases h
 |true=>
  rw[hok]at h;simp only at h;cases hlt:d7G nt ld with
  |false=>rw[hlt]at h;cases h
  |true=>
  rw[hlt]at h;simp only at h;unfold d2r at hok;cases h1:a9J ops ks ms [] ord with
  |false=>rw[h1]at hok;cases hok
  |true=>
   rw[h1]at hok;simp only at hok;cases h2:b9D (fun i=>a9z i ord) (upto ops.length 0)with
   |false=>rw[h2]at hok;cases hok
   |true=>
    rw[h2]at hok;simp only at hok;cases h3:b9j ops ks ms ops.length (upto ops.length 0)with
    |false=>rw[h3]at hok;cases hok
    |true=>
    rw[h3]at hok;simp only at hok;cases h4:b0Q ops ks ms ops.length (upto ops.length 0)with
    |false=>rw[h4]at hok;cases hok
    |true=>
    rw[h4]at hok;simp only at hok;have hcov: ∀i,i<ops.length→i∈ord:=fun i hi=>a6i.1 (a3L.1 h2 i (a2A.2 ⟨by omega,by omega⟩));have hpairs:Pairs ops ks ms:=c9T rfl h3 h4 fun x hx=>a3L.1 hok x (a2A.2 ⟨by omega,by omega⟩);refine wpIn_region_any hm ?_
    let C:Ctx:={P,fe,nt,all:=ops,ks,ms,w0,ws:={w with drawn:=w.drawn+1},φ0:=φ,H0:=H,sz:=act.tmps.size,ld,ds:=act.defers,res:=(a₁,H₁)}
    have ok:C.Ok:=⟨hng,hfe,hb,hn,hms.symm,hks.symm,hld.symm,b7i hlt,hpairs⟩
    have hL0: ∀i,Lb (Array.replicate ops.length false) i=false:=by intro i;unfold Lb;simp only[Array.getD_eq_getD_getElem?,Array.getElem?_replicate];split<;>rfl
    have hdr:St φ w φ {w with drawn:=w.drawn+1}:=St.drew rfl rfl rfl rfl;refine Inv.any (C:=C) ok h1 hcov r (Q:=PostC b w0 φ w act.tmps.size H .normal a₁ H₁) ?_ ops.length (upto ops.length 0) [] ord a H [] (Array.replicate ops.length false) act act {w with drawn:=w.drawn+1} φ (fun _=>0) ?_ ?_ ?_
    ·intro act' w' φ' k1 k2 k3 k4 k5 k6;exact⟨φ',rfl,hdr.trans k1,k2,k3,k4,k5,by rw[k6];exact hd.step (hdr.trans k1) k4⟩
    ·refine⟨h,h1,fun i hi=>.inr (hcov i hi),(fun i hi=>by cases hi),(fun j o hj=>by cases hj),(by simp[C]), ?_, ?_,(fun i hi=>by cases hi),ht,rfl,rfl,rfl,(fun _ _=>rfl),(fun i o hi=>by cases hi), ?_, ?_, ?_, ?_,hs.heap rfl,St.refl _ _,rfl⟩
     ·intro j o hj;rw[hL0]at hj;cases hj
     ·intro i _ hq;rw[hL0]at hq;cases hq
     ·intro i o _ hq;rw[hL0]at hq;cases hq
     ·intro g og m _ _ hq;rw[hL0]at hq;cases hq
     ·intro i j hi;have hq:=hi.1;rw[hL0]at hq;cases hq
     ·intro i o _ hq;rw[hL0]at hq;cases hq
    ·intro i hi _;exact a2A.2 ⟨by omega,by simpa[C]using hi⟩
    ·have: ∀n s,(upto n s).length=n:=by
      intro n
      induction n with
      |zero=>intro s;rfl
      |succ n ih=>intro s;simp[upto,ih]
     rw[this];exact Nat.le_refl _
end Go.Ev
