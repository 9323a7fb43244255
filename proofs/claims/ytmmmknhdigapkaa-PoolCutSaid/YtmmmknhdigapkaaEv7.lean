/- Engine, part 7: known calls that tell new memory, or change blocks. -/
import Derived.Test.YtmmmknhdigapkaaEv6
namespace Go.Ev
set_option linter.unusedVariables false
noncomputable section
open Go.RowKit
structure KE2 where
 f:FuncId
 xs:List VV
 nx:Nat
 pre:List (Nat×VO)
 r:VV
 post:List (Nat×VO)
 ny:Nat
def d2I:VO→VO→Bool
 |.txt ps et,o=>match o with
  |.txt ps' et'=>match vvsEq ps ps' with
   |true=>a5Z et et'|false=>false
  |_=>false
 |.list j n sz l et,o=>match o with
  |.list j' n' sz' l' et'=>match Nat.beq j j',Nat.beq n n',Nat.beq sz sz',vvsEq l l' with
   |true,true,true,true=>a5Z et et'|_,_,_,_=>false
  |_=>false
 |o,o'=>d0p o o'
theorem c1U{o o':VO}(h:d2I o o'=true):o=o':=by
 unfold d2I at h;split at h
 ·split at h
  ·split at h
   ·rename_i h1;rw[vvsEq_eq _ _ h1,a2O h]
   ·cases h
  ·cases h
 ·split at h
  ·split at h
   ·rename_i h1 h2 h3 h4;rw[Nat.eq_of_beq_eq_true h1,Nat.eq_of_beq_eq_true h2,Nat.eq_of_beq_eq_true h3,vvsEq_eq _ _ h4,a2O h]
   ·cases h
  ·cases h
 ·exact a8z h
def d1E(H:VH):List (Nat×VO)→Bool
 | []=>true
 |(i,o)::l=>match H.locs.get i with
  |some o'=>match d2I o' o with
   |true=>d1E H l|false=>false
  |none=>false
theorem c5o[Ext]{w0:World}{φ:Phi}{H:VH}{w:World}(hs:HSim w0 φ H w): ∀{l:List (Nat×VO)},d1E H l=true→c5p φ l w
 | [],_=>fun p hp=>by cases hp
 |(i,o)::l,h=>by
  simp only[d1E]at h;split at h
  ·rename_i o' ho;split at h
   ·rename_i hv;have:=c1U hv;subst this;intro p hp;rcases List.mem_cons.1 hp with rfl|hp
    ·obtain⟨inf,o'',h1,h2,h3,_⟩:=hs.live i _ ho;exact⟨inf,o'',h1,h2,h3⟩
    ·exact c5o hs h p hp
   ·cases h
  ·cases h
def c7E(ny:Nat):List (Nat×VO)→Bool
 | []=>true
 |(i,_)::l=>match Nat.blt i ny with
  |true=>c7E ny l|false=>false
def wf2(e:KE2):Bool:=match Nat.ble e.nx e.ny,Nat.ble e.ny top,c7E e.ny e.post with
 |true,true,true=>c7E e.nx e.pre|_,_,_=>false
def b5U(f:FuncId)(args:List VV)(H:VH):List KE2→Option KE2
 | []=>none
 |e::l=>match Nat.beq e.f f with
  |true=>match vvsEq e.xs args with
   |true=>match Nat.beq e.nx H.next,wf2 e with
    |true,true=>match d1E H e.pre with
     |true=>some e|false=>b5U f args H l
    |_,_=>b5U f args H l
   |false=>b5U f args H l
  |false=>b5U f args H l
def d4Q:List (Nat×VO)→TT VO→TT VO
 | [],t=>t|(i,_)::l,t=>d4Q l (t.del i)
def e0q:List (Nat×VO)→TT VO→TT VO
 | [],t=>t|(i,o)::l,t=>e0q l (t.put i o)
def e2I(e:KE2)(H:VH):VH:=⟨H.base,e0q e.post (d4Q e.pre H.locs),e.ny⟩
def d9c(KT:List KE2):KN:=fun f args H=>match b5U f args H KT with
 |some e=>some (e.r,e2I e H)|none=>none
def knA(K1:List KE)(K2:List KE2):KN:=fun f args H=>match knL K1 f args H with
 |some r=>some r|none=>d9c K2 f args H
structure Res2(e:KE2)(φ:Phi)(w:World)(φ':Phi)(w':World):Prop where
 le:φ.le φ'
 wk:WK w w'
 frame: ∀k,k<w.heap.size→(∀p∈e.pre,∀inf,φ p.1=some inf→inf.blk≠k)→w'.heap[k]? =w.heap[k]?
 own: ∀i inf,φ' i=some inf→φ i=some inf∨(i<e.ny∧inf.blk<w'.heap.size∧((∃p∈e.pre,∃jnf,φ p.1=some jnf∧jnf.blk=inf.blk)∨w.heap.size≤inf.blk))
 post:c5p φ' e.post w'
 old: ∀p∈e.post,∀inf,φ p.1=some inf→ ∃q∈e.pre,∃jnf,φ q.1=some jnf∧jnf.blk=inf.blk
 inj: ∀p∈e.post,∀q∈e.post,∀inf jnf,φ' p.1=some inf→φ' q.1=some jnf→inf.blk=jnf.blk→p.1=q.1
def d8j(P:Program)(ρ:Rho)(w0:World)(e:KE2)(S:Nat→Prop:=fun _=>False):Prop:=
 ∀(φ:Phi) (vs:List Value) (w:World),φ.ρ=ρ→w0.heap.size≤w.heap.size→(∀k,k<w0.heap.size→ ¬S k→w.heap[k]? =w0.heap[k]?)→VRs φ e.xs vs→c5p φ e.pre w→(∀i inf,φ i=some inf→(w0.heap.size≤inf.blk∨S inf.blk)∧inf.blk<w.heap.size)→
  (∀p∈e.pre,∀q∈e.pre,∀inf jnf,φ p.1=some inf→φ q.1=some jnf→inf.blk=jnf.blk→p.1=q.1)→(∀i,e.nx≤i→φ i=none)→
  Calls P e.f ⟨vs⟩ w fun en w'=> ∃v φ',en= .returned v∧VR φ' e.r v∧Res2 e φ w φ' w'
theorem b2T{ny:Nat}: ∀{l:List (Nat×VO)},c7E ny l=true→ ∀p∈l,p.1<ny
 | [],_,p,hp=>by cases hp
 |(i,o)::l,h,p,hp=>by
  simp only[c7E]at h;split at h
  ·rename_i h1;rcases List.mem_cons.1 hp with rfl|hp
   ·exact a0G h1
   ·exact b2T h p hp
  ·cases h
theorem b4J{f:FuncId}{args:List VV}{H:VH}{r:KE2}: ∀{l:List KE2},b5U f args H l=some r→r∈l∧r.f=f∧r.xs=args∧r.nx=H.next∧wf2 r=true∧d1E H r.pre=true
 | [],h=>by simp[b5U]at h
 |e::l,h=>by
  have next:b5U f args H l=some r→r∈e::l∧r.f=f∧r.xs=args∧r.nx=H.next∧wf2 r=true∧d1E H r.pre=true:=fun k=>by obtain⟨h1,h2⟩:=b4J k;exact⟨by simp[h1],h2⟩
  simp only[b5U]at h;split at h
  ·rename_i h1;split at h
   ·rename_i h2;split at h
    ·rename_i h3 h4;split at h
     ·rename_i h5;cases h;exact⟨by simp,Nat.eq_of_beq_eq_true h1,vvsEq_eq _ _ h2,Nat.eq_of_beq_eq_true h3,h4,h5⟩
     ·exact next h
    ·exact next h
   ·exact next h
  ·exact next h
theorem b2u: ∀{l:List (Nat×VO)} {t:TT VO} {i:Nat} {o:VO},(∀p∈l,p.1<top)→(d4Q l t).get i=some o→(∀p∈l,p.1≠i)∧t.get i=some o
 | [],t,i,o,_,h=>⟨fun p hp=>(by cases hp),h⟩
 |(j,x)::l,t,i,o,hk,h=>by
  obtain⟨h1,h2⟩:=b2u (l:=l) (t:=t.del j) (fun p hp=>hk p (List.mem_cons_of_mem _ hp)) h;have hj:j<top:=hk (j,x) List.mem_cons_self
  by_cases e:i=j
  ·subst e;rw[TT.get_del_same t i hj]at h2;cases h2
  ·rw[TT.get_del_other t j i e]at h2;refine⟨fun p hp=> ?_,h2⟩;rcases List.mem_cons.1 hp with rfl|hp
   ·exact fun k=>e k.symm
   ·exact h1 p hp
theorem b4o: ∀{l:List (Nat×VO)} {t:TT VO} {i:Nat} {o:VO},(∀p∈l,p.1<top)→(e0q l t).get i=some o→(i,o)∈l∨((∀p∈l,p.1≠i)∧t.get i=some o)
 | [],t,i,o,_,h=>.inr ⟨fun p hp=>(by cases hp),h⟩
 |(j,x)::l,t,i,o,hk,h=>by
  have hj:j<top:=hk (j,x) List.mem_cons_self;rcases b4o (l:=l) (t:=t.put j x) (fun p hp=>hk p (List.mem_cons_of_mem _ hp)) h with h1|⟨h1,h2⟩
  ·exact .inl (List.mem_cons_of_mem _ h1)
  ·by_cases e:i=j
   ·subst e;rw[TT.get_put_same t i x hj]at h2;cases h2;exact .inl List.mem_cons_self
   ·rw[TT.get_put_other t j i x e]at h2;refine .inr ⟨fun p hp=> ?_,h2⟩;rcases List.mem_cons.1 hp with rfl|hp
    ·exact fun k=>e k.symm
    ·exact h1 p hp
theorem c1q{H:VH}: ∀{l:List (Nat×VO)},d1E H l=true→ ∀p∈l,H.locs.get p.1=some p.2
 | [],_,p,hp=>by cases hp
 |(i,o)::l,h,p,hp=>by
  simp only[d1E]at h;split at h
  ·rename_i o' ho;split at h
   ·rename_i hv;have:=c1U hv;subst this;rcases List.mem_cons.1 hp with rfl|hp
    ·exact ho
    ·exact c1q h p hp
   ·cases h
  ·cases h
theorem d3p[Ext]{P:Program}{KT:List KE2}(hx: ∀ρ w0,Ext.ok ρ w0→ ∀e∈KT,d8j P ρ w0 e Ext.own):c4o P (d9c KT):=by
 intro w0 f args H v H' h;unfold d9c at h;split at h
 ·rename_i e he;simp only[Option.some.injEq,Prod.mk.injEq]at h;obtain⟨rfl,rfl⟩:=h;obtain⟨hm,rfl,rfl,hnx,hwf,hpre⟩:=b4J he;unfold wf2 at hwf;split at hwf
  ·rename_i w1 w2 w3;have w1:=Nat.le_of_ble_eq_true w1;have w2:=Nat.le_of_ble_eq_true w2;have kpost:=b2T w3;have kpre:=b2T hwf;intro φ w args' ha hs;have hget:=c1q hpre
   have live: ∀p∈e.pre,∀inf,φ p.1=some inf→ ∃o',w.heap[inf.blk]? =some o'∧H.base.blk inf.blk=none:=fun p hp inf hi=>by obtain⟨jnf,o',g1,g2,g3,g4⟩:=hs.live p.1 p.2 (hget p hp);rw[hi]at g1;cases g1;exact⟨o',g2,g4⟩
   refine(hx φ.ρ w0 hs.env.ext e hm φ args' w rfl hs.oldSize hs.old.same ha (c5o hs hpre) (fun i inf hi=>⟨hs.own _ _ hi,hs.bound _ _ hi⟩) (fun p hp q hq inf jnf hi hj hb=>hs.inj _ _ _ _ _ _ (hget p hp) (hget q hq) hi hj hb) (fun i hi=>hs.fresh i (by omega))).mono ?_;rintro en w' ⟨v',φ',rfl,hv,R⟩;have same: ∀k,k<w.heap.size→(∀i inf,φ i=some inf→inf.blk≠k)→w'.heap[k]? =w.heap[k]? :=fun k hk hn=>R.frame k hk fun p hp inf hi=>hn p.1 inf hi;refine⟨e.r,v',φ',e2I e H,rfl,⟨R.le,R.wk,same,fun i inf hi=> ?_⟩,hv,⟨hs.env.mono R.le,fun r b hb=> ?_,hs.old.next R.wk.size fun k hk hn=> ?_,fun i inf hi=> ?_,w2,fun i o ho=> ?_,fun i j oi oj inf jnf hoi hoj hi hj hb=> ?_,fun i hi=> ?_,fun i inf hi=> ?_⟩,rfl,rfl,rfl⟩
   ·rcases R.own i inf hi with h1|⟨_,_,⟨p,_,jnf,h1,h2⟩|h1⟩
    ·exact .inl ⟨i,inf,h1,rfl⟩
    ·exact .inl ⟨p.1,jnf,h1,h2⟩
    ·exact .inr h1
   ·obtain⟨o,h1,h2⟩:=hs.base r b hb;refine⟨o, ?_,h2⟩;rw[R.frame r (Array.getElem?_eq_some_iff.1 h1).1 fun p hp inf hi e1=> ?_]
    ·exact h1
    ·obtain⟨_,_,g⟩:=live p hp inf hi;rw[e1]at g;have hb:H.base.blk r=some b:=hb;rw[hb]at g;cases g
   ·have hlt:k<w.heap.size:=Nat.lt_of_lt_of_le hk hs.oldSize;refine R.frame k hlt fun p hp inf hi e1=> ?_;rcases hs.own _ _ hi with g|g
    ·omega
    ·exact hn (e1▸g)
   ·rcases R.own i inf hi with h1|⟨_,_,⟨p,_,jnf,h1,h2⟩|h1⟩
    ·exact hs.own i inf h1
    ·rw[←h2];exact hs.own _ _ h1
    ·exact .inl (Nat.le_trans hs.oldSize h1)
   ·rcases b4o (fun p hp=>Nat.lt_of_lt_of_le (kpost p hp) w2) ho with h1|⟨h1,h2⟩
    ·obtain⟨inf,o',g1,g2,g3⟩:=R.post _ h1;refine⟨inf,o',g1,g2,g3, ?_⟩;rcases R.own i inf g1 with k1|⟨_,_,⟨p,hp,jnf,k1,k2⟩|k1⟩
     ·obtain⟨q,hq,jnf,k2,k3⟩:=R.old _ h1 inf k1;obtain⟨_,_,g⟩:=live q hq jnf k2;rw[←k3];exact g
     ·obtain⟨_,_,g⟩:=live p hp jnf k1;rw[←k2];exact g
     ·cases hbk:H.base.blk inf.blk with
      |none=>exact hbk
      |some b=>obtain⟨o,h3,_⟩:=hs.base _ b hbk;have:=(Array.getElem?_eq_some_iff.1 h3).1;omega
    ·obtain⟨h3,h4⟩:=b2u (fun p hp=>Nat.lt_of_lt_of_le (kpre p hp) (Nat.le_trans w1 w2)) h2;obtain⟨inf,o',g1,g2,g3,g4⟩:=hs.live i o h4;refine⟨inf,o',R.le.1 _ _ g1, ?_,g3.mono R.le,g4⟩;rw[R.frame inf.blk (hs.bound _ _ g1) fun p hp jnf hj e1=> ?_]
     ·exact g2
     ·exact h3 p hp (hs.inj _ _ _ _ _ _ (hget p hp) h4 hj g1 e1)
   ·
    have cls: ∀i o inf,(e2I e H).locs.get i=some o→φ' i=some inf→((i,o)∈e.post)∨(H.locs.get i=some o∧φ i=some inf∧(∀p∈e.pre,p.1≠i)):=by
     intro i o inf ho hi;rcases b4o (fun p hp=>Nat.lt_of_lt_of_le (kpost p hp) w2) ho with h1|⟨h1,h2⟩
     ·exact .inl h1
     ·obtain⟨h3,h4⟩:=b2u (fun p hp=>Nat.lt_of_lt_of_le (kpre p hp) (Nat.le_trans w1 w2)) h2;obtain⟨jnf,o',g1,_⟩:=hs.live i o h4;have:=R.le.1 _ _ g1;rw[hi]at this;cases this;exact .inr ⟨h4,g1,h3⟩
    have cross: ∀i oi inf j oj jnf,(i,oi)∈e.post→φ' i=some inf→H.locs.get j=some oj→φ j=some jnf→(∀p∈e.pre,p.1≠j)→inf.blk≠jnf.blk:=by
     intro i oi inf j oj jnf h1 hi hoj hj hnp hb;have pr: ∀p∈e.pre,∀knf,φ p.1=some knf→knf.blk≠jnf.blk:=fun p hp knf hk e1=>hnp p hp (hs.inj _ _ _ _ _ _ (hget p hp) hoj hk hj e1);rcases R.own i inf hi with k1|⟨_,_,⟨p,hp,knf,k1,k2⟩|k1⟩
     ·obtain⟨q,hq,knf,k2,k3⟩:=R.old _ h1 inf k1;exact pr q hq knf k2 (k3.trans hb)
     ·exact pr p hp knf k1 (k2.trans hb)
     ·have:=hs.bound _ _ hj;omega
    rcases cls i oi inf hoi hi with h1|⟨h1,h2,h3⟩
    ·rcases cls j oj jnf hoj hj with k1|⟨k1,k2,k3⟩
     ·exact R.inj _ h1 _ k1 inf jnf hi hj hb
     ·exact absurd hb (cross i oi inf j oj jnf h1 hi k1 k2 k3)
    ·rcases cls j oj jnf hoj hj with k1|⟨k1,k2,k3⟩
     ·exact absurd hb.symm (cross j oj jnf i oi inf k1 hj h1 h2 h3)
     ·exact hs.inj _ _ _ _ _ _ h1 k1 h2 k2 hb
   ·show φ' i=none;have hi:e.ny≤i:=hi;cases hp:φ' i with
    |none=>rfl
    |some inf=>
     rcases R.own i inf hp with h1|⟨h1,_⟩
     ·have:=hs.fresh i (by omega);rw[h1]at this;cases this
     ·omega
   ·rcases R.own i inf hi with h1|⟨_,h1,_⟩
    ·exact Nat.lt_of_lt_of_le (hs.bound _ _ h1) R.wk.size
    ·exact h1
  ·cases hwf
 ·cases h
theorem d7M[Ext]{P:Program}{K1:List KE}{K2:List KE2}(h1:c4o P (knL K1))(h2:c4o P (d9c K2)):c4o P (knA K1 K2):=by
 intro w0 f args H v H' h;unfold knA at h;split at h
 ·rename_i r hr;simp only[Option.some.injEq]at h;subst h;exact h1 w0 f args H v H' hr
 ·exact h2 w0 f args H v H' h
end
end Go.Ev
